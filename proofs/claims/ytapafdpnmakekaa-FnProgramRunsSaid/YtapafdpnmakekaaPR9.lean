/- Texts of one claim, put together by merge.py: XP2, XF32, XP3, XS3, XF10, XF33, XS4, XD1, XD2, XS5, XT1, XP8, XP4. -/
import Derived.Test.YtapafdpnmakekaaPR8
set_option linter.unusedVariables false
set_option linter.unusedSimpArgs false
set_option maxRecDepth 20000
set_option maxHeartbeats 4000000
namespace Go.Proofs.Ytapafdpnmakekaa.X
open Go Go.RowKit
open Nat (reduceEqDiff reduceAdd reduceSub reduceLeDiff)
def allN:Nat→(Nat→Bool)→Bool
 | 0,_=>true
 | n+1,f=>allN n f&&f n
theorem allN_true {f:Nat→Bool}:∀ {n:Nat},(∀ j,j<n→f j=true)→allN n f=true
 | 0,_=>rfl
 | n+1,h=>by rw[allN,allN_true (n:=n) (fun j hj=>h j (by omega)),h n (by omega)];rfl
theorem allN_false {f:Nat→Bool} {j:Nat}:∀ {n:Nat},j<n→f j=false→allN n f=false
 | 0,h,_=>by omega
 | n+1,h,e=>by
  rw[allN]
  by_cases hj:j=n
  ·subst hj
   rw[e,Bool.and_false]
  ·rw[allN_false (n:=n) (by omega) e,Bool.false_and]
theorem allN_at {f:Nat→Bool} {j:Nat}:∀ {n:Nat},allN n f=true→j<n→f j=true
 | 0,_,h=>by omega
 | n+1,e,h=>by
  rw[allN,Bool.and_eq_true] at e
  by_cases hj:j=n
  ·subst hj
   exact e.2
  ·exact allN_at (n:=n) e.1 (by omega)
def okStep (p n:Int) (q:List Int):Bool:=decide (0≤q.getD 0 0∧q.getD 0 0<n∧0≤q.getD 1 0∧q.getD 1 0<n∧q.getD 0 0≠q.getD 1 0∧1≤q.getD 2 0∧q.getD 2 0<p)
def okOut (p n:Int) (q:List Int):Bool:=decide (0≤q.getD 0 0∧q.getD 0 0<n∧0≤q.getD 1 0∧q.getD 1 0<p∧¬ (q.getD 1 0=0∧q.getD 0 0≠0))
theorem okStep_3 {p n a b c:Int}:okStep p n [a,b,c]=decide (0≤a∧a<n∧0≤b∧b<n∧a≠b∧1≤c∧c<p):=rfl
theorem okOut_2 {p n a b:Int}:okOut p n [a,b]=decide (0≤a∧a<n∧0≤b∧b<p∧¬ (b=0∧a≠0)):=rfl
def headP (x:Prg):Bool:=isP x.p&&decide (1≤x.n∧x.n≤30∧x.st.length≤900∧1≤x.out.length∧x.out.length≤30)
def isPrg (x:Prg):Bool:=headP x&&allN x.st.length (fun i=>okStep x.p (x.n+i) (x.st.getD i []))&&allN x.out.length (fun i=>okOut x.p (x.n+x.st.length) (x.out.getD i []))
theorem isPrg_head {x:Prg} (h:headP x=false):isPrg x=false:=by unfold isPrg;rw[h];rfl
theorem isPrg_st {x:Prg} {i:Nat} (hi:i<x.st.length) (h:okStep x.p (x.n+i) (x.st.getD i [])=false):isPrg x=false:=by
 unfold isPrg
 rw[allN_false (f:=fun i:Nat=>okStep x.p (x.n+i) (x.st.getD i [])) hi h,Bool.and_false,Bool.false_and]
theorem isPrg_out {x:Prg} {i:Nat} (hi:i<x.out.length) (h:okOut x.p (x.n+x.st.length) (x.out.getD i [])=false):isPrg x=false:=by
 unfold isPrg
 rw[allN_false (f:=fun i:Nat=>okOut x.p (x.n+x.st.length) (x.out.getD i [])) hi h,Bool.and_false]
theorem isPrg_all {x:Prg} (h:headP x=true) (h1:∀ i,i<x.st.length→okStep x.p (x.n+i) (x.st.getD i [])=true) (h2:∀ i,i<x.out.length→okOut x.p (x.n+x.st.length) (x.out.getD i [])=true):isPrg x=true:=by
 unfold isPrg
 rw[h,allN_true h1,allN_true h2]
 rfl
theorem s_IsPrg {v w:Value} {x:Prg} {h:AH} {Q:Value→AH→Prop} (hv:PrgR h v w x) (hl:SmallP x) (hQ:∀ h',h<+:h'→Q (.bool (isPrg x)) h'):WF S 210 [prgV x v w] h Q:=by
 refine WF_fn (fn:=c210) rfl rfl ?_
 dsimp only[c210,oO,oM,oS,oG,oK,oE,oL,oF,oX,oN]
 obtain⟨hl1,hl2⟩:=hl
 unfold SmallE at hl1 hl2
 ((try simp (maxSteps:=3000000) (dsimp:=false) (disch:=first|omega|simp only[lnx];omega) only[↓ypre,ypost,↓reduceIte,reduceEqDiff,reduceAdd,reduceSub,reduceLeDiff,zz0,ynew,prgV,hv.1.one,hv.2.one]);try simp only[yback])
 generalize hH1:AH.new h _=H1
 obtain⟨hb1,p1,n1⟩:=new_facts hH1
 have hv1:=hv.pre p1
 refine s_l01Prime ?_
 have noH:headP x=false→∀ h',h<+:h'→Q (.bool false) h':=fun e h' p=>by
  have:=hQ h' p
  rw[isPrg_head e] at this
  exact this
 cases c0:isP x.p with
 | false=>
  ((try simp (maxSteps:=3000000) (dsimp:=false) (disch:=first|omega|simp only[lnx];omega) only[↓ypre,ypost,↓reduceIte,reduceEqDiff,reduceAdd,reduceSub,reduceLeDiff,zz0,ynew]);try simp only[yback])
  exact noH (by unfold headP;rw[c0];rfl) _ p1
 | true=>
  have zp:=isP_in c0
  ((try simp (maxSteps:=3000000) (dsimp:=false) (disch:=first|omega|simp only[lnx];omega) only[↓ypre,ypost,↓reduceIte,reduceEqDiff,reduceAdd,reduceSub,reduceLeDiff,zz0,ynew,rd1_of hb1]);try simp only[yback])
  refine s_l01In ?_
  by_cases bn:1≤x.n∧x.n≤30
  case neg=>
   ((try simp (maxSteps:=3000000) (dsimp:=false) (disch:=first|omega|simp only[lnx];omega) only[↓ypre,ypost,↓reduceIte,reduceEqDiff,reduceAdd,reduceSub,reduceLeDiff,zz0,ynew,decide_eq_false bn]);try simp only[yback])
   exact noH (by unfold headP;rw[c0];exact decide_eq_false (by omega)) _ p1
  by_cases b3:(900:Int)<x.st.length
  ·((try simp (maxSteps:=3000000) (dsimp:=false) (disch:=first|omega|simp only[lnx];omega) only[↓ypre,ypost,↓reduceIte,reduceEqDiff,reduceAdd,reduceSub,reduceLeDiff,zz0,ynew,decide_eq_true b3,decide_eq_true bn,rd1_of hb1,hv1.1.len,hv1.2.len]);try simp only[yback])
   exact noH (by unfold headP;rw[c0];exact decide_eq_false (by omega)) _ p1
  by_cases b4:(x.out.length:Int)<1
  ·((try simp (maxSteps:=3000000) (dsimp:=false) (disch:=first|omega|simp only[lnx];omega) only[↓ypre,ypost,↓reduceIte,reduceEqDiff,reduceAdd,reduceSub,reduceLeDiff,zz0,ynew,decide_eq_false b3,decide_eq_true b4,decide_eq_true bn,rd1_of hb1,hv1.1.len,hv1.2.len]);try simp only[yback])
   exact noH (by unfold headP;rw[c0];exact decide_eq_false (by omega)) _ p1
  by_cases b5:(30:Int)<x.out.length
  ·((try simp (maxSteps:=3000000) (dsimp:=false) (disch:=first|omega|simp only[lnx];omega) only[↓ypre,ypost,↓reduceIte,reduceEqDiff,reduceAdd,reduceSub,reduceLeDiff,zz0,ynew,decide_eq_false b3,decide_eq_false b4,decide_eq_true b5,decide_eq_true bn,rd1_of hb1,hv1.1.len,hv1.2.len]);try simp only[yback])
   exact noH (by unfold headP;rw[c0];exact decide_eq_false (by omega)) _ p1
  ((try simp (maxSteps:=3000000) (dsimp:=false) (disch:=first|omega|simp only[lnx];omega) only[↓ypre,ypost,↓reduceIte,reduceEqDiff,reduceAdd,reduceSub,reduceLeDiff,zz0,ynew,decide_eq_false b3,decide_eq_false b4,decide_eq_false b5,decide_eq_true bn,rd1_of hb1,hv1.1.len,hv1.2.len]);try simp only[yback])
  skip
  have hH:headP x=true:=by unfold headP;rw[c0];exact decide_eq_true (by omega)
  refine WC_loop_inv (fun m f K1=>∃ (i:Nat),m=x.st.length-i∧i≤x.st.length∧f 1=.pointer (some ⟨h.length,0,none⟩)∧f 3=I64 i∧(H1<+:K1)∧(∀ j,j<i→okStep x.p (x.n+(j:Nat)) (x.st.getD j [])=true)) ?_ (x.st.length-0) _ _ ⟨0,rfl,by omega,(by first|rfl|simp[upd_apply]),(by first|rfl|simp[upd_apply]),List.prefix_refl _,(by omega)⟩
  rintro m f K1 ⟨i,rfl,hi,f1,f3,pp,hj⟩
  have hbK:=pre_get pp hb1
  have ltK:=get_lt hbK
  have hvK:=hv1.pre pp
  by_cases hlt:(i:Int)<x.st.length
  ·have hi':i<x.st.length:=by omega
   obtain⟨n,off,hix,hrn⟩:=hvK.1.rdw hi'
   obtain⟨a,b,d,hq⟩:=all3 (hvK.1.wid hi')
   rw[hq,cel_3] at hrn
   have noS:okStep x.p (x.n+(i:Int)) [a,b,d]=false→∀ h',h<+:h'→Q (.bool false) h':=fun e h' p=>by
    have:=hQ h' p
    rw[isPrg_st hi' (by rw[hq];exact e)] at this
    exact this
   have yes:okStep x.p (x.n+(i:Int)) [a,b,d]=true→∀ j,j<i+1→okStep x.p (x.n+(j:Nat)) (x.st.getD j [])=true:=fun e j hj'=>by
    by_cases he:j=i
    ·subst he
     rw[hq]
     exact e
    ·exact hj j (by omega)
   rw[okStep_3] at noS yes
   ((try simp (maxSteps:=3000000) (dsimp:=false) (disch:=first|omega|simp only[lnx];omega) only[↓ypre,ypost,↓reduceIte,reduceEqDiff,reduceAdd,reduceSub,reduceLeDiff,zz0,ynew,f1,f3,decide_eq_true hlt,rd1_of hbK,hvK.1.len,hix,hrn,wrap64_in]);try simp only[yback])
   refine s_l01In ?_
   by_cases d1:0≤a∧a≤x.n+i-1
   case neg=>
    ((try simp (maxSteps:=3000000) (dsimp:=false) (disch:=first|omega|simp only[lnx];omega) only[↓ypre,ypost,↓reduceIte,reduceEqDiff,reduceAdd,reduceSub,reduceLeDiff,zz0,ynew,f1,f3,decide_eq_false d1]);try simp only[yback])
    exact noS (decide_eq_false (by omega)) _ (p1.trans (pp.trans (pre_new (List.prefix_refl _))))
   ((try simp (maxSteps:=3000000) (dsimp:=false) (disch:=first|omega|simp only[lnx];omega) only[↓ypre,ypost,↓reduceIte,reduceEqDiff,reduceAdd,reduceSub,reduceLeDiff,zz0,ynew,f1,f3,decide_eq_true d1]);try simp only[yback])
   refine s_l01In ?_
   by_cases d2:0≤b∧b≤x.n+i-1
   case neg=>
    ((try simp (maxSteps:=3000000) (dsimp:=false) (disch:=first|omega|simp only[lnx];omega) only[↓ypre,ypost,↓reduceIte,reduceEqDiff,reduceAdd,reduceSub,reduceLeDiff,zz0,ynew,f1,f3,decide_eq_false d2]);try simp only[yback])
    exact noS (decide_eq_false (by omega)) _ (p1.trans (pp.trans (pre_new (List.prefix_refl _))))
   by_cases d3:a=b
   ·((try simp (maxSteps:=3000000) (dsimp:=false) (disch:=first|omega|simp only[lnx];omega) only[↓ypre,ypost,↓reduceIte,reduceEqDiff,reduceAdd,reduceSub,reduceLeDiff,zz0,ynew,f1,f3,decide_eq_true d2,decide_eq_true d3]);try simp only[yback])
    exact noS (decide_eq_false (by omega)) _ (p1.trans (pp.trans (pre_new (List.prefix_refl _))))
   ((try simp (maxSteps:=3000000) (dsimp:=false) (disch:=first|omega|simp only[lnx];omega) only[↓ypre,ypost,↓reduceIte,reduceEqDiff,reduceAdd,reduceSub,reduceLeDiff,zz0,ynew,f1,f3,decide_eq_true d2,decide_eq_false d3,rd1_of hbK,wrap64_in]);try simp only[yback])
   refine s_l01In ?_
   by_cases d4:1≤d∧d≤x.p-1
   case neg=>
    ((try simp (maxSteps:=3000000) (dsimp:=false) (disch:=first|omega|simp only[lnx];omega) only[↓ypre,ypost,↓reduceIte,reduceEqDiff,reduceAdd,reduceSub,reduceLeDiff,zz0,ynew,f1,f3,decide_eq_false d4]);try simp only[yback])
    exact noS (decide_eq_false (by omega)) _ (p1.trans (pp.trans (pre_new (List.prefix_refl _))))
   ((try simp (maxSteps:=3000000) (dsimp:=false) (disch:=first|omega|simp only[lnx];omega) only[↓ypre,ypost,↓reduceIte,reduceEqDiff,reduceAdd,reduceSub,reduceLeDiff,zz0,ynew,f1,f3,decide_eq_true d4,wrap64_in]);try simp only[yback])
   refine InvQ_go (x.st.length-(i+1)) (by omega) ⟨(i+1),rfl,by omega,(by first|rfl|exact f1|(simp only[upd_apply];rfl)|(show I64 _=_;congr 1;omega)),(by first|rfl|exact f3|(simp only[upd_apply];rfl)|(show I64 _=_;congr 1;omega)),(pp.trans (pre_new (List.prefix_refl _))),(yes (decide_eq_true (by omega)))⟩
  have ei:i=x.st.length:=by omega
  subst ei
  ((try simp (maxSteps:=3000000) (dsimp:=false) (disch:=first|omega|simp only[lnx];omega) only[↓ypre,ypost,↓reduceIte,reduceEqDiff,reduceAdd,reduceSub,reduceLeDiff,zz0,ynew,f1,f3,decide_eq_false hlt,rd1_of hbK,hvK.1.len,hvK.2.len,wrap64_in]);try simp only[yback])
  refine WC_loop_inv (fun m f K2=>∃ (i:Nat),m=x.out.length-i∧i≤x.out.length∧f 1=.pointer (some ⟨h.length,0,none⟩)∧f 6=I64 i∧(H1<+:K2)∧(∀ j,j<i→okOut x.p (x.n+x.st.length) (x.out.getD j [])=true)) ?_ (x.out.length-0) _ _ ⟨0,rfl,by omega,(by first|rfl|exact f1|(simp[upd_apply];done)),(by first|rfl|simp[upd_apply]),pp,(by omega)⟩
  rintro m f K2 ⟨i,rfl,hi,f1,f6,pp,hj2⟩
  have hbK:=pre_get pp hb1
  have ltK:=get_lt hbK
  have hvK:=hv1.pre pp
  by_cases hlt:(i:Int)<x.out.length
  ·have hi':i<x.out.length:=by omega
   obtain⟨n,off,hix,hrn⟩:=hvK.2.rdw hi'
   obtain⟨a,b,hq⟩:=all2 (hvK.2.wid hi')
   rw[hq,cel_2] at hrn
   have noS:okOut x.p (x.n+x.st.length) [a,b]=false→∀ h',h<+:h'→Q (.bool false) h':=fun e h' p=>by
    have:=hQ h' p
    rw[isPrg_out hi' (by rw[hq];exact e)] at this
    exact this
   have yes:okOut x.p (x.n+x.st.length) [a,b]=true→∀ j,j<i+1→okOut x.p (x.n+x.st.length) (x.out.getD j [])=true:=fun e j hj'=>by
    by_cases he:j=i
    ·subst he
     rw[hq]
     exact e
    ·exact hj2 j (by omega)
   rw[okOut_2] at noS yes
   ((try simp (maxSteps:=3000000) (dsimp:=false) (disch:=first|omega|simp only[lnx];omega) only[↓ypre,ypost,↓reduceIte,reduceEqDiff,reduceAdd,reduceSub,reduceLeDiff,zz0,ynew,f1,f6,decide_eq_true hlt,rd1_of hbK,hvK.2.len,hvK.1.len,hix,hrn,wrap64_in]);try simp only[yback])
   refine s_l01In ?_
   by_cases d1:0≤a∧a≤x.n+x.st.length-1
   case neg=>
    ((try simp (maxSteps:=3000000) (dsimp:=false) (disch:=first|omega|simp only[lnx];omega) only[↓ypre,ypost,↓reduceIte,reduceEqDiff,reduceAdd,reduceSub,reduceLeDiff,zz0,ynew,f1,f6,decide_eq_false d1]);try simp only[yback])
    exact noS (decide_eq_false (by omega)) _ (p1.trans (pp.trans (pre_new (List.prefix_refl _))))
   ((try simp (maxSteps:=3000000) (dsimp:=false) (disch:=first|omega|simp only[lnx];omega) only[↓ypre,ypost,↓reduceIte,reduceEqDiff,reduceAdd,reduceSub,reduceLeDiff,zz0,ynew,f1,f6,decide_eq_true d1,rd1_of hbK,wrap64_in]);try simp only[yback])
   refine s_l01In ?_
   by_cases d2:0≤b∧b≤x.p-1
   case neg=>
    ((try simp (maxSteps:=3000000) (dsimp:=false) (disch:=first|omega|simp only[lnx];omega) only[↓ypre,ypost,↓reduceIte,reduceEqDiff,reduceAdd,reduceSub,reduceLeDiff,zz0,ynew,f1,f6,decide_eq_false d2]);try simp only[yback])
    exact noS (decide_eq_false (by omega)) _ (p1.trans (pp.trans (pre_new (List.prefix_refl _))))
   by_cases d3:b=0
   ·by_cases d4:a=0
    ·((try simp (maxSteps:=3000000) (dsimp:=false) (disch:=first|omega|simp only[lnx];omega) only[↓ypre,ypost,↓reduceIte,reduceEqDiff,reduceAdd,reduceSub,reduceLeDiff,zz0,ynew,f1,f6,decide_eq_true d2,decide_eq_true d3,decide_eq_false (show ¬ a≠0 by omega),wrap64_in]);try simp only[yback])
     refine InvQ_go (x.out.length-(i+1)) (by omega) ⟨(i+1),rfl,by omega,(by first|rfl|exact f1|(simp only[upd_apply];rfl)|(show I64 _=_;congr 1;omega)),(by first|rfl|exact f6|(simp only[upd_apply];rfl)|(show I64 _=_;congr 1;omega)),(pp.trans (pre_new (List.prefix_refl _))),(yes (decide_eq_true (by omega)))⟩
    ·((try simp (maxSteps:=3000000) (dsimp:=false) (disch:=first|omega|simp only[lnx];omega) only[↓ypre,ypost,↓reduceIte,reduceEqDiff,reduceAdd,reduceSub,reduceLeDiff,zz0,ynew,f1,f6,decide_eq_true d2,decide_eq_true d3,decide_eq_true d4]);try simp only[yback])
     exact noS (decide_eq_false (by omega)) _ (p1.trans (pp.trans (pre_new (List.prefix_refl _))))
   ((try simp (maxSteps:=3000000) (dsimp:=false) (disch:=first|omega|simp only[lnx];omega) only[↓ypre,ypost,↓reduceIte,reduceEqDiff,reduceAdd,reduceSub,reduceLeDiff,zz0,ynew,f1,f6,decide_eq_true d2,decide_eq_false d3,wrap64_in]);try simp only[yback])
   refine InvQ_go (x.out.length-(i+1)) (by omega) ⟨(i+1),rfl,by omega,(by first|rfl|exact f1|(simp only[upd_apply];rfl)|(show I64 _=_;congr 1;omega)),(by first|rfl|exact f6|(simp only[upd_apply];rfl)|(show I64 _=_;congr 1;omega)),(pp.trans (pre_new (List.prefix_refl _))),(yes (decide_eq_true (by omega)))⟩
  have ei:i=x.out.length:=by omega
  subst ei
  ((try simp (maxSteps:=3000000) (dsimp:=false) (disch:=first|omega|simp only[lnx];omega) only[↓ypre,ypost,↓reduceIte,reduceEqDiff,reduceAdd,reduceSub,reduceLeDiff,zz0,ynew,f1,f6,decide_eq_false hlt,rd1_of hbK,hvK.2.len]);try simp only[yback])
  have:=hQ _ (p1.trans pp)
  rw[isPrg_all hH hj hj2] at this
  exact this
theorem i_IsPrg {v w:Value} {x:Prg} {h:AH} {Q:Value→AH→Prop} (hv:PrgR h v w x) (hl:SmallP x) (hQ:∀ h',h<+:h'→Q (.bool (isPrg x)) h'):WF S 59 [prgV x v w] h Q:=by
 refine WF_fn (fn:=c59) rfl rfl ?_
 dsimp only[c59,oO,oM,oS,oG,oK,oE,oL,oF,oX,oN]
 obtain⟨hl1,hl2⟩:=hl
 unfold SmallE at hl1 hl2
 ((try simp (maxSteps:=3000000) (dsimp:=false) (disch:=first|omega|simp only[lnx];omega) only[↓ypre,ypost,↓reduceIte,reduceEqDiff,reduceAdd,reduceSub,reduceLeDiff,zz0,ynew,prgV,hv.1.one,hv.2.one]);try simp only[yback])
 generalize hH1:AH.new h _=H1
 obtain⟨hb1,p1,n1⟩:=new_facts hH1
 have hv1:=hv.pre p1
 refine i_isPrime ?_
 have noH:headP x=false→∀ h',h<+:h'→Q (.bool false) h':=fun e h' p=>by
  have:=hQ h' p
  rw[isPrg_head e] at this
  exact this
 cases c0:isP x.p with
 | false=>
  ((try simp (maxSteps:=3000000) (dsimp:=false) (disch:=first|omega|simp only[lnx];omega) only[↓ypre,ypost,↓reduceIte,reduceEqDiff,reduceAdd,reduceSub,reduceLeDiff,zz0,ynew]);try simp only[yback])
  exact noH (by unfold headP;rw[c0];rfl) _ p1
 | true=>
  have zp:=isP_in c0
  by_cases b1:x.n<1
  ·((try simp (maxSteps:=3000000) (dsimp:=false) (disch:=first|omega|simp only[lnx];omega) only[↓ypre,ypost,↓reduceIte,reduceEqDiff,reduceAdd,reduceSub,reduceLeDiff,zz0,ynew,decide_eq_true b1,rd1_of hb1,hv1.1.len,hv1.2.len]);try simp only[yback])
   exact noH (by unfold headP;rw[c0];exact decide_eq_false (by omega)) _ p1
  by_cases b2:(30:Int)<x.n
  ·((try simp (maxSteps:=3000000) (dsimp:=false) (disch:=first|omega|simp only[lnx];omega) only[↓ypre,ypost,↓reduceIte,reduceEqDiff,reduceAdd,reduceSub,reduceLeDiff,zz0,ynew,decide_eq_false b1,decide_eq_true b2,rd1_of hb1,hv1.1.len,hv1.2.len]);try simp only[yback])
   exact noH (by unfold headP;rw[c0];exact decide_eq_false (by omega)) _ p1
  by_cases b3:(900:Int)<x.st.length
  ·((try simp (maxSteps:=3000000) (dsimp:=false) (disch:=first|omega|simp only[lnx];omega) only[↓ypre,ypost,↓reduceIte,reduceEqDiff,reduceAdd,reduceSub,reduceLeDiff,zz0,ynew,decide_eq_false b1,decide_eq_false b2,decide_eq_true b3,rd1_of hb1,hv1.1.len,hv1.2.len]);try simp only[yback])
   exact noH (by unfold headP;rw[c0];exact decide_eq_false (by omega)) _ p1
  by_cases b4:(x.out.length:Int)<1
  ·((try simp (maxSteps:=3000000) (dsimp:=false) (disch:=first|omega|simp only[lnx];omega) only[↓ypre,ypost,↓reduceIte,reduceEqDiff,reduceAdd,reduceSub,reduceLeDiff,zz0,ynew,decide_eq_false b1,decide_eq_false b2,decide_eq_false b3,decide_eq_true b4,rd1_of hb1,hv1.1.len,hv1.2.len]);try simp only[yback])
   exact noH (by unfold headP;rw[c0];exact decide_eq_false (by omega)) _ p1
  by_cases b5:(30:Int)<x.out.length
  ·((try simp (maxSteps:=3000000) (dsimp:=false) (disch:=first|omega|simp only[lnx];omega) only[↓ypre,ypost,↓reduceIte,reduceEqDiff,reduceAdd,reduceSub,reduceLeDiff,zz0,ynew,decide_eq_false b1,decide_eq_false b2,decide_eq_false b3,decide_eq_false b4,decide_eq_true b5,rd1_of hb1,hv1.1.len,hv1.2.len]);try simp only[yback])
   exact noH (by unfold headP;rw[c0];exact decide_eq_false (by omega)) _ p1
  ((try simp (maxSteps:=3000000) (dsimp:=false) (disch:=first|omega|simp only[lnx];omega) only[↓ypre,ypost,↓reduceIte,reduceEqDiff,reduceAdd,reduceSub,reduceLeDiff,zz0,ynew,decide_eq_false b1,decide_eq_false b2,decide_eq_false b3,decide_eq_false b4,decide_eq_false b5,rd1_of hb1,hv1.1.len,hv1.2.len]);try simp only[yback])
  skip
  have hH:headP x=true:=by unfold headP;rw[c0];exact decide_eq_true (by omega)
  refine WC_loop_inv (fun m f K1=>∃ (i:Nat),m=x.st.length-i∧i≤x.st.length∧f 1=.pointer (some ⟨h.length,0,none⟩)∧f 42=v∧f 43=I64 x.st.length∧f 44=I64 i∧(H1<+:K1)∧(∀ j,j<i→okStep x.p (x.n+(j:Nat)) (x.st.getD j [])=true)) ?_ (x.st.length-0) _ _ ⟨0,rfl,by omega,(by first|rfl|simp[upd_apply]),(by first|rfl|simp[upd_apply]),(by first|rfl|simp[upd_apply]),(by first|rfl|simp[upd_apply]),List.prefix_refl _,(by omega)⟩
  rintro m f K1 ⟨i,rfl,hi,f1,f42,f43,f44,pp,hj⟩
  have hbK:=pre_get pp hb1
  have ltK:=get_lt hbK
  have hvK:=hv1.pre pp
  by_cases hlt:(i:Int)<x.st.length
  ·have hi':i<x.st.length:=by omega
   obtain⟨n,off,hix,hrn⟩:=hvK.1.rdw hi'
   obtain⟨a,b,d,hq⟩:=all3 (hvK.1.wid hi')
   rw[hq,cel_3] at hrn
   have noS:okStep x.p (x.n+(i:Int)) [a,b,d]=false→∀ h',h<+:h'→Q (.bool false) h':=fun e h' p=>by
    have:=hQ h' p
    rw[isPrg_st hi' (by rw[hq];exact e)] at this
    exact this
   have yes:okStep x.p (x.n+(i:Int)) [a,b,d]=true→∀ j,j<i+1→okStep x.p (x.n+(j:Nat)) (x.st.getD j [])=true:=fun e j hj'=>by
    by_cases he:j=i
    ·subst he
     rw[hq]
     exact e
    ·exact hj j (by omega)
   rw[okStep_3] at noS yes
   by_cases d1:a<0
   ·((try simp (maxSteps:=3000000) (dsimp:=false) (disch:=first|omega|simp only[lnx];omega) only[↓ypre,ypost,↓reduceIte,reduceEqDiff,reduceAdd,reduceSub,reduceLeDiff,zz0,ynew,f1,f42,f43,f44,decide_eq_true d1,decide_eq_true hlt,rd1_of hbK,hix,hrn,wrap64_in]);try simp only[yback])
    exact noS (decide_eq_false (by omega)) _ (p1.trans (pp.trans (pre_new (List.prefix_refl _))))
   by_cases d2:x.n+(i:Int)≤a
   ·((try simp (maxSteps:=3000000) (dsimp:=false) (disch:=first|omega|simp only[lnx];omega) only[↓ypre,ypost,↓reduceIte,reduceEqDiff,reduceAdd,reduceSub,reduceLeDiff,zz0,ynew,f1,f42,f43,f44,decide_eq_false d1,decide_eq_true d2,decide_eq_true hlt,rd1_of hbK,hix,hrn,wrap64_in]);try simp only[yback])
    exact noS (decide_eq_false (by omega)) _ (p1.trans (pp.trans (pre_new (List.prefix_refl _))))
   by_cases d3:b<0
   ·((try simp (maxSteps:=3000000) (dsimp:=false) (disch:=first|omega|simp only[lnx];omega) only[↓ypre,ypost,↓reduceIte,reduceEqDiff,reduceAdd,reduceSub,reduceLeDiff,zz0,ynew,f1,f42,f43,f44,decide_eq_false d1,decide_eq_false d2,decide_eq_true d3,decide_eq_true hlt,rd1_of hbK,hix,hrn,wrap64_in]);try simp only[yback])
    exact noS (decide_eq_false (by omega)) _ (p1.trans (pp.trans (pre_new (List.prefix_refl _))))
   by_cases d4:x.n+(i:Int)≤b
   ·((try simp (maxSteps:=3000000) (dsimp:=false) (disch:=first|omega|simp only[lnx];omega) only[↓ypre,ypost,↓reduceIte,reduceEqDiff,reduceAdd,reduceSub,reduceLeDiff,zz0,ynew,f1,f42,f43,f44,decide_eq_false d1,decide_eq_false d2,decide_eq_false d3,decide_eq_true d4,decide_eq_true hlt,rd1_of hbK,hix,hrn,wrap64_in]);try simp only[yback])
    exact noS (decide_eq_false (by omega)) _ (p1.trans (pp.trans (pre_new (List.prefix_refl _))))
   by_cases d5:a=b
   ·((try simp (maxSteps:=3000000) (dsimp:=false) (disch:=first|omega|simp only[lnx];omega) only[↓ypre,ypost,↓reduceIte,reduceEqDiff,reduceAdd,reduceSub,reduceLeDiff,zz0,ynew,f1,f42,f43,f44,decide_eq_false d1,decide_eq_false d2,decide_eq_false d3,decide_eq_false d4,decide_eq_true d5,decide_eq_true hlt,rd1_of hbK,hix,hrn,wrap64_in]);try simp only[yback])
    exact noS (decide_eq_false (by omega)) _ (p1.trans (pp.trans (pre_new (List.prefix_refl _))))
   by_cases d6:d<1
   ·((try simp (maxSteps:=3000000) (dsimp:=false) (disch:=first|omega|simp only[lnx];omega) only[↓ypre,ypost,↓reduceIte,reduceEqDiff,reduceAdd,reduceSub,reduceLeDiff,zz0,ynew,f1,f42,f43,f44,decide_eq_false d1,decide_eq_false d2,decide_eq_false d3,decide_eq_false d4,decide_eq_false d5,decide_eq_true d6,decide_eq_true hlt,rd1_of hbK,hix,hrn,wrap64_in]);try simp only[yback])
    exact noS (decide_eq_false (by omega)) _ (p1.trans (pp.trans (pre_new (List.prefix_refl _))))
   by_cases d7:x.p≤d
   ·((try simp (maxSteps:=3000000) (dsimp:=false) (disch:=first|omega|simp only[lnx];omega) only[↓ypre,ypost,↓reduceIte,reduceEqDiff,reduceAdd,reduceSub,reduceLeDiff,zz0,ynew,f1,f42,f43,f44,decide_eq_false d1,decide_eq_false d2,decide_eq_false d3,decide_eq_false d4,decide_eq_false d5,decide_eq_false d6,decide_eq_true d7,decide_eq_true hlt,rd1_of hbK,hix,hrn,wrap64_in]);try simp only[yback])
    exact noS (decide_eq_false (by omega)) _ (p1.trans (pp.trans (pre_new (List.prefix_refl _))))
   ((try simp (maxSteps:=3000000) (dsimp:=false) (disch:=first|omega|simp only[lnx];omega) only[↓ypre,ypost,↓reduceIte,reduceEqDiff,reduceAdd,reduceSub,reduceLeDiff,zz0,ynew,f1,f42,f43,f44,decide_eq_false d1,decide_eq_false d2,decide_eq_false d3,decide_eq_false d4,decide_eq_false d5,decide_eq_false d6,decide_eq_false d7,decide_eq_true hlt,rd1_of hbK,hix,hrn,wrap64_in]);try simp only[yback])
   skip
   refine InvQ_go (x.st.length-(i+1)) (by omega) ⟨(i+1),rfl,by omega,(by first|rfl|exact f1|(simp only[upd_apply];rfl)|(show I64 _=_;congr 1;omega)),(by first|rfl|exact f42|(simp only[upd_apply];rfl)|(show I64 _=_;congr 1;omega)),(by first|rfl|exact f43|(simp only[upd_apply];rfl)|(show I64 _=_;congr 1;omega)),(by first|rfl|exact f44|(simp only[upd_apply];rfl)|(show I64 _=_;congr 1;omega)),(pp.trans (pre_new (List.prefix_refl _))),(yes (decide_eq_true (by omega)))⟩
  have ei:i=x.st.length:=by omega
  subst ei
  ((try simp (maxSteps:=3000000) (dsimp:=false) (disch:=first|omega|simp only[lnx];omega) only[↓ypre,ypost,↓reduceIte,reduceEqDiff,reduceAdd,reduceSub,reduceLeDiff,zz0,ynew,f1,f42,f43,f44,decide_eq_false hlt,rd1_of hbK,hvK.1.len,hvK.2.len,wrap64_in]);try simp only[yback])
  refine WC_loop_inv (fun m f K2=>∃ (i:Nat),m=x.out.length-i∧i≤x.out.length∧f 1=.pointer (some ⟨h.length,0,none⟩)∧f 6=I64 (x.n+x.st.length)∧f 100=w∧f 101=I64 x.out.length∧f 102=I64 i∧(H1<+:K2)∧(∀ j,j<i→okOut x.p (x.n+x.st.length) (x.out.getD j [])=true)) ?_ (x.out.length-0) _ _ ⟨0,rfl,by omega,(by first|rfl|exact f1|(simp[upd_apply];done)),(by first|rfl|simp[upd_apply]),(by first|rfl|simp[upd_apply]),(by first|rfl|simp[upd_apply]),(by first|rfl|simp[upd_apply]),pp,(by omega)⟩
  rintro m f K2 ⟨i,rfl,hi,f1,f6,f100,f101,f102,pp,hj2⟩
  have hbK:=pre_get pp hb1
  have ltK:=get_lt hbK
  have hvK:=hv1.pre pp
  by_cases hlt:(i:Int)<x.out.length
  ·have hi':i<x.out.length:=by omega
   obtain⟨n,off,hix,hrn⟩:=hvK.2.rdw hi'
   obtain⟨a,b,hq⟩:=all2 (hvK.2.wid hi')
   rw[hq,cel_2] at hrn
   have noS:okOut x.p (x.n+x.st.length) [a,b]=false→∀ h',h<+:h'→Q (.bool false) h':=fun e h' p=>by
    have:=hQ h' p
    rw[isPrg_out hi' (by rw[hq];exact e)] at this
    exact this
   have yes:okOut x.p (x.n+x.st.length) [a,b]=true→∀ j,j<i+1→okOut x.p (x.n+x.st.length) (x.out.getD j [])=true:=fun e j hj'=>by
    by_cases he:j=i
    ·subst he
     rw[hq]
     exact e
    ·exact hj2 j (by omega)
   rw[okOut_2] at noS yes
   by_cases d1:a<0
   ·((try simp (maxSteps:=3000000) (dsimp:=false) (disch:=first|omega|simp only[lnx];omega) only[↓ypre,ypost,↓reduceIte,reduceEqDiff,reduceAdd,reduceSub,reduceLeDiff,zz0,ynew,f1,f6,f100,f101,f102,decide_eq_true d1,decide_eq_true hlt,rd1_of hbK,hix,hrn,wrap64_in]);try simp only[yback])
    exact noS (decide_eq_false (by omega)) _ (p1.trans (pp.trans (pre_new (List.prefix_refl _))))
   by_cases d2:x.n+(x.st.length:Int)≤a
   ·((try simp (maxSteps:=3000000) (dsimp:=false) (disch:=first|omega|simp only[lnx];omega) only[↓ypre,ypost,↓reduceIte,reduceEqDiff,reduceAdd,reduceSub,reduceLeDiff,zz0,ynew,f1,f6,f100,f101,f102,decide_eq_false d1,decide_eq_true d2,decide_eq_true hlt,rd1_of hbK,hix,hrn,wrap64_in]);try simp only[yback])
    exact noS (decide_eq_false (by omega)) _ (p1.trans (pp.trans (pre_new (List.prefix_refl _))))
   by_cases d3:b<0
   ·((try simp (maxSteps:=3000000) (dsimp:=false) (disch:=first|omega|simp only[lnx];omega) only[↓ypre,ypost,↓reduceIte,reduceEqDiff,reduceAdd,reduceSub,reduceLeDiff,zz0,ynew,f1,f6,f100,f101,f102,decide_eq_false d1,decide_eq_false d2,decide_eq_true d3,decide_eq_true hlt,rd1_of hbK,hix,hrn,wrap64_in]);try simp only[yback])
    exact noS (decide_eq_false (by omega)) _ (p1.trans (pp.trans (pre_new (List.prefix_refl _))))
   by_cases d4:x.p≤b
   ·((try simp (maxSteps:=3000000) (dsimp:=false) (disch:=first|omega|simp only[lnx];omega) only[↓ypre,ypost,↓reduceIte,reduceEqDiff,reduceAdd,reduceSub,reduceLeDiff,zz0,ynew,f1,f6,f100,f101,f102,decide_eq_false d1,decide_eq_false d2,decide_eq_false d3,decide_eq_true d4,decide_eq_true hlt,rd1_of hbK,hix,hrn,wrap64_in]);try simp only[yback])
    exact noS (decide_eq_false (by omega)) _ (p1.trans (pp.trans (pre_new (List.prefix_refl _))))
   by_cases d5:b=0
   ·by_cases d6:a=0
    ·((try simp (maxSteps:=3000000) (dsimp:=false) (disch:=first|omega|simp only[lnx];omega) only[↓ypre,ypost,↓reduceIte,reduceEqDiff,reduceAdd,reduceSub,reduceLeDiff,zz0,ynew,f1,f6,f100,f101,f102,decide_eq_false d1,decide_eq_false d2,decide_eq_false d3,decide_eq_false d4,decide_eq_true d5,decide_eq_false (show ¬ a≠0 by omega),decide_eq_true hlt,rd1_of hbK,hix,hrn,wrap64_in]);try simp only[yback])
     refine InvQ_go (x.out.length-(i+1)) (by omega) ⟨(i+1),rfl,by omega,(by first|rfl|exact f1|(simp only[upd_apply];rfl)|(show I64 _=_;congr 1;omega)),(by first|rfl|exact f6|(simp only[upd_apply];rfl)|(show I64 _=_;congr 1;omega)),(by first|rfl|exact f100|(simp only[upd_apply];rfl)|(show I64 _=_;congr 1;omega)),(by first|rfl|exact f101|(simp only[upd_apply];rfl)|(show I64 _=_;congr 1;omega)),(by first|rfl|exact f102|(simp only[upd_apply];rfl)|(show I64 _=_;congr 1;omega)),(pp.trans (pre_new (List.prefix_refl _))),(yes (decide_eq_true (by omega)))⟩
    ·((try simp (maxSteps:=3000000) (dsimp:=false) (disch:=first|omega|simp only[lnx];omega) only[↓ypre,ypost,↓reduceIte,reduceEqDiff,reduceAdd,reduceSub,reduceLeDiff,zz0,ynew,f1,f6,f100,f101,f102,decide_eq_false d1,decide_eq_false d2,decide_eq_false d3,decide_eq_false d4,decide_eq_true d5,decide_eq_true d6,decide_eq_true hlt,rd1_of hbK,hix,hrn,wrap64_in]);try simp only[yback])
     exact noS (decide_eq_false (by omega)) _ (p1.trans (pp.trans (pre_new (List.prefix_refl _))))
   ((try simp (maxSteps:=3000000) (dsimp:=false) (disch:=first|omega|simp only[lnx];omega) only[↓ypre,ypost,↓reduceIte,reduceEqDiff,reduceAdd,reduceSub,reduceLeDiff,zz0,ynew,f1,f6,f100,f101,f102,decide_eq_false d1,decide_eq_false d2,decide_eq_false d3,decide_eq_false d4,decide_eq_false d5,decide_eq_true hlt,rd1_of hbK,hix,hrn,wrap64_in]);try simp only[yback])
   refine InvQ_go (x.out.length-(i+1)) (by omega) ⟨(i+1),rfl,by omega,(by first|rfl|exact f1|(simp only[upd_apply];rfl)|(show I64 _=_;congr 1;omega)),(by first|rfl|exact f6|(simp only[upd_apply];rfl)|(show I64 _=_;congr 1;omega)),(by first|rfl|exact f100|(simp only[upd_apply];rfl)|(show I64 _=_;congr 1;omega)),(by first|rfl|exact f101|(simp only[upd_apply];rfl)|(show I64 _=_;congr 1;omega)),(by first|rfl|exact f102|(simp only[upd_apply];rfl)|(show I64 _=_;congr 1;omega)),(pp.trans (pre_new (List.prefix_refl _))),(yes (decide_eq_true (by omega)))⟩
  have ei:i=x.out.length:=by omega
  subst ei
  ((try simp (maxSteps:=3000000) (dsimp:=false) (disch:=first|omega|simp only[lnx];omega) only[↓ypre,ypost,↓reduceIte,reduceEqDiff,reduceAdd,reduceSub,reduceLeDiff,zz0,ynew,f1,f6,f100,f101,f102,decide_eq_false hlt,rd1_of hbK,hvK.2.len]);try simp only[yback])
  have:=hQ _ (p1.trans pp)
  rw[isPrg_all hH hj hj2] at this
  exact this
end Go.Proofs.Ytapafdpnmakekaa.X

set_option linter.unusedVariables false
set_option linter.unusedSimpArgs false
set_option maxRecDepth 20000
set_option maxHeartbeats 4000000
namespace Go.Proofs.Ytapafdpnmakekaa.X
open Go Go.RowKit
theorem Keeps.trans {lo:Nat} {h h' h'':AH} (k:Keeps lo h h') (k':Keeps lo h' h''):Keeps lo h h'':=⟨Nat.le_trans k.1 k'.1,fun n b hn hb=>k'.2 n b hn (k.2 n b hn hb)⟩
theorem WayF.pre {h h':AH} {lo:Nat} {sv:Value} {l:List Int} (w:WayF h lo sv l) (p:h<+:h'):WayF h' lo sv l:=by
 obtain⟨kb,full,e,h1,h2⟩:=w
 exact⟨kb,full,e,h1,pre_get p h2⟩
end Go.Proofs.Ytapafdpnmakekaa.X

set_option linter.unusedVariables false
set_option linter.unusedSimpArgs false
set_option maxRecDepth 20000
set_option maxHeartbeats 4000000
namespace Go.Proofs.Ytapafdpnmakekaa.X
open Go Go.RowKit
open Nat (reduceEqDiff reduceAdd reduceSub reduceLeDiff)
theorem map_get {l:List Int} {j:Nat} (hj:j<l.length):(l.map (Value.int .i64))[j]?=some (I64 (l.getD j 0)):=by
 simp[List.getD_eq_getElem?_getD,hj]
theorem map_set {l:List Int} {j:Nat} {x:Int} (hj:j<l.length):splice (l.map (Value.int .i64)) j [I64 x]=(l.set j x).map (Value.int .i64):=by
 rw[splice_set (by simpa using hj)]
 simp[List.map_set]
def Lst (h:AH) (n:Nat) (l:List Int) (full:Bool):Prop:=h.get n=some ⟨l.map (Value.int .i64),2,false,full⟩
def sl (n len:Nat):Value:=.slice (some ⟨n,0,none⟩) len 1
section
variable {h h':AH} {n:Nat} {l:List Int} {full:Bool}
theorem Lst.pre (o:Lst h n l full) (p:h<+:h'):Lst h' n l full:=pre_get p o
theorem Lst.lt (o:Lst h n l full):n<h.length:=get_lt o
theorem Lst.own (o:Lst h n l full):OwnB h n (l.map (Value.int .i64)) full:=⟨_,o⟩
theorem Lst.put_ne {m:Nat} {b:Blk} (o:Lst h n l full) (e:m≠n):Lst (h.put m b) n l full:=by
 unfold Lst
 rw[get_put_ne e]
 exact o
theorem Lst.ix {j:Int} {len:Nat} (h0:0≤j∧j<len):ixsV 1 (sl n len) (I64 j)=some (.pointer (some ⟨n,j.toNat,none⟩)):=by
 unfold sl
 rw[ixsV_some,if_pos ⟨h0.1,h0.2,rfl⟩]
 simp
theorem Lst.rd {j:Nat} (o:Lst h n l full) (hj:j<l.length):h.rd1 n j=some (I64 (l.getD j 0)):=by
 rw[rd1_of o]
 exact map_get hj
theorem Lst.wr {j:Nat} {x:Int} (o:Lst h n l full) (hj:j<l.length):∃ h',h.wr n j [I64 x]=some h'∧h'=h.put n ⟨(l.set j x).map (Value.int .i64),2,false,full⟩∧Lst h' n (l.set j x) full:=by
 refine⟨_,?_,rfl,get_put_same o.lt⟩
 rw[wr_of o,if_pos ⟨rfl,by simp only[List.length_map,List.length_singleton];omega⟩,map_set hj]
theorem Lst.ints (o:Lst h n l full):Ints h (sl n l.length) l:=Ints.own o rfl
theorem Lst.ownR {h0:AH} (o:Lst h n l full) (hn:h0.length≤n):OwnR h0 h (sl n l.length) l:=OwnR.of hn rfl o
theorem Lst.app {H:AH} {x:Int} {e':TypeId} {ro fu:Bool} (o:Lst H n l full) (hl:(l.length:Int)≤1048576) {Q:Value→AH→Prop}
  (hQ:∀ H',H'.length=H.length+2→(∀ h0:AH,h0.length≤n→h0<+:H→h0<+:H')→(∀ m c f,m≠n→OwnB H m c f→OwnB H' m c f)→(∀ m c f,m≠n→Lst H m c f→Lst H' m c f)→Lst H' (H.length+1) (l++[x]) false→Q (sl (H.length+1) (l++[x]).length) H') :
  OQ (appV 2 1 8 (sl n l.length) (.slice (some ⟨H.length,0,none⟩) 1 1) (H.new ⟨[I64 x],e',ro,fu⟩)) Q:=by
 have hn:(H.new ⟨[I64 x],e',ro,fu⟩).rdn H.length 0 1=some [I64 x]:=by rw[rdn_new_same];rfl
 have hk:(H.new ⟨[I64 x],e',ro,fu⟩).get n=some ⟨l.map (Value.int .i64),2,false,full⟩:=get_new_any o
 have hkb:=o.lt
 unfold sl
 rw[app_own hk (by simp) hn (by omega),OQ_some]
 have:=hQ (((H.new ⟨[I64 x],e',ro,fu⟩).kill n).new ⟨l.map (Value.int .i64)++[I64 x],2,false,false⟩) (by rw[len_new,len_kill,len_new]) (fun h0 q p=>pre_new (pre_kill (pre_new p) q))
  (fun m c f hm o=>(o.new.kill_ne (fun e=>hm e.symm)).new) (fun m c f hm o=>get_new_any (by rw[get_kill_ne (fun e=>hm e.symm)];exact get_new_any o)) (by unfold Lst;rw[get_new_eq (by rw[len_kill,len_new])];simp)
 unfold sl at this
 rw[len_new]
 rw[List.length_append,List.length_singleton] at this
 exact this
end
theorem s_OwnT {v:Value} {ns:List Int} {h:AH} {Q:Value→AH→Prop} (hv:Ints h v ns) (h0:0<ns.length) (hl:(ns.length:Int)≤1048576)
  (hQ:∀ n h',h.length≤n→h<+:h'→Lst h' n ns false→Q (sl n ns.length) h'):WF S 264 [v] h Q:=by
 refine WF_fn (fn:=c264) rfl rfl ?_
 dsimp only[c264,oO,oM,oS,oG,oK,oE,oL,oF,oX,oN]
 obtain⟨n,off,rfl,hr⟩:=hv.vals.rdn (by simpa using h0)
 try simp (maxSteps:=3000000) (disch:=first|omega|simp only[lnx];omega) only[↓xpre,xpost,↓reduceIte,reduceEqDiff,reduceAdd,reduceSub,reduceLeDiff,zz0,fillL,zrep]
 rw[List.length_map] at hr ⊢
 rw[app_zero get_new_same (show AH.rdn (AH.new h _) n off ns.length=_ by rw[rdn_eq] at hr ⊢;obtain⟨b,hb,hc⟩:=Option.bind_eq_some_iff.1 hr;rw[get_new_any hb];exact hc) h0 (by omega)]
 try simp (maxSteps:=3000000) (disch:=first|omega|simp only[lnx];omega) only[↓xpre,xpost,↓reduceIte,reduceEqDiff,reduceAdd,reduceSub,reduceLeDiff,zz0]
 exact hQ _ _ (by rw[len_new];omega) (pre_new (pre_kill (pre_new (List.prefix_refl _)) (Nat.le_refl _))) (get_new_eq (by rw[len_kill]))
theorem i_CloneT {v:Value} {ns:List Int} {h:AH} {Q:Value→AH→Prop} (hv:Ints h v ns) (h0:0<ns.length) (hl:(ns.length:Int)≤1048576)
  (hQ:∀ n h',h.length≤n→h<+:h'→Lst h' n ns false→Q (sl n ns.length) h'):WF S 285 [v] h Q:=by
 refine WF_fn (fn:=c285) rfl rfl ?_
 dsimp only[c285,oO,oM,oS,oG,oK,oE,oL,oF,oX,oN]
 obtain⟨n,off,rfl,hr⟩:=hv.vals.rdn (by simpa using h0)
 try simp (maxSteps:=3000000) (disch:=first|omega|simp only[lnx];omega) only[↓xpre,xpost,↓reduceIte,reduceEqDiff,reduceAdd,reduceSub,reduceLeDiff,zz0,↓WX_isnil,isnilV_some,fillL,zrep]
 rw[List.length_map] at hr ⊢
 rw[app_zero get_new_same (show AH.rdn (AH.new h _) n off ns.length=_ by rw[rdn_eq] at hr ⊢;obtain⟨b,hb,hc⟩:=Option.bind_eq_some_iff.1 hr;rw[get_new_any hb];exact hc) h0 (by omega)]
 try simp (maxSteps:=3000000) (disch:=first|omega|simp only[lnx];omega) only[↓xpre,xpost,↓reduceIte,reduceEqDiff,reduceAdd,reduceSub,reduceLeDiff,zz0]
 exact hQ _ _ (by rw[len_new];omega) (pre_new (pre_kill (pre_new (List.prefix_refl _)) (Nat.le_refl _))) (get_new_eq (by rw[len_kill]))
def nq (q:List Int) (i:Nat):Nat:=(q.getD i 0).toNat
def valS (p:Int) (st:List (List Int)) (ns:List Int):Nat→List Int
 | 0=>ns
 | i+1=>valS p st ns i++[((valS p st ns i).getD (nq (st.getD i []) 0) 0+(st.getD i []).getD 2 0*(valS p st ns i).getD (nq (st.getD i []) 1) 0).tmod p]
theorem valS_len {p:Int} {st:List (List Int)} {ns:List Int}:∀ {i:Nat},(valS p st ns i).length=ns.length+i
 | 0=>rfl
 | i+1=>by simp[valS,valS_len (i:=i)];omega
def outS (p:Int) (out:List (List Int)) (vs:List Int):Nat→List Int
 | 0=>[]
 | i+1=>outS p out vs i++[((out.getD i []).getD 1 0*vs.getD (nq (out.getD i []) 0) 0).tmod p]
theorem outS_len {p:Int} {out:List (List Int)} {vs:List Int}:∀ {i:Nat},(outS p out vs i).length=i
 | 0=>rfl
 | i+1=>by simp[outS,outS_len (i:=i)]
def runP (x:Prg) (ns:List Int):List Int:=outS x.p x.out (valS x.p x.st ns x.st.length) x.out.length
theorem runP_len {x:Prg} {ns:List Int}:(runP x ns).length=x.out.length:=outS_len
theorem allIn_app {p:Int} {l:List Int} {x:Int} (h:allIn p l=true) (hx:0≤x∧x<p):allIn p (l++[x])=true:=by
 unfold allIn at h ⊢
 rw[List.all_append,h]
 simp[hx]
structure PrgF (x:Prg):Prop where
 p:2≤x.p∧x.p≤5
 n:1≤x.n∧x.n≤30
 st:x.st.length≤900
 out:1≤x.out.length∧x.out.length≤30
 step:∀ i,i<x.st.length→okStep x.p (x.n+(i:Nat)) (x.st.getD i [])=true
 outs:∀ i,i<x.out.length→okOut x.p (x.n+x.st.length) (x.out.getD i [])=true
theorem isPrg_facts {x:Prg} (h:isPrg x=true):PrgF x:=by
 unfold isPrg headP at h
 simp only[Bool.and_eq_true,decide_eq_true_eq] at h
 obtain⟨⟨⟨h1,h2,h3,h4,h5,h6⟩,h7⟩,h8⟩:=h
 exact⟨isP_in h1,⟨h2,h3⟩,h4,⟨h5,h6⟩,fun i hi=>allN_at (f:=fun i:Nat=>okStep x.p (x.n+i) (x.st.getD i [])) h7 hi,fun i hi=>allN_at (f:=fun i:Nat=>okOut x.p (x.n+x.st.length) (x.out.getD i [])) h8 hi⟩
theorem PrgF.st3 {x:Prg} (f:PrgF x) {i:Nat} {a b d:Int} (hi:i<x.st.length) (hq:x.st.getD i []=[a,b,d]):0≤a∧a<x.n+i∧0≤b∧b<x.n+i∧a≠b∧1≤d∧d<x.p:=by
 have:=f.step i hi
 rw[hq,okStep_3,decide_eq_true_eq] at this
 exact this
theorem PrgF.out2 {x:Prg} (f:PrgF x) {i:Nat} {a b:Int} (hi:i<x.out.length) (hq:x.out.getD i []=[a,b]):0≤a∧a<x.n+x.st.length∧0≤b∧b<x.p∧¬ (b=0∧a≠0):=by
 have:=f.outs i hi
 rw[hq,okOut_2,decide_eq_true_eq] at this
 exact this
theorem valS_in {x:Prg} {h:AH} {v w:Value} (f:PrgF x) (hv:PrgR h v w x) {ns:List Int} (hn:allIn x.p ns=true) (hl:(ns.length:Int)=x.n):∀ {i:Nat},i≤x.st.length→allIn x.p (valS x.p x.st ns i)=true
 | 0,_=>hn
 | i+1,hi=>by
  have ih:=valS_in f hv hn hl (i:=i) (by omega)
  obtain⟨a,b,d,hq⟩:=all3 (hv.1.wid (show i<x.st.length by omega))
  have s3:=f.st3 (by omega) hq
  have fp:=f.p
  refine allIn_app ih ?_
  rw[hq]
  have hA:=allIn_iff.1 ih a.toNat (by rw[valS_len];omega)
  have hB:=allIn_iff.1 ih b.toNat (by rw[valS_len];omega)
  have m:=mul_in (A:=4) (B:=4) (a:=d) (b:=(valS x.p x.st ns i).getD b.toNat 0) (by omega) (by omega)
  exact tmod_nn (by show 0≤(valS x.p x.st ns i).getD a.toNat 0+d*(valS x.p x.st ns i).getD b.toNat 0;omega) (by omega)
theorem s_run {v w u:Value} {x:Prg} {ns:List Int} {h:AH} {Q:Value→AH→Prop} (hv:PrgR h v w x) (pf:PrgF x) (hu:Ints h u ns) (hn:allIn x.p ns=true) (hl:(ns.length:Int)=x.n)
  (hQ:∀ n full h',h.length≤n→h<+:h'→Lst h' n (runP x ns) full→Q (sl n (runP x ns).length) h'):WF S 260 [prgV x v w,u] h Q:=by
 refine WF_fn (fn:=c260) rfl rfl ?_
 dsimp only[c260,oO,oM,oS,oG,oK,oE,oL,oF,oX,oN]
 have fp:=pf.p
 have fn:=pf.n
 have fst:=pf.st
 have fout:=pf.out
 ((try simp (maxSteps:=3000000) (dsimp:=false) (disch:=first|omega|simp only[lnx];omega) only[↓ypre,ypost,↓reduceIte,reduceEqDiff,reduceAdd,reduceSub,reduceLeDiff,zz0,ynew,prgV,hv.1.one,hv.2.one]);try simp only[yback])
 generalize hH1:AH.new h _=H1
 obtain⟨hb1,p1,n1⟩:=new_facts hH1
 refine s_OwnT (hu.pre p1) (by omega) (by omega) fun kv H2 hkv p2 lv=>?_
 have hb2:=pre_get p2 hb1
 have ltv:=lv.lt
 ((try simp (maxSteps:=3000000) (dsimp:=false) (disch:=first|omega|simp only[lnx];omega) only[↓ypre,ypost,↓reduceIte,reduceEqDiff,reduceAdd,reduceSub,reduceLeDiff,zz0,ynew,rd1_of hb2,hv.1.len]);try simp only[yback])
 generalize hH3:AH.new H2 _=H3
 obtain⟨hb3,p3,n3⟩:=new_facts hH3
 have lo:Lst H3 H2.length [] true:=hb3
 refine WC_loop_inv (fun m f K1=>∃ (i:Nat) (kv:Nat) (fu:Bool),m=x.st.length-i∧i≤x.st.length∧f 2=.pointer (some ⟨h.length,0,none⟩)∧f 5=sl kv (valS x.p x.st ns i).length∧f 6=sl H2.length 0∧f 7=I64 i∧(H1<+:K1)∧(Lst K1 kv (valS x.p x.st ns i) fu)∧(Lst K1 H2.length [] true)∧(H1.length≤kv∧kv≠H2.length)) ?_ (x.st.length-0) _ _ ⟨0,kv,false,rfl,by omega,(by first|rfl|simp[upd_apply]),(by first|rfl|simp[upd_apply]),(by first|rfl|simp[upd_apply]),(by first|rfl|simp[upd_apply]),p2.trans p3,lv.pre p3,lo,⟨hkv,by omega⟩⟩
 rintro m f K1 ⟨i,kv,fu,rfl,hi,f2,f5,f6,f7,pp,lv,lo,hk⟩
 have hbK:=pre_get pp hb1
 have ltK:=get_lt hbK
 have hvK:=hv.pre (p1.trans pp)
 have ltv:=lv.lt
 have vl:=valS_len (p:=x.p) (st:=x.st) (ns:=ns) (i:=i)
 by_cases hlt:(i:Int)<x.st.length
 ·have hi':i<x.st.length:=by omega
  obtain⟨n,off,hix,hrn⟩:=hvK.1.rdw hi'
  obtain⟨a,b,d,hq⟩:=all3 (hvK.1.wid hi')
  rw[hq,cel_3] at hrn
  have s3:=pf.st3 hi' hq
  have va:=valS_in pf hv hn hl (i:=i) (by omega)
  have hA:=allIn_iff.1 va a.toNat (by omega)
  have hB:=allIn_iff.1 va b.toNat (by omega)
  have m:=mul_in (A:=4) (B:=4) (a:=d) (b:=(valS x.p x.st ns i).getD b.toNat 0) (by omega) (by omega)
  have ixa:=Lst.ix (n:=kv) (j:=a) (len:=(valS x.p x.st ns i).length) (by omega)
  have ixb:=Lst.ix (n:=kv) (j:=b) (len:=(valS x.p x.st ns i).length) (by omega)
  have rda:=lv.rd (j:=a.toNat) (by omega)
  have rdb:=lv.rd (j:=b.toNat) (by omega)
  have ev:valS x.p x.st ns (i+1)=valS x.p x.st ns i++[((valS x.p x.st ns i).getD a.toNat 0+d*(valS x.p x.st ns i).getD b.toNat 0).tmod x.p]:=by
   rw[valS,hq]
   rfl
  ((try simp (maxSteps:=3000000) (dsimp:=false) (disch:=first|omega|simp only[lnx];omega) only[↓ypre,ypost,↓reduceIte,reduceEqDiff,reduceAdd,reduceSub,reduceLeDiff,zz0,ynew,f2,f5,f6,f7,rd1_of hbK,hvK.1.len,decide_eq_true hlt,hix,hrn,ixa,ixb,rda,rdb,wrap64_in,bin_rem]);try simp only[yback])
  generalize hH4:AH.new K1 _=H4
  obtain⟨hb4,p4,n4⟩:=new_facts hH4
  refine (lv.pre p4).app (by omega) fun H5 l5 pre5 own5 lst5 lv5=>?_
  ((try simp (maxSteps:=3000000) (dsimp:=false) (disch:=first|omega|simp only[lnx];omega) only[↓ypre,ypost,↓reduceIte,reduceEqDiff,reduceAdd,reduceSub,reduceLeDiff,zz0,ynew,f2,f5,f6,f7,wrap64_in]);try simp only[yback])
  rw[←ev] at lv5
  refine InvQ_go (x.st.length-(i+1)) (by omega) ⟨(i+1),(H4.length+1),false,rfl,by omega,(by first|rfl|exact f2|(simp only[upd_apply];rfl)|(show I64 _=_;congr 1;omega)),(by show sl _ _=_;rw[ev]),(by first|rfl|exact f6|(simp only[upd_apply];rfl)|(show I64 _=_;congr 1;omega)),(by first|rfl|exact f7|(simp only[upd_apply];rfl)|(show I64 _=_;congr 1;omega)),(pre5 _ hk.1 (pp.trans p4)),lv5,(lst5 _ _ _ (fun e=>hk.2 e.symm) (lo.pre p4)),⟨by have:=pre_len pp;omega,by have:=lo.lt;omega⟩⟩
 have ei:i=x.st.length:=by omega
 subst ei
 ((try simp (maxSteps:=3000000) (dsimp:=false) (disch:=first|omega|simp only[lnx];omega) only[↓ypre,ypost,↓reduceIte,reduceEqDiff,reduceAdd,reduceSub,reduceLeDiff,zz0,ynew,f2,f5,f6,f7,rd1_of hbK,hvK.1.len,hvK.2.len,decide_eq_false hlt]);try simp only[yback])
 have va:=valS_in pf hv hn hl (i:=x.st.length) (Nat.le_refl _)
 unfold runP at hQ
 generalize valS x.p x.st ns x.st.length=vs at *
 have lo':Lst K1 H2.length (outS x.p x.out vs 0) true:=lo
 refine WC_loop_inv (fun m f K2=>∃ (i:Nat) (ko:Nat) (fo:Bool),m=x.out.length-i∧i≤x.out.length∧f 2=.pointer (some ⟨h.length,0,none⟩)∧f 5=sl kv vs.length∧f 6=sl ko (outS x.p x.out vs i).length∧f 9=I64 i∧(H1<+:K2)∧(Lst K2 kv vs fu)∧(Lst K2 ko (outS x.p x.out vs i) fo)∧(H1.length≤ko∧kv≠ko)) ?_ (x.out.length-0) _ _ ⟨0,H2.length,true,rfl,by omega,(by first|rfl|exact f2|(simp[upd_apply];done)),(by first|rfl|exact f5|(simp[upd_apply];done)),(by first|rfl|exact f6|(simp[upd_apply];done)),(by first|rfl|simp[upd_apply]),pp,lv,lo',⟨by have:=pre_len p2;omega,hk.2⟩⟩
 rintro m f K2 ⟨i,ko,fo,rfl,hi,f2,f5,f6,f9,pp,lv,lo,hk⟩
 have hbK:=pre_get pp hb1
 have ltK:=get_lt hbK
 have hvK:=hv.pre (p1.trans pp)
 have ltv:=lv.lt
 have lto:=lo.lt
 have ol:=outS_len (p:=x.p) (out:=x.out) (vs:=vs) (i:=i)
 by_cases hlt:(i:Int)<x.out.length
 ·have hi':i<x.out.length:=by omega
  obtain⟨n,off,hix,hrn⟩:=hvK.2.rdw hi'
  obtain⟨n',off',hix',hrn',hr1⟩:=hvK.2.at hi'
  obtain⟨a,b,hq⟩:=all2 (hvK.2.wid hi')
  have r0:=hr1 0 (by omega)
  have r1:=hr1 1 (by omega)
  rw[hq,cel_2] at hrn
  rw[hq] at r0 r1
  simp only[Nat.add_zero,List.getD_cons_zero,List.getD_cons_succ] at r0 r1
  have s2:=pf.out2 hi' hq
  have hA:=allIn_iff.1 va a.toNat (by omega)
  have m:=mul_in (A:=4) (B:=4) (a:=b) (b:=vs.getD a.toNat 0) (by omega) (by omega)
  have ixa:=Lst.ix (n:=kv) (j:=a) (len:=vs.length) (by omega)
  have rda:=lv.rd (j:=a.toNat) (by omega)
  have ev:outS x.p x.out vs (i+1)=outS x.p x.out vs i++[(b*vs.getD a.toNat 0).tmod x.p]:=by
   rw[outS,hq]
   rfl
  ((try simp (maxSteps:=3000000) (dsimp:=false) (disch:=first|omega|simp only[lnx];omega) only[↓ypre,ypost,↓reduceIte,reduceEqDiff,reduceAdd,reduceSub,reduceLeDiff,zz0,ynew,f2,f5,f6,f9,Nat.add_zero,rd1_of hbK,hvK.2.len,decide_eq_true hlt,hix',r0,r1,ixa,rda,wrap64_in,bin_rem]);try simp only[yback])
  refine lo.app (by omega) fun H5 l5 pre5 own5 lst5 lo5=>?_
  ((try simp (maxSteps:=3000000) (dsimp:=false) (disch:=first|omega|simp only[lnx];omega) only[↓ypre,ypost,↓reduceIte,reduceEqDiff,reduceAdd,reduceSub,reduceLeDiff,zz0,ynew,f2,f5,f6,f9,wrap64_in]);try simp only[yback])
  rw[←ev] at lo5
  refine InvQ_go (x.out.length-(i+1)) (by omega) ⟨(i+1),(K2.length+1),false,rfl,by omega,(by first|rfl|exact f2|(simp only[upd_apply];rfl)|(show I64 _=_;congr 1;omega)),(by first|rfl|exact f5|(simp only[upd_apply];rfl)|(show I64 _=_;congr 1;omega)),(by show sl _ _=_;rw[ev]),(by first|rfl|exact f9|(simp only[upd_apply];rfl)|(show I64 _=_;congr 1;omega)),(pre5 _ hk.1 pp),(lst5 _ _ _ hk.2 lv),lo5,⟨by have:=pre_len pp;omega,by omega⟩⟩
 have ei:i=x.out.length:=by omega
 subst ei
 ((try simp (maxSteps:=3000000) (dsimp:=false) (disch:=first|omega|simp only[lnx];omega) only[↓ypre,ypost,↓reduceIte,reduceEqDiff,reduceAdd,reduceSub,reduceLeDiff,zz0,ynew,f2,f5,f6,f9,rd1_of hbK,hvK.2.len,decide_eq_false hlt]);try simp only[yback])
 exact hQ ko fo _ (by omega) (p1.trans pp) lo
theorem i_run {v w u:Value} {x:Prg} {ns:List Int} {h:AH} {Q:Value→AH→Prop} (hv:PrgR h v w x) (pf:PrgF x) (hu:Ints h u ns) (hn:allIn x.p ns=true) (hl:(ns.length:Int)=x.n)
  (hQ:∀ n full h',h.length≤n→h<+:h'→Lst h' n (runP x ns) full→Q (sl n (runP x ns).length) h'):WF S 171 [prgV x v w,u] h Q:=by
 refine WF_fn (fn:=c171) rfl rfl ?_
 dsimp only[c171,oO,oM,oS,oG,oK,oE,oL,oF,oX,oN]
 have fp:=pf.p
 have fn:=pf.n
 have fst:=pf.st
 have fout:=pf.out
 ((try simp (maxSteps:=3000000) (dsimp:=false) (disch:=first|omega|simp only[lnx];omega) only[↓ypre,ypost,↓reduceIte,reduceEqDiff,reduceAdd,reduceSub,reduceLeDiff,zz0,ynew,prgV,hv.1.one,hv.2.one]);try simp only[yback])
 generalize hH1:AH.new h _=H1
 obtain⟨hb1,p1,n1⟩:=new_facts hH1
 refine i_CloneT (hu.pre p1) (by omega) (by omega) fun kv H2 hkv p2 lv=>?_
 have hb2:=pre_get p2 hb1
 have ltv:=lv.lt
 ((try simp (maxSteps:=3000000) (dsimp:=false) (disch:=first|omega|simp only[lnx];omega) only[↓ypre,ypost,↓reduceIte,reduceEqDiff,reduceAdd,reduceSub,reduceLeDiff,zz0,ynew,rd1_of hb2,hv.1.len]);try simp only[yback])
 refine WC_loop_inv (fun m f K1=>∃ (i:Nat) (kv:Nat) (fu:Bool),m=x.st.length-i∧i≤x.st.length∧f 2=.pointer (some ⟨h.length,0,none⟩)∧f 5=sl kv (valS x.p x.st ns i).length∧f 14=v∧f 15=I64 x.st.length∧f 16=I64 i∧(H1<+:K1)∧(Lst K1 kv (valS x.p x.st ns i) fu)∧(H1.length≤kv)) ?_ (x.st.length-0) _ _ ⟨0,kv,false,rfl,by omega,(by first|rfl|simp[upd_apply]),(by first|rfl|simp[upd_apply]),(by first|rfl|simp[upd_apply]),(by first|rfl|simp[upd_apply]),(by first|rfl|simp[upd_apply]),p2,lv,hkv⟩
 rintro m f K1 ⟨i,kv,fu,rfl,hi,f2,f5,f14,f15,f16,pp,lv,hk⟩
 have hbK:=pre_get pp hb1
 have ltK:=get_lt hbK
 have hvK:=hv.pre (p1.trans pp)
 have ltv:=lv.lt
 have vl:=valS_len (p:=x.p) (st:=x.st) (ns:=ns) (i:=i)
 by_cases hlt:(i:Int)<x.st.length
 ·have hi':i<x.st.length:=by omega
  obtain⟨n,off,hix,hrn⟩:=hvK.1.rdw hi'
  obtain⟨a,b,d,hq⟩:=all3 (hvK.1.wid hi')
  rw[hq,cel_3] at hrn
  have s3:=pf.st3 hi' hq
  have va:=valS_in pf hv hn hl (i:=i) (by omega)
  have hA:=allIn_iff.1 va a.toNat (by omega)
  have hB:=allIn_iff.1 va b.toNat (by omega)
  have m:=mul_in (A:=4) (B:=4) (a:=d) (b:=(valS x.p x.st ns i).getD b.toNat 0) (by omega) (by omega)
  have ixa:=Lst.ix (n:=kv) (j:=a) (len:=(valS x.p x.st ns i).length) (by omega)
  have ixb:=Lst.ix (n:=kv) (j:=b) (len:=(valS x.p x.st ns i).length) (by omega)
  have rda:=lv.rd (j:=a.toNat) (by omega)
  have rdb:=lv.rd (j:=b.toNat) (by omega)
  have ev:valS x.p x.st ns (i+1)=valS x.p x.st ns i++[((valS x.p x.st ns i).getD a.toNat 0+d*(valS x.p x.st ns i).getD b.toNat 0).tmod x.p]:=by
   rw[valS,hq]
   rfl
  ((try simp (maxSteps:=3000000) (dsimp:=false) (disch:=first|omega|simp only[lnx];omega) only[↓ypre,ypost,↓reduceIte,reduceEqDiff,reduceAdd,reduceSub,reduceLeDiff,zz0,ynew,f2,f5,f14,f15,f16,rd1_of hbK,hvK.1.len,decide_eq_true hlt,hix,hrn,ixa,ixb,rda,rdb,wrap64_in,bin_rem]);try simp only[yback])
  generalize hH4:AH.new K1 _=H4
  obtain⟨hb4,p4,n4⟩:=new_facts hH4
  refine (lv.pre p4).app (by omega) fun H5 l5 pre5 own5 lst5 lv5=>?_
  ((try simp (maxSteps:=3000000) (dsimp:=false) (disch:=first|omega|simp only[lnx];omega) only[↓ypre,ypost,↓reduceIte,reduceEqDiff,reduceAdd,reduceSub,reduceLeDiff,zz0,ynew,f2,f5,f14,f15,f16,wrap64_in]);try simp only[yback])
  rw[←ev] at lv5
  refine InvQ_go (x.st.length-(i+1)) (by omega) ⟨(i+1),(H4.length+1),false,rfl,by omega,(by first|rfl|exact f2|(simp only[upd_apply];rfl)|(show I64 _=_;congr 1;omega)),(by show sl _ _=_;rw[ev]),(by first|rfl|exact f14|(simp only[upd_apply];rfl)|(show I64 _=_;congr 1;omega)),(by first|rfl|exact f15|(simp only[upd_apply];rfl)|(show I64 _=_;congr 1;omega)),(by first|rfl|exact f16|(simp only[upd_apply];rfl)|(show I64 _=_;congr 1;omega)),(pre5 _ hk (pp.trans p4)),lv5,(by have:=pre_len pp;omega)⟩
 have ei:i=x.st.length:=by omega
 subst ei
 ((try simp (maxSteps:=3000000) (dsimp:=false) (disch:=first|omega|simp only[lnx];omega) only[↓ypre,ypost,↓reduceIte,reduceEqDiff,reduceAdd,reduceSub,reduceLeDiff,zz0,ynew,f2,f5,f14,f15,f16,rd1_of hbK,hvK.1.len,hvK.2.len,decide_eq_false hlt]);try simp only[yback])
 have va:=valS_in pf hv hn hl (i:=x.st.length) (Nat.le_refl _)
 unfold runP at hQ
 generalize valS x.p x.st ns x.st.length=vs at *
 generalize hH6:AH.new K1 _=H6
 obtain⟨hb6,p6,n6⟩:=new_facts hH6
 have lo':Lst H6 K1.length (outS x.p x.out vs 0) true:=hb6
 ((try simp (maxSteps:=3000000) (dsimp:=false) (disch:=first|omega|simp only[lnx];omega) only[↓ypre,ypost,↓reduceIte,reduceEqDiff,reduceAdd,reduceSub,reduceLeDiff,zz0,ynew,f2,f5,f14,f15,f16,rd1_of (pre_get p6 hbK),hvK.2.len]);try simp only[yback])
 refine WC_loop_inv (fun m f K2=>∃ (i:Nat) (ko:Nat) (fo:Bool),m=x.out.length-i∧i≤x.out.length∧f 2=.pointer (some ⟨h.length,0,none⟩)∧f 5=sl kv vs.length∧f 8=sl ko (outS x.p x.out vs i).length∧f 43=w∧f 44=I64 x.out.length∧f 45=I64 i∧(H1<+:K2)∧(Lst K2 kv vs fu)∧(Lst K2 ko (outS x.p x.out vs i) fo)∧(H1.length≤ko∧kv≠ko)) ?_ (x.out.length-0) _ _ ⟨0,K1.length,true,rfl,by omega,(by first|rfl|exact f2|(simp[upd_apply];done)),(by first|rfl|exact f5|(simp[upd_apply];done)),(by first|rfl|simp[upd_apply]),(by first|rfl|simp[upd_apply]),(by first|rfl|simp[upd_apply]),(by first|rfl|simp[upd_apply]),pp.trans p6,lv.pre p6,lo',⟨by have:=pre_len pp;omega,by omega⟩⟩
 rintro m f K2 ⟨i,ko,fo,rfl,hi,f2,f5,f8,f43,f44,f45,pp,lv,lo,hk⟩
 have hbK:=pre_get pp hb1
 have ltK:=get_lt hbK
 have hvK:=hv.pre (p1.trans pp)
 have ltv:=lv.lt
 have lto:=lo.lt
 have ol:=outS_len (p:=x.p) (out:=x.out) (vs:=vs) (i:=i)
 by_cases hlt:(i:Int)<x.out.length
 ·have hi':i<x.out.length:=by omega
  obtain⟨n,off,hix,hrn⟩:=hvK.2.rdw hi'
  obtain⟨n',off',hix',hrn',hr1⟩:=hvK.2.at hi'
  obtain⟨a,b,hq⟩:=all2 (hvK.2.wid hi')
  have r0:=hr1 0 (by omega)
  have r1:=hr1 1 (by omega)
  rw[hq,cel_2] at hrn
  rw[hq] at r0 r1
  simp only[Nat.add_zero,List.getD_cons_zero,List.getD_cons_succ] at r0 r1
  have s2:=pf.out2 hi' hq
  have hA:=allIn_iff.1 va a.toNat (by omega)
  have m:=mul_in (A:=4) (B:=4) (a:=b) (b:=vs.getD a.toNat 0) (by omega) (by omega)
  have ixa:=Lst.ix (n:=kv) (j:=a) (len:=vs.length) (by omega)
  have rda:=lv.rd (j:=a.toNat) (by omega)
  have ev:outS x.p x.out vs (i+1)=outS x.p x.out vs i++[(b*vs.getD a.toNat 0).tmod x.p]:=by
   rw[outS,hq]
   rfl
  ((try simp (maxSteps:=3000000) (dsimp:=false) (disch:=first|omega|simp only[lnx];omega) only[↓ypre,ypost,↓reduceIte,reduceEqDiff,reduceAdd,reduceSub,reduceLeDiff,zz0,ynew,f2,f5,f8,f43,f44,f45,rd1_of hbK,hvK.2.len,decide_eq_true hlt,hix,hrn,ixa,rda,wrap64_in,bin_rem]);try simp only[yback])
  generalize hH7:AH.new K2 _=H7
  obtain⟨hb7,p7,n7⟩:=new_facts hH7
  refine (lo.pre p7).app (by omega) fun H5 l5 pre5 own5 lst5 lo5=>?_
  ((try simp (maxSteps:=3000000) (dsimp:=false) (disch:=first|omega|simp only[lnx];omega) only[↓ypre,ypost,↓reduceIte,reduceEqDiff,reduceAdd,reduceSub,reduceLeDiff,zz0,ynew,f2,f5,f8,f43,f44,f45,wrap64_in]);try simp only[yback])
  rw[←ev] at lo5
  refine InvQ_go (x.out.length-(i+1)) (by omega) ⟨(i+1),(H7.length+1),false,rfl,by omega,(by first|rfl|exact f2|(simp only[upd_apply];rfl)|(show I64 _=_;congr 1;omega)),(by first|rfl|exact f5|(simp only[upd_apply];rfl)|(show I64 _=_;congr 1;omega)),(by show sl _ _=_;rw[ev]),(by first|rfl|exact f43|(simp only[upd_apply];rfl)|(show I64 _=_;congr 1;omega)),(by first|rfl|exact f44|(simp only[upd_apply];rfl)|(show I64 _=_;congr 1;omega)),(by first|rfl|exact f45|(simp only[upd_apply];rfl)|(show I64 _=_;congr 1;omega)),(pre5 _ hk.1 (pp.trans p7)),(lst5 _ _ _ hk.2 (lv.pre p7)),lo5,⟨by have:=pre_len pp;omega,by omega⟩⟩
 have ei:i=x.out.length:=by omega
 subst ei
 ((try simp (maxSteps:=3000000) (dsimp:=false) (disch:=first|omega|simp only[lnx];omega) only[↓ypre,ypost,↓reduceIte,reduceEqDiff,reduceAdd,reduceSub,reduceLeDiff,zz0,ynew,f2,f5,f8,f43,f44,f45,rd1_of hbK,hvK.2.len,decide_eq_false hlt]);try simp only[yback])
 exact hQ ko fo _ (by omega) (p1.trans pp) lo
def mmx (b:Bool) (x y:Value):Option Value:=match x,y with
 | .int k a,.int _ c=>some (.int k (if b then (if c>a then c else a) else (if c<a then c else a)))
 | _,_=>none
theorem yWX_mmx {S:XS} {f:Fr} {h:AH} {Q:Value→AH→Prop} {b:Bool} {x y:Operand}:WX S (.mm b x [y]) f h Q=yWV (mmx b (ev f x) (ev f y)) (fun v=>Q v h) .mk:=by
 refine WX_of (fun _=>rfl) ?_
 simp only[xop,List.map_cons,List.map_nil]
 generalize ev f x=vx
 generalize ev f y=vy
 cases vx<;>first|rfl|skip
 cases vy<;>rfl
theorem mmx_max {a c:Int} {k k':IntKind}:mmx true (.int k a) (.int k' c)=some (.int k (if c>a then c else a)):=rfl
end Go.Proofs.Ytapafdpnmakekaa.X

set_option linter.unusedVariables false
set_option linter.unusedSimpArgs false
set_option maxRecDepth 20000
set_option maxHeartbeats 4000000
namespace Go.Proofs.Ytapafdpnmakekaa.X
open Go Go.RowKit
theorem InX.put_ne {a b n:Nat} {h:AH} {v:Value} {L:List (List Int)} {c:Blk} (o:InX a b h v L) (hn:n<a):InX a b (h.put n c) v L:=
 ⟨o.1.only (c:=n) (d:=n+1) ⟨len_put,fun m hm=>by unfold AH.put;rw[List.getElem?_set_ne (by omega)]⟩ (by omega),o.2⟩
theorem cut_get {α:Type} {d:α} {l:List α} {a n k:Nat} (h:k<n):((l.drop a).take n).getD k d=l.getD (a+k) d:=by
 simp[List.getD_eq_getElem?_getD,List.getElem?_take,List.getElem?_drop,h]
def sideN (t:Ten) (s:Nat):Int:=if s=0 then t.i else if s=1 then t.j else t.k
def slOK (t:Ten) (s a:Int):Prop:=(0≤s∧s≤2)∧0≤a∧a<sideN t s.toNat
instance {t:Ten} {s a:Int}:Decidable (slOK t s a):=by unfold slOK;infer_instance
end Go.Proofs.Ytapafdpnmakekaa.X

set_option linter.unusedVariables false
set_option linter.unusedSimpArgs false
set_option maxRecDepth 20000
set_option maxHeartbeats 4000000
namespace Go.Proofs.Ytapafdpnmakekaa.X
open Go Go.RowKit
open Nat (reduceEqDiff reduceAdd reduceSub reduceLeDiff)
theorem WG_un {S:XS} {b:Bool} {i:XI} {rest:List XI} {f:Fr} {h:AH} {Q:Fr→AH→Prop}:WG S undef b i rest f h Q=WO S rest (updo f i.d undef) h Q:=rfl
theorem step_all {P:Nat→Prop} {i:Nat} (h:∀ j,j<i→P j) (hi:P i):∀ j,j<i+1→P j:=fun j hj=>by
 rcases Nat.lt_succ_iff_lt_or_eq.1 hj with hj|rfl
 ·exact h j hj
 ·exact hi
def By (w:Nat) (q:List Int):Prop:=q.length=w∧∀ j,j<w→0≤q.getD j 0∧q.getD j 0≤255
def okAt (p n:Int) (q:List Int) (j:Nat):Bool:=decide (q.getD j 0<p∧(n≤(j:Int)→q.getD j 0=0))
def okForm (p n:Int) (q:List Int):Bool:=(List.range 9).all (okAt p n q)
theorem okForm_t {p n:Int} {q:List Int} (h:∀ j,j<9→okAt p n q j=true):okForm p n q=true:=by
 unfold okForm
 rw[List.all_eq_true]
 exact fun j hj=>h j (List.mem_range.1 hj)
theorem okForm_f {p n:Int} {q:List Int} {j:Nat} (hj:j<9) (h:okAt p n q j=false):okForm p n q=false:=by
 cases e:okForm p n q with
 | false=>rfl
 | true=>
  unfold okForm at e
  rw[List.all_eq_true] at e
  rw[e j (List.mem_range.2 hj)] at h
  cases h
theorem s_l01Form {p n:Int} {q:List Int} {h:AH} {Q:Value→AH→Prop} (hq:By 9 q) (hQ:∀ h',h<+:h'→Q (.bool (okForm p n q)) h'):WF S 324 [I64 p,aggV .u8 q,I64 n] h Q:=by
 refine WF_fn (fn:=c324) rfl rfl ?_
 dsimp only[c324,oO,oM,oS,oG,oK,oE,oL,oF,oX,oN]
 try simp (maxSteps:=3000000) (disch:=first|omega|simp only[lnx];omega) only[↓xpre,xpost,↓reduceIte,reduceEqDiff,reduceAdd,reduceSub,reduceLeDiff,zz0,aggV,cel_all]
 generalize hH1:AH.new h _=H1
 obtain⟨hb1,p1,n1⟩:=new_facts hH1
 refine WC_loop_inv (fun m f K1=>∃ (i:Nat),m=9-i∧i≤9∧f 0=I64 p∧f 2=I64 n∧f 4=.pointer (some ⟨h.length,0,none⟩)∧f 7=I64 i∧(K1=H1)∧(∀ j,j<i→okAt p n q j=true)) ?_ (9-0) _ _ ⟨0,rfl,by omega,(by first|rfl|simp[upd_apply]),(by first|rfl|simp[upd_apply]),(by first|rfl|simp[upd_apply]),(by first|rfl|simp[upd_apply]),rfl,(by omega)⟩
 rintro m f K1 ⟨i,rfl,hi,f0,f2,f4,f7,hK,hj⟩
 subst hK
 try simp (maxSteps:=3000000) (disch:=first|omega|simp only[lnx];omega) only[↓xpre,xpost,↓reduceIte,reduceEqDiff,reduceAdd,reduceSub,reduceLeDiff,zz0,f0,f2,f4,f7,IfW_dec]
 refine⟨fun hlt=>?_,fun hge=>?_⟩
 ·have hi':i<9:=by omega
  have g1:=cel_get (k:=.u8) (q:=q) (j:=i) (by rw[hq.1];exact hi')
  have b1:=hq.2 i hi'
  have no:okAt p n q i=false→Q (.bool false) K1:=fun e=>by have:=hQ _ p1;rw[okForm_f hi' e] at this;exact this
  by_cases c1:p≤q.getD i 0
  ·try simp (maxSteps:=3000000) (disch:=first|omega|simp only[lnx];omega) only[↓xpre,xpost,↓reduceIte,reduceEqDiff,reduceAdd,reduceSub,reduceLeDiff,zz0,f0,f2,f4,f7,↓WX_ixa,ixaV_ptr,Int.toNat_natCast,Nat.mul_one,rd1_of hb1,g1,wrap64_in,decide_eq_true c1,WG_un]
   exact no (by unfold okAt;exact decide_eq_false (by omega))
  by_cases c2:n≤(i:Int)
  ·by_cases c3:q.getD i 0=0
   ·try simp (maxSteps:=3000000) (disch:=first|omega|simp only[lnx];omega) only[↓xpre,xpost,↓reduceIte,reduceEqDiff,reduceAdd,reduceSub,reduceLeDiff,zz0,f0,f2,f4,f7,↓WX_ixa,ixaV_ptr,Int.toNat_natCast,Nat.mul_one,rd1_of hb1,g1,wrap64_in,decide_eq_false c1,decide_eq_true c2,decide_eq_false (show ¬ (q.getD i 0≠0) from fun e=>e c3)]
    refine InvQ_go (9-(i+1)) (by omega) ⟨(i+1),rfl,by omega,(by first|rfl|exact f0|(simp only[upd_apply];rfl)|(show I64 _=_;congr 1;omega)),(by first|rfl|exact f2|(simp only[upd_apply];rfl)|(show I64 _=_;congr 1;omega)),(by first|rfl|exact f4|(simp only[upd_apply];rfl)|(show I64 _=_;congr 1;omega)),(by first|rfl|exact f7|(simp only[upd_apply];rfl)|(show I64 _=_;congr 1;omega)),rfl,(step_all hj (by unfold okAt;exact decide_eq_true ⟨by omega,fun _=>c3⟩))⟩
   ·try simp (maxSteps:=3000000) (disch:=first|omega|simp only[lnx];omega) only[↓xpre,xpost,↓reduceIte,reduceEqDiff,reduceAdd,reduceSub,reduceLeDiff,zz0,f0,f2,f4,f7,↓WX_ixa,ixaV_ptr,Int.toNat_natCast,Nat.mul_one,rd1_of hb1,g1,wrap64_in,decide_eq_false c1,decide_eq_true c2,decide_eq_true (show q.getD i 0≠0 from c3)]
    exact no (by unfold okAt;exact decide_eq_false (fun e=>c3 (e.2 c2)))
  ·try simp (maxSteps:=3000000) (disch:=first|omega|simp only[lnx];omega) only[↓xpre,xpost,↓reduceIte,reduceEqDiff,reduceAdd,reduceSub,reduceLeDiff,zz0,f0,f2,f4,f7,↓WX_ixa,ixaV_ptr,Int.toNat_natCast,Nat.mul_one,rd1_of hb1,g1,wrap64_in,decide_eq_false c1,decide_eq_false c2,WG_un]
   refine InvQ_go (9-(i+1)) (by omega) ⟨(i+1),rfl,by omega,(by first|rfl|exact f0|(simp only[upd_apply];rfl)|(show I64 _=_;congr 1;omega)),(by first|rfl|exact f2|(simp only[upd_apply];rfl)|(show I64 _=_;congr 1;omega)),(by first|rfl|exact f4|(simp only[upd_apply];rfl)|(show I64 _=_;congr 1;omega)),(by first|rfl|exact f7|(simp only[upd_apply];rfl)|(show I64 _=_;congr 1;omega)),rfl,(step_all hj (by unfold okAt;exact decide_eq_true ⟨by omega,fun e=>absurd e c2⟩))⟩
 ·try simp (maxSteps:=3000000) (disch:=first|omega|simp only[lnx];omega) only[↓xpre,xpost,↓reduceIte,reduceEqDiff,reduceAdd,reduceSub,reduceLeDiff,zz0,f0,f2,f4,f7]
  have:=hQ _ p1
  rw[okForm_t fun j hj'=>hj j (by omega)] at this
  exact this
theorem idx1V_cel {k:IntKind} {q:List Int} {n j:Nat} {kk:IntKind} (hj:j<n) (hq:j<q.length):idx1V n (.agg (cel k q).toArray) (.int kk j)=some (.int k (q.getD j 0)):=by
 simp only[idx1V,Int.toNat_natCast]
 rw[if_pos (by omega),cel_get hq]
theorem i_isForm {p n:Int} {q:List Int} {h:AH} {Q:Value→AH→Prop} (hq:By 9 q) (hQ:∀ h',h<+:h'→Q (.bool (okForm p n q)) h'):WF S 322 [I64 p,I64 n,aggV .u8 q] h Q:=by
 refine WF_fn (fn:=c322) rfl rfl ?_
 dsimp only[c322,oO,oM,oS,oG,oK,oE,oL,oF,oX,oN]
 have tk:q.take 9=q:=List.take_of_length_le (by rw[hq.1];exact Nat.le_refl _)
 try simp (maxSteps:=3000000) (disch:=first|omega|simp only[lnx];omega) only[↓xpre,xpost,↓reduceIte,reduceEqDiff,reduceAdd,reduceSub,reduceLeDiff,zz0,aggV,cel_all]
 generalize hH1:AH.new h _=H1
 obtain⟨hb1,p1,n1⟩:=new_facts hH1
 try simp (maxSteps:=3000000) (disch:=first|omega|simp only[lnx];omega) only[↓xpre,xpost,↓reduceIte,reduceEqDiff,reduceAdd,reduceSub,reduceLeDiff,zz0,rdn_of hb1,cel_len,hq.1,cel_take,tk]
 refine WC_loop_inv (fun m f K1=>∃ (i:Nat),m=9-i∧i≤9∧f 0=I64 p∧f 1=I64 n∧f 9=.agg (cel .u8 q).toArray∧f 10=I64 i∧(K1=H1)∧(∀ j,j<i→okAt p n q j=true)) ?_ (9-0) _ _ ⟨0,rfl,by omega,(by first|rfl|simp[upd_apply]),(by first|rfl|simp[upd_apply]),(by first|rfl|simp[upd_apply]),(by first|rfl|simp[upd_apply]),rfl,(by omega)⟩
 rintro m f K1 ⟨i,rfl,hi,f0,f1,f9,f10,hK,hj⟩
 subst hK
 try simp (maxSteps:=3000000) (disch:=first|omega|simp only[lnx];omega) only[↓xpre,xpost,↓reduceIte,reduceEqDiff,reduceAdd,reduceSub,reduceLeDiff,zz0,f0,f1,f9,f10,IfW_dec]
 refine⟨fun hlt=>?_,fun hge=>?_⟩
 ·have hi':i<9:=by omega
  have g1:=idx1V_cel (k:=.u8) (q:=q) (n:=9) (j:=i) (kk:=.i64) hi' (by rw[hq.1];exact hi')
  have b1:=hq.2 i hi'
  have no:okAt p n q i=false→Q (.bool false) K1:=fun e=>by have:=hQ _ p1;rw[okForm_f hi' e] at this;exact this
  by_cases c1:p≤q.getD i 0
  ·try simp (maxSteps:=3000000) (disch:=first|omega|simp only[lnx];omega) only[↓xpre,xpost,↓reduceIte,reduceEqDiff,reduceAdd,reduceSub,reduceLeDiff,zz0,f0,f1,f9,f10,↓WX_idx1,g1,wrap64_in,decide_eq_true c1,WG_un]
   exact no (by unfold okAt;exact decide_eq_false (by omega))
  by_cases c3:q.getD i 0=0
  ·try simp (maxSteps:=3000000) (disch:=first|omega|simp only[lnx];omega) only[↓xpre,xpost,↓reduceIte,reduceEqDiff,reduceAdd,reduceSub,reduceLeDiff,zz0,f0,f1,f9,f10,↓WX_idx1,g1,wrap64_in,decide_eq_false c1,decide_eq_false (show ¬ (q.getD i 0≠0) from fun e=>e c3)]
   refine InvQ_go (9-(i+1)) (by omega) ⟨(i+1),rfl,by omega,(by first|rfl|exact f0|(simp only[upd_apply];rfl)|(show I64 _=_;congr 1;omega)),(by first|rfl|exact f1|(simp only[upd_apply];rfl)|(show I64 _=_;congr 1;omega)),(by first|rfl|exact f9|(simp only[upd_apply];rfl)|(show I64 _=_;congr 1;omega)),(by first|rfl|exact f10|(simp only[upd_apply];rfl)|(show I64 _=_;congr 1;omega)),rfl,(step_all hj (by unfold okAt;exact decide_eq_true ⟨by omega,fun _=>c3⟩))⟩
  ·by_cases c2:n≤(i:Int)
   ·try simp (maxSteps:=3000000) (disch:=first|omega|simp only[lnx];omega) only[↓xpre,xpost,↓reduceIte,reduceEqDiff,reduceAdd,reduceSub,reduceLeDiff,zz0,f0,f1,f9,f10,↓WX_idx1,g1,wrap64_in,decide_eq_false c1,decide_eq_true c2,decide_eq_true (show q.getD i 0≠0 from c3)]
    exact no (by unfold okAt;exact decide_eq_false (fun e=>c3 (e.2 c2)))
   ·try simp (maxSteps:=3000000) (disch:=first|omega|simp only[lnx];omega) only[↓xpre,xpost,↓reduceIte,reduceEqDiff,reduceAdd,reduceSub,reduceLeDiff,zz0,f0,f1,f9,f10,↓WX_idx1,g1,wrap64_in,decide_eq_false c1,decide_eq_false c2,decide_eq_true (show q.getD i 0≠0 from c3)]
    refine InvQ_go (9-(i+1)) (by omega) ⟨(i+1),rfl,by omega,(by first|rfl|exact f0|(simp only[upd_apply];rfl)|(show I64 _=_;congr 1;omega)),(by first|rfl|exact f1|(simp only[upd_apply];rfl)|(show I64 _=_;congr 1;omega)),(by first|rfl|exact f9|(simp only[upd_apply];rfl)|(show I64 _=_;congr 1;omega)),(by first|rfl|exact f10|(simp only[upd_apply];rfl)|(show I64 _=_;congr 1;omega)),rfl,(step_all hj (by unfold okAt;exact decide_eq_true ⟨by omega,fun e=>absurd e c2⟩))⟩
 ·try simp (maxSteps:=3000000) (disch:=first|omega|simp only[lnx];omega) only[↓xpre,xpost,↓reduceIte,reduceEqDiff,reduceAdd,reduceSub,reduceLeDiff,zz0,f0,f1,f9,f10]
  have:=hQ _ p1
  rw[okForm_t fun j hj'=>hj j (by omega)] at this
  exact this
def z9:List Int:=[0,0,0,0,0,0,0,0,0]
theorem zeros9':([.int .u8 0,.int .u8 0,.int .u8 0,.int .u8 0,.int .u8 0,.int .u8 0,.int .u8 0,.int .u8 0,.int .u8 0]:List Value)=cel .u8 z9:=rfl
def isZ (q:List Int):Bool:=q==z9
theorem intsOf_cel {k:IntKind}:∀ {q:List Int},q≠[]→intsOf (cel k q)=some (k,q)
 | [],h=>absurd rfl h
 | [a],_=>rfl
 | a::b::l,_=>by
  have ih:=intsOf_cel (k:=k) (q:=b::l) (by simp)
  have e:cel k (a::b::l)=.int k a::cel k (b::l):=rfl
  have e2:cel k (b::l)=.int k b::cel k l:=rfl
  rw[e2] at ih
  rw[e,e2]
  simp only[intsOf,ih,if_true]
theorem eqaV_cel {n:Nat} {k:IntKind} {q r:List Int} (hq:q.length=n) (hr:r.length=n) (h0:0<n):eqaV false n (.agg (cel k q).toArray) (.agg (cel k r).toArray)=some (.bool (q==r)):=by
 have e1:=intsOf_cel (k:=k) (q:=q) (by intro e;rw[e] at hq;simp at hq;omega)
 have e2:=intsOf_cel (k:=k) (q:=r) (by intro e;rw[e] at hr;simp at hr;omega)
 simp only[eqaV,e1,e2]
 rw[if_pos ⟨trivial,hq,hr⟩]
 simp
theorem s_l01Zero {q:List Int} {h:AH} {Q:Value→AH→Prop} (hq:q.length=9) (hQ:∀ h',h<+:h'→Q (.bool (isZ q)) h'):WF S 278 [aggV .u8 q] h Q:=by
 refine WF_fn (fn:=c278) rfl rfl ?_
 dsimp only[c278,oO,oM,oS,oG,oK,oE,oL,oF,oX,oN]
 have tk:q.take 9=q:=List.take_of_length_le (by rw[hq];exact Nat.le_refl _)
 have e:=eqaV_cel (k:=.u8) hq (show z9.length=9 from rfl) (by omega)
 try simp (maxSteps:=3000000) (disch:=first|omega|simp only[lnx];omega) only[↓xpre,xpost,↓reduceIte,reduceEqDiff,reduceAdd,reduceSub,reduceLeDiff,zz0,aggV,cel_all,cel_len,hq,cel_take,tk,fillL,zeros9',e]
 have:=hQ _ (pre_new (b:=⟨cel .u8 q,136,false,true⟩) (List.prefix_refl h))
 unfold isZ at this
 simpa using this
def seg (q:List Int) (i:Nat):List Int:=(q.drop (i*9)).take 9
theorem By.seg {q:List Int} (hq:By 27 q) {i:Nat} (hi:i<3):By 9 (seg q i):=by
 have h1:=hq.1
 refine⟨by unfold X.seg;simp;omega,fun j hj=>?_⟩
 unfold X.seg
 rw[cut_get hj]
 exact hq.2 _ (by omega)
def hasZ (q:List Int):Bool:=isZ (seg q 0)||isZ (seg q 1)||isZ (seg q 2)
theorem i_hasZero {q:List Int} {h:AH} {Q:Value→AH→Prop} (hq:By 27 q) (hQ:∀ h',h<+:h'→Q (.bool (hasZ q)) h'):WF S 283 [aggV .u8 q] h Q:=by
 refine WF_fn (fn:=c283) rfl rfl ?_
 dsimp only[c283,oO,oM,oS,oG,oK,oE,oL,oF,oX,oN]
 have hQ':=hQ _ (pre_new (b:=⟨cel .u8 q,138,false,true⟩) (List.prefix_refl h))
 have hz9:z9.length=9:=rfl
 have e0:=eqaV_cel (k:=.u8) (hq.seg (i:=0) (by omega)).1 hz9 (by omega)
 have e1:=eqaV_cel (k:=.u8) (hq.seg (i:=1) (by omega)).1 hz9 (by omega)
 have e2:=eqaV_cel (k:=.u8) (hq.seg (i:=2) (by omega)).1 hz9 (by omega)
 have s0:seg q 0=q.take 9:=by unfold seg;simp
 have s1:seg q 1=(q.drop 9).take 9:=rfl
 have s2:seg q 2=(q.drop 18).take 9:=rfl
 unfold hasZ isZ at hQ'
 rw[s0] at e0 hQ'
 rw[s1] at e1 hQ'
 rw[s2] at e2 hQ'
 generalize hc0:(q.take 9==z9)=c0 at *
 generalize hc1:((q.drop 9).take 9==z9)=c1 at *
 generalize hc2:((q.drop 18).take 9==z9)=c2 at *
 try simp (maxSteps:=3000000) (disch:=first|omega|simp only[lnx];omega) only[↓xpre,xpost,↓reduceIte,reduceEqDiff,reduceAdd,reduceSub,reduceLeDiff,zz0,aggV,cel_all,cel_len,hq.1,cel_take,cel_drop,List.drop_zero,fillL,zeros9',e0]
 cases c0 with
 | true=>
  try simp (maxSteps:=3000000) (disch:=first|omega|simp only[lnx];omega) only[↓xpre,xpost,↓reduceIte,reduceEqDiff,reduceAdd,reduceSub,reduceLeDiff,zz0]
  exact hQ'
 | false=>
  try simp (maxSteps:=3000000) (disch:=first|omega|simp only[lnx];omega) only[↓xpre,xpost,↓reduceIte,reduceEqDiff,reduceAdd,reduceSub,reduceLeDiff,zz0,cel_all,cel_len,hq.1,cel_take,cel_drop,fillL,zeros9',e1]
  cases c1 with
  | true=>
   try simp (maxSteps:=3000000) (disch:=first|omega|simp only[lnx];omega) only[↓xpre,xpost,↓reduceIte,reduceEqDiff,reduceAdd,reduceSub,reduceLeDiff,zz0]
   exact hQ'
  | false=>
   try simp (maxSteps:=3000000) (disch:=first|omega|simp only[lnx];omega) only[↓xpre,xpost,↓reduceIte,reduceEqDiff,reduceAdd,reduceSub,reduceLeDiff,zz0,cel_all,cel_len,hq.1,cel_take,cel_drop,fillL,zeros9',e2]
   exact hQ'
theorem WO_cut {S:XS} {ops:List XI} {f:Fr} {h:AH} {Q:Fr→AH→Prop} (I:Fr→Prop) (hI:I f) (step:∀ f,I f→WO S ops f h Q):WO S ops f h Q:=step f hI
def JnQ (I:Fr→AH→Prop):XE→Fr→AH→Prop
 | .normal,f,h=>I f h
 | _,_,_=>False
theorem JnQ_n {I:Fr→AH→Prop} {f:Fr} {h:AH}:JnQ I .normal f h=I f h:=rfl
theorem WO.mono {S:XS} {ops:List XI} {f:Fr} {h:AH} {Q Q':Fr→AH→Prop} (w:WO S ops f h Q) (hq:∀ f h,Q f h→Q' f h):WO S ops f h Q':=by
 obtain⟨k,f',h',h1,h2⟩:=w
 exact⟨k,f',h',h1,hq _ _ h2⟩
section
variable {n m:Nat} {h0 h h' h'':AH} {b:Blk}
theorem Kp.refl:Kp n h h:=⟨Nat.le_refl _,fun _ _ _=>rfl⟩
theorem Kp.trans (a:Kp n h h') (c:Kp n h' h''):Kp n h h'':=⟨Nat.le_trans a.1 c.1,fun m hm hn=>(c.2 m (Nat.lt_of_lt_of_le hm a.1) hn).trans (a.2 m hm hn)⟩
theorem Kp.of (p:h<+:h'):Kp n h h':=prefix_kp p
theorem Kp.get (k:Kp n h h') (hm:m≠n) (hg:h.get m=some b):h'.get m=some b:=by rw[k.2 m (get_lt hg) hm];exact hg
theorem Kp.put (k:Kp n h h'):Kp n h (h'.put n b):=⟨by rw[len_put];exact k.1,fun m hm hn=>by rw[get_put_ne (Ne.symm hn)];exact k.2 m hm hn⟩
theorem Kp.putb (k:Kp n h h') (hm:h.length≤m):Kp n h (h'.put m b):=⟨by rw[len_put];exact k.1,fun j hj hn=>by rw[get_put_ne (by omega)];exact k.2 j hj hn⟩
theorem Kp.new (k:Kp n h h'):Kp n h (h'.new b):=k.trans (Kp.of (pre_new (List.prefix_refl _)))
theorem get_none {m:Nat} (hm:m<h.length) (hn:h.get m=none):h[m]?=some none:=by
 unfold AH.get at hn
 rw[List.getElem?_eq_getElem hm] at hn ⊢
 cases e:h[m] with
 | none=>rfl
 | some b=>rw[e] at hn;cases hn
theorem get_some' {m:Nat} (hg:h.get m=some b):h[m]?=some (some b):=by
 have hl:=get_lt hg
 unfold AH.get at hg
 rw[List.getElem?_eq_getElem hl] at hg ⊢
 cases e:h[m] with
 | none=>rw[e] at hg;cases hg
 | some c=>rw[e] at hg;cases hg;rfl
theorem Kp.pre (k:Kp n h h') (p:h0<+:h) (hl:h0.length≤n):h0<+:h':=by
 have l0:=pre_len p
 rw[List.prefix_iff_getElem?] at p ⊢
 intro i hi
 have e:=k.2 i (by omega) (by omega)
 rw[←p i hi]
 cases hg:h.get i with
 | none=>
  rw[hg] at e
  rw[get_none (by omega) hg,get_none (Nat.lt_of_lt_of_le (by omega) k.1) e]
 | some b=>
  rw[hg] at e
  rw[get_some' hg,get_some' e]
end
theorem put_facts {h H:AH} {m:Nat} {b:Blk} (hH:h.put m b=H):(∀ k c,k≠m→h.get k=some c→H.get k=some c)∧H.length=h.length∧(m<h.length→H.get m=some b)∧∀ n h0,Kp n h0 h→h0.length≤m→Kp n h0 H:=by
 subst hH
 exact⟨fun k c hk g=>by rw[get_put_ne (Ne.symm hk)];exact g,len_put,fun hm=>get_put_same hm,fun n h0 k hm=>k.putb hm⟩
def KP (n:Nat) (h:AH) (p:AH→Prop):Prop:=∀ h',Kp n h h'→p h'
theorem KP.now {n:Nat} {h:AH} {p:AH→Prop} (k:KP n h p):p h:=k h Kp.refl
theorem KP.kp {n:Nat} {h h':AH} {p:AH→Prop} (k:KP n h p) (d:Kp n h h'):KP n h' p:=fun h2 d2=>k h2 (d.trans d2)
theorem KP.pre {n:Nat} {h h':AH} {p:AH→Prop} (k:KP n h p) (d:h<+:h'):KP n h' p:=k.kp (Kp.of d)
def KN (lo:Nat) (h:AH) (p:AH→Prop):Prop:=∀ h':AH,h.length≤h'.length→(∀ m,lo≤m→m<h.length→h'.get m=h.get m)→p h'
section
variable {lo lo' n m:Nat} {h h':AH} {p:AH→Prop} {b:Blk}
theorem KN.now (k:KN lo h p):p h:=k h (Nat.le_refl _) fun _ _ _=>rfl
theorem KN.kp (k:KN lo h p) (d:Kp n h h') (hn:n<lo):KN lo h' p:=fun h2 l2 g2=>k h2 (Nat.le_trans d.1 l2) fun m h1 h3=>(g2 m h1 (Nat.lt_of_lt_of_le h3 d.1)).trans (d.2 m h3 (by omega))
theorem KN.pre (k:KN lo h p) (d:h<+:h'):KN lo h' p:=fun h2 l2 g2=>k h2 (Nat.le_trans (pre_len d) l2) fun m h1 h3=>(g2 m h1 (Nat.lt_of_lt_of_le h3 (pre_len d))).trans (prefix_get d h3)
theorem KN.put (k:KN lo h p) (hm:m<lo):KN lo (h.put m b) p:=fun h2 l2 g2=>k h2 (by rw[len_put] at l2;exact l2) fun j h1 h3=>(g2 j h1 (by rw[len_put];exact h3)).trans (get_put_ne (by omega))
theorem KN.mono (k:KN lo h p) (hl:lo'≤lo):KN lo' h p:=fun h2 l2 g2=>k h2 l2 fun m h1 h3=>g2 m (by omega) h3
end
abbrev U64 (n:Int):Value:=.int .u64 n
abbrev srcP (n:Nat):Value:=.pointer (some ⟨n,0,none⟩)
structure Src (h0 h:AH) (n:Nat):Prop where
 p:h0<+:h
 lo:h0.length≤n
 ex:∃ (cv:Value) (code:List (List Int)) (a:Nat) (k:Int) (e:TypeId) (full:Bool),Els .u8 1 h0 cv code∧Byt 1 code∧code.length≤1000000∧a≤code.length∧h.get n=some ⟨[cv,I64 a,U64 k],e,false,full⟩
theorem Src.kp {h0 h h':AH} {n:Nat} (s:Src h0 h n) (p:h<+:h'):Src h0 h' n:=by
 obtain⟨cv,code,a,k,e,full,h1,h2,h3,h4,h5⟩:=s.ex
 exact⟨s.p.trans p,s.lo,cv,code,a,k,e,full,h1,h2,h3,h4,pre_get p h5⟩
theorem Src.keep {h0 h h':AH} {n:Nat} (s:Src h0 h n) (p:h0<+:h') (g:∀ b,h.get n=some b→h'.get n=some b):Src h0 h' n:=by
 obtain⟨cv,code,a,k,e,full,h1,h2,h3,h4,h5⟩:=s.ex
 exact⟨p,s.lo,cv,code,a,k,e,full,h1,h2,h3,h4,g _ h5⟩
theorem Src.lt {h0 h:AH} {n:Nat} (s:Src h0 h n):n<h.length:=by
 obtain⟨cv,code,a,k,e,full,h1,h2,h3,h4,h5⟩:=s.ex
 exact get_lt h5
theorem Src.putb {h0 h:AH} {n m:Nat} {b:Blk} (s:Src h0 h n) (hm:m≠n) (hl:h0.length≤m):Src h0 (h.put m b) n:=s.keep (pre_put s.p hl) fun c g=>by rw[get_put_ne hm];exact g
theorem Src.put {h0 h H:AH} {n m:Nat} {b:Blk} (s:Src h0 h n) (hH:h.put m b=H) (hm:m≠n) (hl:h0.length≤m):Src h0 H n:=by
 subst hH
 exact s.putb hm hl
theorem and24 (x:Int):xbin .and (U64 x) (U64 16777215)=some (U64 ((BitVec.ofInt 64 x &&& BitVec.ofInt 64 16777215).toNat:Nat))∧(BitVec.ofInt 64 x &&& BitVec.ofInt 64 16777215).toNat≤16777215:=by
 have hb:(BitVec.ofInt 64 x &&& BitVec.ofInt 64 16777215).toNat≤16777215:=by
  rw[BitVec.toNat_and]
  exact Nat.le_trans Nat.and_le_right (by decide)
 refine⟨?_,hb⟩
 simp only[xbin,if_true]
 congr 2
 show IntKind.wrap .u64 ((BitVec.ofInt 64 x &&& BitVec.ofInt 64 16777215).toNat:Nat)=_
 generalize (BitVec.ofInt 64 x &&& BitVec.ofInt 64 16777215).toNat=y at hb
 simp only[IntKind.wrap]
 have:IntKind.u64.bits=64:=rfl
 rw[this,show IntKind.u64.signed=false from rfl,Bool.false_and,if_neg (by decide)]
 omega
theorem bin_shr {k k':IntKind} {x:Int} {b:Int} (hb:0≤b):xbin .shr (.int k x) (.int k' b)=some (.int k (x.fdiv (2^(min b.toNat k.bits)))):=by simp[xbin,hb]
theorem s_l01Next {h0 h:AH} {n:Nat} {k:Int} {Q:Value→AH→Prop} (s:Src h0 h n) (hQ:∀ r h',Kp n h h'→h'.length=h.length→Src h0 h' n→(1≤k→0≤r∧r<k)→(k<1→r=0)→Q (I64 r) h'):WF S 148 [srcP n,I64 k] h Q:=by
 refine WF_fn (fn:=c148) rfl rfl ?_
 dsimp only[c148,oO,oM,oS,oG,oK,oE,oL,oF,oX,oN]
 obtain⟨cv,code,a,hs,e,full,h1,h2,h3,h4,h5⟩:=s.ex
 unfold srcP
 by_cases hk:k<1
 ·((try simp (maxSteps:=3000000) (dsimp:=false) (disch:=first|omega|simp only[lnx];omega) only[↓ypre,ypost,↓reduceIte,reduceEqDiff,reduceAdd,reduceSub,reduceLeDiff,zz0,ynew,decide_eq_true hk]);try simp only[yback])
  exact hQ 0 _ Kp.refl rfl s (by omega) (fun _=>rfl)
 ·((try simp (maxSteps:=3000000) (dsimp:=false) (disch:=first|omega|simp only[lnx];omega) only[↓ypre,ypost,↓reduceIte,reduceEqDiff,reduceAdd,reduceSub,reduceLeDiff,zz0,ynew,decide_eq_false hk,nchkV_p,rd1_of h5,wr_of h5,splice_eq]);try simp only[yback])
  generalize hx:IntKind.u64.wrap (IntKind.u64.wrap (hs*6364136223846793005)+1442695040888963407)=x
  generalize hH:h.put n ⟨[cv,I64 a,U64 x],e,false,full⟩=H
  have gH:H.get n=some ⟨[cv,I64 a,U64 x],e,false,full⟩:=by rw[←hH];exact get_put_same (get_lt h5)
  have lH:H.length=h.length:=by rw[←hH,len_put]
  have kH:Kp n h H:=by rw[←hH];exact Kp.refl.put
  have pH:=kH.pre s.p s.lo
  obtain⟨a1,a2⟩:=and24 (x.fdiv (2^(min (33:Int).toNat IntKind.u64.bits)))
  generalize hN:(BitVec.ofInt 64 (x.fdiv (2^(min (33:Int).toNat IntKind.u64.bits))) &&& BitVec.ofInt 64 16777215).toNat=N at a1 a2
  have e1:=h1.pre pH
  have fin:∀ (y:Int) (h':AH),0≤y→Kp n h h'→h'.length=h.length→Src h0 h' n→Q (I64 (y.tmod k)) h':=fun y h' hy kp hl ss=>
   hQ _ h' kp hl ss (fun _=>⟨Int.tmod_nonneg _ hy,Int.tmod_lt_of_pos _ (by omega)⟩) (fun hk'=>absurd hk' hk)
  ((try simp (maxSteps:=3000000) (dsimp:=false) (disch:=first|omega|simp only[lnx];omega) only[↓ypre,ypost,↓reduceIte,reduceEqDiff,reduceAdd,reduceSub,reduceLeDiff,zz0,ynew,rd1_of gH,bin_shr,a1,e1.len,wrap64_in,Int.reduceLE]);try simp only[yback])
  by_cases hlt:(a:Int)<code.length
  ·have hi':a<code.length:=by omega
   obtain⟨n2,off,hix,hrn,hr1⟩:=e1.at hi'
   have rb:=hr1 0 (by omega)
   have bb:=h2 a hi' 0 (by omega)
   rw[Nat.add_zero] at rb
   generalize (code.getD a []).getD 0 0=y at rb bb
   ((try simp (maxSteps:=3000000) (dsimp:=false) (disch:=first|omega|simp only[lnx];omega) only[↓ypre,ypost,↓reduceIte,reduceEqDiff,reduceAdd,reduceSub,reduceLeDiff,zz0,ynew,decide_eq_true hlt,hix,rb,rd1_of gH,wr_of gH,splice_eq,wrap64_in,bin_rem (show k≠0 by omega)]);try simp only[yback])
   exact fin (N+y) _ (by omega) kH.put (by rw[len_put,lH]) ⟨pre_put pH s.lo,s.lo,cv,code,a+1,x,e,full,h1,h2,h3,by omega,get_put_same (get_lt gH)⟩
  ·((try simp (maxSteps:=3000000) (dsimp:=false) (disch:=first|omega|simp only[lnx];omega) only[↓ypre,ypost,↓reduceIte,reduceEqDiff,reduceAdd,reduceSub,reduceLeDiff,zz0,ynew,decide_eq_false hlt,bin_rem (show k≠0 by omega)]);try simp only[yback])
   exact fin N H (by omega) kH lH ⟨pH,s.lo,cv,code,a,x,e,full,h1,h2,h3,h4,gH⟩
theorem s_l01From {h:AH} {cv:Value} {code:List (List Int)} {Q:Value→AH→Prop} (hv:Els .u8 1 h cv code) (hb:Byt 1 code) (hl:code.length≤1000000)
  (hQ:∀ h',h<+:h'→h'.length=h.length+1→Src h h' h.length→Q (srcP h.length) h'):WF S 145 [cv] h Q:=by
 refine WF_fn (fn:=c145) rfl rfl ?_
 dsimp only[c145,oO,oM,oS,oG,oK,oE,oL,oF,oX,oN]
 ((try simp (maxSteps:=3000000) (dsimp:=false) (disch:=first|omega|simp only[lnx];omega) only[↓ypre,ypost,↓reduceIte,reduceEqDiff,reduceAdd,reduceSub,reduceLeDiff,zz0,ynew,hv.len,hv.one,hv.cells]);try simp only[yback])
 generalize hx:IntKind.u64.wrap (12619+IntKind.u64.wrap (code.length:Int))=x0
 ((try simp (maxSteps:=3000000) (dsimp:=false) (disch:=first|omega|simp only[lnx];omega) only[↓ypre,ypost,↓reduceIte,reduceEqDiff,reduceAdd,reduceSub,reduceLeDiff,zz0,ynew,fillL,hv.one,hv.cells]);try simp only[yback])
 generalize hH1:AH.new h _=H1
 obtain⟨hb1,p1,n1⟩:=new_facts hH1
 refine WC_loop_inv (fun m f K1=>∃ (i:Nat) (x:Int),m=code.length-i∧i≤code.length∧f 0=cv∧f 3=srcP h.length∧f 4=I64 i∧(h<+:K1)∧(K1.length=h.length+1)∧(K1.get h.length=some ⟨[cv,I64 0,U64 x],220,false,true⟩)) ?_ (code.length-0) _ _ ⟨0,x0,rfl,by omega,(by first|rfl|simp[upd_apply]),(by first|rfl|simp[upd_apply]),(by first|rfl|simp[upd_apply]),p1,n1,hb1⟩
 rintro m f K1 ⟨i,x,rfl,hi,f0,f3,f4,pp,hl1,hg⟩
 have e1:=hv.pre pp
 unfold srcP at f3
 by_cases hlt:(i:Int)<code.length
 ·by_cases h4:(i:Int)<4096
  ·have hi':i<code.length:=by omega
   obtain⟨n2,off,hix,hrn,hr1⟩:=e1.at hi'
   have rb:=hr1 0 (by omega)
   rw[Nat.add_zero] at rb
   ((try simp (maxSteps:=3000000) (dsimp:=false) (disch:=first|omega|simp only[lnx];omega) only[↓ypre,ypost,↓reduceIte,reduceEqDiff,reduceAdd,reduceSub,reduceLeDiff,zz0,ynew,f0,f3,f4,e1.len,decide_eq_true hlt,decide_eq_true h4,nchkV_p,rd1_of hg,hix,rb,wr_of hg,splice_eq,wrap64_in]);try simp only[yback])
   refine InvQ_go (code.length-(i+1)) (by omega) ⟨(i+1),(_),rfl,by omega,(by first|rfl|exact f0|(simp only[upd_apply];rfl)|(show I64 _=_;congr 1;omega)),(by first|rfl|exact f3|(simp only[upd_apply];rfl)|(show I64 _=_;congr 1;omega)),(by first|rfl|exact f4|(simp only[upd_apply];rfl)|(show I64 _=_;congr 1;omega)),(pre_put pp (by omega)),(by rw[len_put];exact hl1),(get_put_same (get_lt hg))⟩
  ·((try simp (maxSteps:=3000000) (dsimp:=false) (disch:=first|omega|simp only[lnx];omega) only[↓ypre,ypost,↓reduceIte,reduceEqDiff,reduceAdd,reduceSub,reduceLeDiff,zz0,ynew,f0,f3,f4,e1.len,decide_eq_true hlt,decide_eq_false h4]);try simp only[yback])
   exact hQ _ pp hl1 ⟨pp,Nat.le_refl _,cv,code,0,x,_,_,hv,hb,hl,Nat.zero_le _,hg⟩
 ·((try simp (maxSteps:=3000000) (dsimp:=false) (disch:=first|omega|simp only[lnx];omega) only[↓ypre,ypost,↓reduceIte,reduceEqDiff,reduceAdd,reduceSub,reduceLeDiff,zz0,ynew,f0,f3,f4,e1.len,decide_eq_false hlt,WG_un]);try simp only[yback])
  exact hQ _ pp hl1 ⟨pp,Nat.le_refl _,cv,code,0,x,_,_,hv,hb,hl,Nat.zero_le _,hg⟩
theorem s_l01Pick {h0 h:AH} {n:Nat} {v:Value} {ns:List Int} {Q:Value→AH→Prop} (s:Src h0 h n) (hv:KP n h fun h'=>Ints h' v ns) (h1:1≤ns.length) (h2:ns.length≤1000)
  (hQ:∀ j h',Kp n h h'→h'.length=h.length→Src h0 h' n→j<ns.length→Q (I64 (ns.getD j 0)) h'):WF S 147 [srcP n,v] h Q:=by
 refine WF_fn (fn:=c147) rfl rfl ?_
 dsimp only[c147,oO,oM,oS,oG,oK,oE,oL,oF,oX,oN]
 ((try simp (maxSteps:=3000000) (dsimp:=false) (disch:=first|omega|simp only[lnx];omega) only[↓ypre,ypost,↓reduceIte,reduceEqDiff,reduceAdd,reduceSub,reduceLeDiff,zz0,ynew,hv.now.len]);try simp only[yback])
 refine s_l01Next s fun r h' kp hl ss hr _=>?_
 obtain⟨r0,r1⟩:=hr (by omega)
 have iv:=hv h' kp
 ((try simp (maxSteps:=3000000) (dsimp:=false) (disch:=first|omega|simp only[lnx];omega) only[↓ypre,ypost,↓reduceIte,reduceEqDiff,reduceAdd,reduceSub,reduceLeDiff,zz0,ynew,iv.ix r0 r1,iv.rd r0 r1]);try simp only[yback])
 have:=hQ r.toNat h' kp hl ss (by omega)
 exact this
theorem kp_new {h H:AH} {n:Nat} {ns:List Int} {e:TypeId} (hH:h.new ⟨ns.map (Value.int .i64),e,false,true⟩=H) (hn:n<h.length):KP n H fun h'=>Ints h' (.slice (some ⟨h.length,0,none⟩) ns.length 1) ns:=by
 obtain⟨g1,p1,n1⟩:=new_facts hH
 intro h' k
 exact Ints.own (k.get (by omega) g1) rfl
def sz (n:Int):Bool:=decide (1≤n∧n≤3)
theorem s_l01Sizes {p n m k:Int} {h:AH} {Q:Value→AH→Prop} (hQ:Q (.bool (isP p&&sz n&&sz m&&sz k)) h):WF S 275 [I64 p,I64 n,I64 m,I64 k] h Q:=by
 refine WF_fn (fn:=c275) rfl rfl ?_
 dsimp only[c275,oO,oM,oS,oG,oK,oE,oL,oF,oX,oN]
 try simp (maxSteps:=3000000) (disch:=first|omega|simp only[lnx];omega) only[↓xpre,xpost,↓reduceIte,reduceEqDiff,reduceAdd,reduceSub,reduceLeDiff,zz0]
 refine s_l01Prime ?_
 cases c0:isP p with
 | false=>
  rw[c0] at hQ
  try simp (maxSteps:=3000000) (disch:=first|omega|simp only[lnx];omega) only[↓xpre,xpost,↓reduceIte,reduceEqDiff,reduceAdd,reduceSub,reduceLeDiff,zz0,WG_un]
  exact hQ
 | true=>
  rw[c0] at hQ
  try simp (maxSteps:=3000000) (disch:=first|omega|simp only[lnx];omega) only[↓xpre,xpost,↓reduceIte,reduceEqDiff,reduceAdd,reduceSub,reduceLeDiff,zz0]
  refine s_l01In ?_
  have e1:decide (1≤n∧n≤3)=sz n:=rfl
  have e2:decide (1≤m∧m≤3)=sz m:=rfl
  have e3:decide (1≤k∧k≤3)=sz k:=rfl
  rw[e1]
  cases c1:sz n with
  | false=>
   rw[c1] at hQ
   try simp (maxSteps:=3000000) (disch:=first|omega|simp only[lnx];omega) only[↓xpre,xpost,↓reduceIte,reduceEqDiff,reduceAdd,reduceSub,reduceLeDiff,zz0,WG_un]
   exact hQ
  | true=>
   rw[c1] at hQ
   try simp (maxSteps:=3000000) (disch:=first|omega|simp only[lnx];omega) only[↓xpre,xpost,↓reduceIte,reduceEqDiff,reduceAdd,reduceSub,reduceLeDiff,zz0]
   refine s_l01In ?_
   rw[e2]
   cases c2:sz m with
   | false=>
    rw[c2] at hQ
    try simp (maxSteps:=3000000) (disch:=first|omega|simp only[lnx];omega) only[↓xpre,xpost,↓reduceIte,reduceEqDiff,reduceAdd,reduceSub,reduceLeDiff,zz0,WG_un]
    exact hQ
   | true=>
    rw[c2] at hQ
    try simp (maxSteps:=3000000) (disch:=first|omega|simp only[lnx];omega) only[↓xpre,xpost,↓reduceIte,reduceEqDiff,reduceAdd,reduceSub,reduceLeDiff,zz0]
    refine s_l01In ?_
    rw[e3]
    try simp (maxSteps:=3000000) (disch:=first|omega|simp only[lnx];omega) only[↓xpre,xpost,↓reduceIte,reduceEqDiff,reduceAdd,reduceSub,reduceLeDiff,zz0]
    exact hQ
theorem i_isSize {v:Value} {ns:List Int} {h:AH} {Q:Value→AH→Prop} (hv:Ints h v ns) (hl:(ns.length:Int)≤1048576) (hQ:Q (.bool (ns.all sz)) h):WF S 167 [v] h Q:=by
 refine WF_fn (fn:=c167) rfl rfl ?_
 dsimp only[c167,oO,oM,oS,oG,oK,oE,oL,oF,oX,oN]
 try simp (maxSteps:=3000000) (disch:=first|omega|simp only[lnx];omega) only[↓xpre,xpost,↓reduceIte,reduceEqDiff,reduceAdd,reduceSub,reduceLeDiff,zz0,hv.len]
 refine WC_loop_inv (fun m f K1=>∃ (i:Nat),m=ns.length-i∧i≤ns.length∧f 5=v∧f 6=I64 ns.length∧f 7=I64 i∧(K1=h)∧(∀ j,j<i→sz (ns.getD j 0)=true)) ?_ (ns.length-0) _ _ ⟨0,rfl,by omega,(by first|rfl|simp[upd_apply]),(by first|rfl|simp[upd_apply]),(by first|rfl|simp[upd_apply]),rfl,(by omega)⟩
 rintro m f K1 ⟨i,rfl,hi,f5,f6,f7,hK,hj⟩
 subst hK
 try simp (maxSteps:=3000000) (disch:=first|omega|simp only[lnx];omega) only[↓xpre,xpost,↓reduceIte,reduceEqDiff,reduceAdd,reduceSub,reduceLeDiff,zz0,f5,f6,f7,IfW_dec]
 refine⟨fun hlt=>?_,fun hge=>?_⟩
 ·have hi':i<ns.length:=by omega
  have hix:=hv.ix (k:=.i64) (j:=i) (by omega) (by omega)
  have hrd:=hv.rd (j:=i) (by omega) (by omega)
  simp only[nth,Int.toNat_natCast] at hrd
  have no:sz (ns.getD i 0)=false→Q (.bool false) K1:=fun e=>by
   have:ns.all sz=false:=by
    rw[List.all_eq_false]
    refine⟨ns.getD i 0,?_,by rw[e];simp⟩
    rw[List.getD_eq_getElem?_getD,List.getElem?_eq_getElem hi']
    exact List.getElem_mem hi'
   rw[this] at hQ
   exact hQ
  by_cases c1:ns.getD i 0<1
  ·try simp (maxSteps:=3000000) (disch:=first|omega|simp only[lnx];omega) only[↓xpre,xpost,↓reduceIte,reduceEqDiff,reduceAdd,reduceSub,reduceLeDiff,zz0,f5,f6,f7,hix,hrd,decide_eq_true c1,WG_un]
   exact no (by unfold sz;exact decide_eq_false (by omega))
  by_cases c2:3<ns.getD i 0
  ·try simp (maxSteps:=3000000) (disch:=first|omega|simp only[lnx];omega) only[↓xpre,xpost,↓reduceIte,reduceEqDiff,reduceAdd,reduceSub,reduceLeDiff,zz0,f5,f6,f7,hix,hrd,decide_eq_false c1,decide_eq_true c2]
   exact no (by unfold sz;exact decide_eq_false (by omega))
  try simp (maxSteps:=3000000) (disch:=first|omega|simp only[lnx];omega) only[↓xpre,xpost,↓reduceIte,reduceEqDiff,reduceAdd,reduceSub,reduceLeDiff,zz0,f5,f6,f7,hix,hrd,decide_eq_false c1,decide_eq_false c2,wrap64_in]
  refine InvQ_go (ns.length-(i+1)) (by omega) ⟨(i+1),rfl,by omega,(by first|rfl|exact f5|(simp only[upd_apply];rfl)|(show I64 _=_;congr 1;omega)),(by first|rfl|exact f6|(simp only[upd_apply];rfl)|(show I64 _=_;congr 1;omega)),(by first|rfl|exact f7|(simp only[upd_apply];rfl)|(show I64 _=_;congr 1;omega)),rfl,(step_all hj (by unfold sz;exact decide_eq_true (by omega)))⟩
 ·try simp (maxSteps:=3000000) (disch:=first|omega|simp only[lnx];omega) only[↓xpre,xpost,↓reduceIte,reduceEqDiff,reduceAdd,reduceSub,reduceLeDiff,zz0,f5,f6,f7]
  have:ns.all sz=true:=by
   rw[List.all_eq_true]
   intro x hx
   obtain⟨j,hj',rfl⟩:=List.mem_iff_getElem.1 hx
   have:=hj j (by omega)
   rw[List.getD_eq_getElem?_getD,List.getElem?_eq_getElem hj'] at this
   exact this
  rw[this] at hQ
  exact hQ
def szX (x:Sch):Bool:=isP x.p&&sz x.n&&sz x.m&&sz x.k
structure SZ (x:Sch):Prop where
 p:2≤x.p∧x.p≤5
 n:1≤x.n∧x.n≤3
 m:1≤x.m∧x.m≤3
 k:1≤x.k∧x.k≤3
 nm:1≤x.n*x.m∧x.n*x.m≤9
 mk2:1≤x.m*x.k∧x.m*x.k≤9
 nk:1≤x.n*x.k∧x.n*x.k≤9
theorem szX_facts {x:Sch} (h:szX x=true):SZ x:=by
 simp only[szX,sz,Bool.and_eq_true,decide_eq_true_eq] at h
 obtain⟨⟨⟨h1,h2⟩,h3⟩,h4⟩:=h
 exact⟨isP_in h1,h2,h3,h4,mul_in1 (A:=3) (B:=3) h2 h3,mul_in1 (A:=3) (B:=3) h3 h4,mul_in1 (A:=3) (B:=3) h2 h4⟩
theorem xres_tmp3 {f:Fr} {h:AH} {t u w:Nat}:xres f h [.tmp t,.tmp u,.tmp w]=some (.tuple #[f t,f u,f w]):=rfl
theorem s_l01Lengths {x:Sch} {v:Value} {h:AH} {Q:Value→AH→Prop} (hv:isOne v=true) (z:SZ x) (hQ:∀ h',h<+:h'→Q (.tuple #[I64 (x.n*x.m),I64 (x.m*x.k),I64 (x.n*x.k)]) h'):WF S 300 [schV x v] h Q:=by
 refine WF_fn (fn:=c300) rfl rfl ?_
 dsimp only[c300,oO,oM,oS,oG,oK,oE,oL,oF,oX,oN]
 have:=z.nm
 have:=z.mk2
 have:=z.nk
 try simp (maxSteps:=3000000) (disch:=first|omega|simp only[lnx];omega) only[↓xpre,xpost,↓reduceIte,reduceEqDiff,reduceAdd,reduceSub,reduceLeDiff,zz0,schV,hv,wrap64_in,xres_tmp3]
 exact hQ _ (pre_new (List.prefix_refl _))
theorem i_placesOf {x:Sch} {v:Value} {h:AH} {Q:Value→AH→Prop} (hv:isOne v=true) (z:SZ x) (hQ:∀ h',h<+:h'→Q (.agg #[I64 (x.n*x.m),I64 (x.m*x.k),I64 (x.n*x.k)]) h'):WF S 271 [schV x v] h Q:=by
 refine WF_fn (fn:=c271) rfl rfl ?_
 dsimp only[c271,oO,oM,oS,oG,oK,oE,oL,oF,oX,oN]
 have:=z.nm
 have:=z.mk2
 have:=z.nk
 try simp (maxSteps:=3000000) (disch:=first|omega|simp only[lnx];omega) only[↓xpre,xpost,↓reduceIte,reduceEqDiff,reduceAdd,reduceSub,reduceLeDiff,zz0,schV,hv,wrap64_in,fillL]
 exact hQ _ (pre_new (pre_new (List.prefix_refl _)))
def pl (x:Sch) (i:Nat):Int:=if i=0 then x.n*x.m else if i=1 then x.m*x.k else x.n*x.k
def okProd (x:Sch) (q:List Int):Bool:=okForm x.p (pl x 0) (seg q 0)&&okForm x.p (pl x 1) (seg q 1)&&okForm x.p (pl x 2) (seg q 2)&&!hasZ q
theorem s_l01Product {x:Sch} {v:Value} {q:List Int} {h:AH} {Q:Value→AH→Prop} (hv:isOne v=true) (z:SZ x) (hq:By 27 q) (hQ:∀ h',h<+:h'→Q (.bool (okProd x q)) h') :
  WF S 276 [schV x v,aggV .u8 q] h Q:=by
 refine WF_fn (fn:=c276) rfl rfl ?_
 dsimp only[c276,oO,oM,oS,oG,oK,oE,oL,oF,oX,oN]
 have s0:q.take 9=seg q 0:=by unfold seg;simp
 have s1:(q.drop 9).take 9=seg q 1:=rfl
 have s2:(q.drop 18).take 9=seg q 2:=rfl
 try simp (maxSteps:=3000000) (disch:=first|omega|simp only[lnx];omega) only[↓xpre,xpost,↓reduceIte,reduceEqDiff,reduceAdd,reduceSub,reduceLeDiff,zz0,schV,hv,aggV,cel_all]
 generalize hH1:AH.new h _=H1
 obtain⟨hb1,p1,n1⟩:=new_facts hH1
 generalize hH2:AH.new H1 _=H2
 obtain⟨hb2,p2,n2⟩:=new_facts hH2
 have hb1:=pre_get p2 hb1
 try simp (maxSteps:=3000000) (disch:=first|omega|simp only[lnx];omega) only[↓xpre,xpost,↓reduceIte,reduceEqDiff,reduceAdd,reduceSub,reduceLeDiff,zz0,rdn_of hb1]
 refine s_l01Lengths hv z fun H3 p3=>?_
 have hb1:=pre_get p3 hb1
 have hb2:=pre_get p3 hb2
 try simp (maxSteps:=3000000) (disch:=first|omega|simp only[lnx];omega) only[↓xpre,xpost,↓reduceIte,reduceEqDiff,reduceAdd,reduceSub,reduceLeDiff,zz0,rd1_of hb1,rdn_of hb2,cel_len,hq.1,cel_take,cel_drop,List.drop_zero,s0,s1,s2]
 refine s_l01Form (hq.seg (by omega)) fun H4 p4=>?_
 have hb1:=pre_get p4 hb1
 have hb2:=pre_get p4 hb2
 unfold okProd hasZ at hQ
 have e0:pl x 0=x.n*x.m:=rfl
 have e1:pl x 1=x.m*x.k:=rfl
 have e2:pl x 2=x.n*x.k:=rfl
 rw[e0,e1,e2] at hQ
 have ph:=(p1.trans p2).trans (p3.trans p4)
 cases c0:okForm x.p (x.n*x.m) (seg q 0) with
 | false=>
  try simp (maxSteps:=3000000) (disch:=first|omega|simp only[lnx];omega) only[↓xpre,xpost,↓reduceIte,reduceEqDiff,reduceAdd,reduceSub,reduceLeDiff,zz0,WG_un]
  have:=hQ _ ph
  rw[c0] at this
  exact this
 | true=>
  rw[c0] at hQ
  try simp (maxSteps:=3000000) (disch:=first|omega|simp only[lnx];omega) only[↓xpre,xpost,↓reduceIte,reduceEqDiff,reduceAdd,reduceSub,reduceLeDiff,zz0,rd1_of hb1,rdn_of hb2,cel_len,hq.1,cel_take,cel_drop,s0,s1,s2]
  refine s_l01Form (hq.seg (by omega)) fun H5 p5=>?_
  have hb1:=pre_get p5 hb1
  have hb2:=pre_get p5 hb2
  have ph:=ph.trans p5
  cases c1:okForm x.p (x.m*x.k) (seg q 1) with
  | false=>
   try simp (maxSteps:=3000000) (disch:=first|omega|simp only[lnx];omega) only[↓xpre,xpost,↓reduceIte,reduceEqDiff,reduceAdd,reduceSub,reduceLeDiff,zz0,WG_un]
   have:=hQ _ ph
   rw[c1] at this
   exact this
  | true=>
   rw[c1] at hQ
   try simp (maxSteps:=3000000) (disch:=first|omega|simp only[lnx];omega) only[↓xpre,xpost,↓reduceIte,reduceEqDiff,reduceAdd,reduceSub,reduceLeDiff,zz0,rd1_of hb1,rdn_of hb2,cel_len,hq.1,cel_take,cel_drop,s0,s1,s2]
   refine s_l01Form (hq.seg (by omega)) fun H6 p6=>?_
   have hb1:=pre_get p6 hb1
   have hb2:=pre_get p6 hb2
   have ph:=ph.trans p6
   cases c2:okForm x.p (x.n*x.k) (seg q 2) with
   | false=>
    try simp (maxSteps:=3000000) (disch:=first|omega|simp only[lnx];omega) only[↓xpre,xpost,↓reduceIte,reduceEqDiff,reduceAdd,reduceSub,reduceLeDiff,zz0,WG_un]
    have:=hQ _ ph
    rw[c2] at this
    exact this
   | true=>
    rw[c2] at hQ
    try simp (maxSteps:=3000000) (disch:=first|omega|simp only[lnx];omega) only[↓xpre,xpost,↓reduceIte,reduceEqDiff,reduceAdd,reduceSub,reduceLeDiff,zz0,rdn_of hb2,cel_len,hq.1,cel_take,cel_drop,List.drop_zero,s0,s1,s2]
    refine s_l01Zero (hq.seg (by omega)).1 fun H7 p7=>?_
    have hb2:=pre_get p7 hb2
    have ph:=ph.trans p7
    cases d0:isZ (seg q 0) with
    | true=>
     try simp (maxSteps:=3000000) (disch:=first|omega|simp only[lnx];omega) only[↓xpre,xpost,↓reduceIte,reduceEqDiff,reduceAdd,reduceSub,reduceLeDiff,zz0,WG_un]
     have:=hQ _ ph
     rw[d0] at this
     exact this
    | false=>
     rw[d0] at hQ
     try simp (maxSteps:=3000000) (disch:=first|omega|simp only[lnx];omega) only[↓xpre,xpost,↓reduceIte,reduceEqDiff,reduceAdd,reduceSub,reduceLeDiff,zz0,rdn_of hb2,cel_len,hq.1,cel_take,cel_drop,s0,s1,s2]
     refine s_l01Zero (hq.seg (by omega)).1 fun H8 p8=>?_
     have hb2:=pre_get p8 hb2
     have ph:=ph.trans p8
     cases d1:isZ (seg q 1) with
     | true=>
      try simp (maxSteps:=3000000) (disch:=first|omega|simp only[lnx];omega) only[↓xpre,xpost,↓reduceIte,reduceEqDiff,reduceAdd,reduceSub,reduceLeDiff,zz0,WG_un]
      have:=hQ _ ph
      rw[d1] at this
      exact this
     | false=>
      rw[d1] at hQ
      try simp (maxSteps:=3000000) (disch:=first|omega|simp only[lnx];omega) only[↓xpre,xpost,↓reduceIte,reduceEqDiff,reduceAdd,reduceSub,reduceLeDiff,zz0,rdn_of hb2,cel_len,hq.1,cel_take,cel_drop,s0,s1,s2]
      refine s_l01Zero (hq.seg (by omega)).1 fun H9 p9=>?_
      have ph:=ph.trans p9
      try simp (maxSteps:=3000000) (disch:=first|omega|simp only[lnx];omega) only[↓xpre,xpost,↓reduceIte,reduceEqDiff,reduceAdd,reduceSub,reduceLeDiff,zz0]
      exact hQ _ ph
theorem i_factors {q:List Int} {h:AH} {Q:Value→AH→Prop} (hq:q.length=27) (hQ:∀ h',h<+:h'→Q (aggV .u8 q) h'):WF S 196 [aggV .u8 q] h Q:=by
 refine WF_fn (fn:=c196) rfl rfl ?_
 dsimp only[c196,oO,oM,oS,oG,oK,oE,oL,oF,oX,oN]
 have z27:(List.replicate 27 (0:Int)).length=27:=by simp
 have a1:(q.take 9).length=9:=by simp;omega
 have a2:((q.drop 9).take 9).length=9:=by simp;omega
 have a3:((q.drop 18).take 9).length=9:=by simp;omega
 have fl:fillL ([.int .u8 0,.int .u8 0,.int .u8 0,.int .u8 0,.int .u8 0,.int .u8 0,.int .u8 0,.int .u8 0,.int .u8 0,.int .u8 0,.int .u8 0,.int .u8 0,.int .u8 0,.int .u8 0,.int .u8 0,.int .u8 0,.int .u8 0,.int .u8 0,.int .u8 0,.int .u8 0,.int .u8 0,.int .u8 0,.int .u8 0,.int .u8 0,.int .u8 0,.int .u8 0,.int .u8 0]) [(0,9,.agg (cel .u8 (q.take 9)).toArray),(9,9,.agg (cel .u8 ((q.drop 9).take 9)).toArray),(18,9,.agg (cel .u8 ((q.drop 18).take 9)).toArray)]=some (cel .u8 q):=by
  have f0:List.replicate 27 0=fillN q 0:=by rw[fillN_zero,hq]
  have f3:fillN q 27=q:=by have:=fillN_all (ns:=q);rw[hq] at this;exact this
  have s1:=cel_fill (k:=.u8) (q:=q) (i:=0) (n:=9) (by omega)
  have s2:=cel_fill (k:=.u8) (q:=q) (i:=9) (n:=9) (by omega)
  have s3:=cel_fill (k:=.u8) (q:=q) (i:=18) (n:=9) (by omega)
  rw[List.drop_zero,←f0] at s1
  rw[f3] at s3
  have fl:∀ i,i≤27→(fillN q i).length=27:=fun i hi=>by rw[fillN_len (by omega),hq]
  rw[zeros27]
  simp only[fillL,cellsL_cel,cel_len,a1,a2,a3,z27,fl 9 (by omega),fl 18 (by omega),s1,s2,s3,cel_all,and_self,if_true,Nat.reduceAdd,Nat.reduceLeDiff,Nat.zero_add]
 have tk:q.take 27=q:=List.take_of_length_le (by omega)
 have w1:∀ (h1:AH) (e:TypeId),(h1.new ⟨[.int .u8 0,.int .u8 0,.int .u8 0,.int .u8 0,.int .u8 0,.int .u8 0,.int .u8 0,.int .u8 0,.int .u8 0,.int .u8 0,.int .u8 0,.int .u8 0,.int .u8 0,.int .u8 0,.int .u8 0,.int .u8 0,.int .u8 0,.int .u8 0,.int .u8 0,.int .u8 0,.int .u8 0,.int .u8 0,.int .u8 0,.int .u8 0,.int .u8 0,.int .u8 0,.int .u8 0],e,false,true⟩).wr h1.length 0 (cel .u8 q)=some (h1.new ⟨cel .u8 q,e,false,true⟩):=fun h1 e=>wr_all (by rw[cel_len,hq];rfl)
 try simp (maxSteps:=3000000) (disch:=first|omega|simp only[lnx];omega) only[↓xpre,xpost,↓reduceIte,reduceEqDiff,reduceAdd,reduceSub,reduceLeDiff,zz0,aggV,cel_all,cel_len,hq,cel_take,cel_drop,List.drop_zero,fl,↓w1,tk]
 exact hQ _ (pre_new (pre_new (List.prefix_refl _)))
theorem pl_get {x:Sch} {i:Nat} (hi:i<3):([I64 (x.n*x.m),I64 (x.m*x.k),I64 (x.n*x.k)]:List Value)[i]?=some (I64 (pl x i)):=by
 have:i=0∨i=1∨i=2:=by omega
 rcases this with rfl|rfl|rfl<;>rfl
theorem i_isProduct {x:Sch} {q:List Int} {h:AH} {Q:Value→AH→Prop} (z:SZ x) (hq:By 27 q) (hQ:∀ h',h<+:h'→Q (.bool (okProd x q)) h') :
  WF S 270 [I64 x.p,.agg #[I64 (x.n*x.m),I64 (x.m*x.k),I64 (x.n*x.k)],aggV .u8 q] h Q:=by
 refine WF_fn (fn:=c270) rfl rfl ?_
 dsimp only[c270,oO,oM,oS,oG,oK,oE,oL,oF,oX,oN]
 try simp (maxSteps:=3000000) (disch:=first|omega|simp only[lnx];omega) only[↓xpre,xpost,↓reduceIte,reduceEqDiff,reduceAdd,reduceSub,reduceLeDiff,zz0,aggV,cel_all]
 generalize hH1:AH.new h _=H1
 obtain⟨hb1,p1,n1⟩:=new_facts hH1
 generalize hH2:AH.new H1 _=H2
 obtain⟨hb2,p2,n2⟩:=new_facts hH2
 have hb1:=pre_get p2 hb1
 have tk:q.take 27=q:=List.take_of_length_le (by rw[hq.1];exact Nat.le_refl _)
 try simp (maxSteps:=3000000) (disch:=first|omega|simp only[lnx];omega) only[↓xpre,xpost,↓reduceIte,reduceEqDiff,reduceAdd,reduceSub,reduceLeDiff,zz0,rdn_of hb2,cel_len,hq.1,cel_take,tk]
 refine i_factors hq.1 fun H3 p3=>?_
 try simp (maxSteps:=3000000) (disch:=first|omega|simp only[lnx];omega) only[↓xpre,xpost,↓reduceIte,reduceEqDiff,reduceAdd,reduceSub,reduceLeDiff,zz0]
 refine WC_loop_inv (fun m f K1=>∃ (i:Nat),m=3-i∧i≤3∧f 0=I64 x.p∧f 4=.pointer (some ⟨h.length,0,none⟩)∧f 5=.pointer (some ⟨H1.length,0,none⟩)∧f 10=aggV .u8 q∧f 11=I64 i∧(H3<+:K1)∧(∀ j,j<i→okForm x.p (pl x j) (seg q j)=true)) ?_ (3-0) _ _ ⟨0,rfl,by omega,(by first|rfl|simp[upd_apply]),(by first|rfl|simp[upd_apply]),(by first|rfl|simp[upd_apply]),(by first|rfl|simp[upd_apply]),(by first|rfl|simp[upd_apply]),List.prefix_refl _,(by omega)⟩
 rintro m f K1 ⟨i,rfl,hi,f0,f4,f5,f10,f11,pp,hj⟩
 have hb1:=pre_get (p3.trans pp) hb1
 have hb2:=pre_get (p3.trans pp) hb2
 by_cases hlt:(i:Int)<3
 ·have hi':i<3:=by omega
  have e1:idxnV 3 9 (aggV .u8 q) (I64 i)=some (.agg (cel .u8 (seg q i)).toArray):=by
   simp only[idxnV,aggV,toL,Int.toNat_natCast,cel_len,hq.1]
   rw[if_pos ⟨by omega,by omega,by omega⟩]
   simp only[cel_drop,cel_take]
   rfl
  have sl:=(hq.seg hi').1
  have w1:∀ (h1:AH) (e:TypeId),(h1.new ⟨[.int .u8 0,.int .u8 0,.int .u8 0,.int .u8 0,.int .u8 0,.int .u8 0,.int .u8 0,.int .u8 0,.int .u8 0],e,false,true⟩).wr h1.length 0 (cel .u8 (seg q i))=some (h1.new ⟨cel .u8 (seg q i),e,false,true⟩):=fun h1 e=>wr_all (by rw[cel_len,sl];rfl)
  have ts:(seg q i).take 9=seg q i:=List.take_of_length_le (by omega)
  have lt1:=get_lt hb1
  try simp (maxSteps:=3000000) (disch:=first|omega|simp only[lnx];omega) only[↓xpre,xpost,↓reduceIte,reduceEqDiff,reduceAdd,reduceSub,reduceLeDiff,zz0,f0,f4,f5,f10,f11,decide_eq_true hlt,↓WX_idxn,e1,cel_all,cel_len,sl,↓w1,↓WX_ixa,ixaV_ptr,Int.toNat_natCast,Nat.mul_one,rd1_of hb1,pl_get hi',cel_take,ts]
  refine i_isForm (hq.seg hi') fun H4 p4=>?_
  cases c0:okForm x.p (pl x i) (seg q i) with
  | false=>
   try simp (maxSteps:=3000000) (disch:=first|omega|simp only[lnx];omega) only[↓xpre,xpost,↓reduceIte,reduceEqDiff,reduceAdd,reduceSub,reduceLeDiff,zz0,f0,f4,f5,f10,f11]
   have:=hQ _ ((p1.trans p2).trans ((p3.trans pp).trans ((pre_new (List.prefix_refl _)).trans p4)))
   have e2:okProd x q=false:=by
    unfold okProd
    have:i=0∨i=1∨i=2:=by omega
    rcases this with rfl|rfl|rfl<;>simp[c0]
   rw[e2] at this
   exact this
  | true=>
   try simp (maxSteps:=3000000) (disch:=first|omega|simp only[lnx];omega) only[↓xpre,xpost,↓reduceIte,reduceEqDiff,reduceAdd,reduceSub,reduceLeDiff,zz0,f0,f4,f5,f10,f11,wrap64_in]
   refine InvQ_go (3-(i+1)) (by omega) ⟨(i+1),rfl,by omega,(by first|rfl|exact f0|(simp only[upd_apply];rfl)|(show I64 _=_;congr 1;omega)),(by first|rfl|exact f4|(simp only[upd_apply];rfl)|(show I64 _=_;congr 1;omega)),(by first|rfl|exact f5|(simp only[upd_apply];rfl)|(show I64 _=_;congr 1;omega)),(by first|rfl|exact f10|(simp only[upd_apply];rfl)|(show I64 _=_;congr 1;omega)),(by first|rfl|exact f11|(simp only[upd_apply];rfl)|(show I64 _=_;congr 1;omega)),(pp.trans ((pre_new (List.prefix_refl _)).trans p4)),(step_all hj c0)⟩
 ·try simp (maxSteps:=3000000) (disch:=first|omega|simp only[lnx];omega) only[↓xpre,xpost,↓reduceIte,reduceEqDiff,reduceAdd,reduceSub,reduceLeDiff,zz0,f0,f4,f5,f10,f11,decide_eq_false hlt,rdn_of hb2,cel_len,hq.1,cel_take,tk]
  refine i_hasZero hq fun H4 p4=>?_
  try simp (maxSteps:=3000000) (disch:=first|omega|simp only[lnx];omega) only[↓xpre,xpost,↓reduceIte,reduceEqDiff,reduceAdd,reduceSub,reduceLeDiff,zz0,f0,f4,f5,f10,f11]
  have:=hQ _ ((p1.trans p2).trans ((p3.trans pp).trans p4))
  have e2:okProd x q=!hasZ q:=by
   unfold okProd
   rw[hj 0 (by omega),hj 1 (by omega),hj 2 (by omega)]
   simp
  rw[e2] at this
  exact this
def isX (x:Sch):Bool:=szX x&&decide (x.ps.length≤30)&&x.ps.all (okProd x)
theorem Prods.by {h:AH} {v:Value} {L:List (List Int)} (hv:Prods h v L) {i:Nat} (hi:i<L.length):By 27 (L.getD i []):=⟨hv.1.wid hi,hv.2 i hi⟩
theorem all_getD {α:Type} {d:α} {f:α→Bool} {L:List α} (h:∀ j,j<L.length→f (L.getD j d)=true):L.all f=true:=by
 rw[List.all_eq_true]
 intro x hx
 obtain⟨j,hj,rfl⟩:=List.mem_iff_getElem.1 hx
 have:=h j hj
 rw[List.getD_eq_getElem?_getD,List.getElem?_eq_getElem hj] at this
 exact this
theorem all_getD_f {α:Type} {d:α} {f:α→Bool} {L:List α} {j:Nat} (hj:j<L.length) (h:f (L.getD j d)=false):L.all f=false:=by
 rw[List.all_eq_false]
 refine⟨L.getD j d,?_,by rw[h];simp⟩
 rw[List.getD_eq_getElem?_getD,List.getElem?_eq_getElem hj]
 exact List.getElem_mem hj
theorem s_l01Is {v:Value} {x:Sch} {h:AH} {Q:Value→AH→Prop} (hv:Prods h v x.ps) (hl:SmallX x.ps) (hQ:∀ h',h<+:h'→Q (.bool (isX x)) h'):WF S 154 [schV x v] h Q:=by
 refine WF_fn (fn:=c154) rfl rfl ?_
 dsimp only[c154,oO,oM,oS,oG,oK,oE,oL,oF,oX,oN]
 unfold SmallX at hl
 try simp (maxSteps:=3000000) (disch:=first|omega|simp only[lnx];omega) only[↓xpre,xpost,↓reduceIte,reduceEqDiff,reduceAdd,reduceSub,reduceLeDiff,zz0,schV,hv.one]
 generalize hH1:AH.new h _=H1
 obtain⟨hb1,p1,n1⟩:=new_facts hH1
 try simp (maxSteps:=3000000) (disch:=first|omega|simp only[lnx];omega) only[↓xpre,xpost,↓reduceIte,reduceEqDiff,reduceAdd,reduceSub,reduceLeDiff,zz0,rd1_of hb1]
 refine s_l01Sizes ?_
 have hQ1:=hQ _ p1
 unfold isX at hQ hQ1
 have e0:(isP x.p&&sz x.n&&sz x.m&&sz x.k)=szX x:=rfl
 rw[e0]
 cases c0:szX x with
 | false=>
  try simp (maxSteps:=3000000) (disch:=first|omega|simp only[lnx];omega) only[↓xpre,xpost,↓reduceIte,reduceEqDiff,reduceAdd,reduceSub,reduceLeDiff,zz0,WG_un]
  rw[c0] at hQ1
  exact hQ1
 | true=>
  rw[c0] at hQ hQ1
  have z:=szX_facts c0
  by_cases c1:(30:Int)<x.ps.length
  ·try simp (maxSteps:=3000000) (disch:=first|omega|simp only[lnx];omega) only[↓xpre,xpost,↓reduceIte,reduceEqDiff,reduceAdd,reduceSub,reduceLeDiff,zz0,rd1_of hb1,(hv.pre p1).1.len,decide_eq_true c1]
   rw[decide_eq_false (show ¬ x.ps.length≤30 by omega)] at hQ1
   exact hQ1
  rw[decide_eq_true (show x.ps.length≤30 by omega)] at hQ
  try simp (maxSteps:=3000000) (disch:=first|omega|simp only[lnx];omega) only[↓xpre,xpost,↓reduceIte,reduceEqDiff,reduceAdd,reduceSub,reduceLeDiff,zz0,rd1_of hb1,(hv.pre p1).1.len,decide_eq_false c1]
  refine WC_loop_inv (fun m f K1=>∃ (i:Nat),m=x.ps.length-i∧i≤x.ps.length∧f 1=.pointer (some ⟨h.length,0,none⟩)∧f 3=I64 i∧(H1<+:K1)∧(∀ j,j<i→okProd x (x.ps.getD j [])=true)) ?_ (x.ps.length-0) _ _ ⟨0,rfl,by omega,(by first|rfl|simp[upd_apply]),(by first|rfl|simp[upd_apply]),List.prefix_refl _,(by omega)⟩
  rintro m f K1 ⟨i,rfl,hi,f1,f3,pp,hj⟩
  have hb1:=pre_get pp hb1
  have hvK:=hv.pre (p1.trans pp)
  try simp (maxSteps:=3000000) (disch:=first|omega|simp only[lnx];omega) only[↓xpre,xpost,↓reduceIte,reduceEqDiff,reduceAdd,reduceSub,reduceLeDiff,zz0,f1,f3,rd1_of hb1,hvK.1.len,IfW_dec]
  refine⟨fun hlt=>?_,fun hge=>?_⟩
  ·have hi':i<x.ps.length:=by omega
   obtain⟨n,off,hix,hrn,hr1⟩:=hvK.1.at hi'
   have r27:=hrn 0 27 (by omega)
   rw[List.drop_zero,List.take_of_length_le (by rw[hvK.1.wid hi'];exact Nat.le_refl _),Nat.add_zero] at r27
   try simp (maxSteps:=3000000) (disch:=first|omega|simp only[lnx];omega) only[↓xpre,xpost,↓reduceIte,reduceEqDiff,reduceAdd,reduceSub,reduceLeDiff,zz0,f1,f3,rdn_of hb1,rd1_of hb1,hix,r27]
   refine s_l01Product hvK.one z (hvK.by hi') fun H2 p2=>?_
   cases c2:okProd x (x.ps.getD i []) with
   | false=>
    try simp (maxSteps:=3000000) (disch:=first|omega|simp only[lnx];omega) only[↓xpre,xpost,↓reduceIte,reduceEqDiff,reduceAdd,reduceSub,reduceLeDiff,zz0,f1,f3]
    have:=hQ _ ((p1.trans pp).trans p2)
    rw[all_getD_f hi' c2] at this
    exact this
   | true=>
    try simp (maxSteps:=3000000) (disch:=first|omega|simp only[lnx];omega) only[↓xpre,xpost,↓reduceIte,reduceEqDiff,reduceAdd,reduceSub,reduceLeDiff,zz0,f1,f3,wrap64_in]
    refine InvQ_go (x.ps.length-(i+1)) (by omega) ⟨(i+1),rfl,by omega,(by first|rfl|exact f1|(simp only[upd_apply];rfl)|(show I64 _=_;congr 1;omega)),(by first|rfl|exact f3|(simp only[upd_apply];rfl)|(show I64 _=_;congr 1;omega)),(pp.trans p2),(step_all hj c2)⟩
  ·try simp (maxSteps:=3000000) (disch:=first|omega|simp only[lnx];omega) only[↓xpre,xpost,↓reduceIte,reduceEqDiff,reduceAdd,reduceSub,reduceLeDiff,zz0,f1,f3]
   have:=hQ _ (p1.trans pp)
   rw[all_getD (d:=[]) fun j hj'=>hj j (by omega)] at this
   exact this
theorem i_IsScheme {v:Value} {x:Sch} {h:AH} {Q:Value→AH→Prop} (hv:Prods h v x.ps) (hl:SmallX x.ps) (hQ:∀ h',h<+:h'→Q (.bool (isX x)) h'):WF S 149 [schV x v] h Q:=by
 refine WF_fn (fn:=c149) rfl rfl ?_
 dsimp only[c149,oO,oM,oS,oG,oK,oE,oL,oF,oX,oN]
 unfold SmallX at hl
 try simp (maxSteps:=3000000) (disch:=first|omega|simp only[lnx];omega) only[↓xpre,xpost,↓reduceIte,reduceEqDiff,reduceAdd,reduceSub,reduceLeDiff,zz0,schV,hv.one]
 generalize hH1:AH.new h _=H1
 obtain⟨hb1,p1,n1⟩:=new_facts hH1
 try simp (maxSteps:=3000000) (disch:=first|omega|simp only[lnx];omega) only[↓xpre,xpost,↓reduceIte,reduceEqDiff,reduceAdd,reduceSub,reduceLeDiff,zz0,rd1_of hb1]
 refine i_isPrime ?_
 have hQ1:=hQ _ p1
 unfold isX at hQ hQ1
 cases c0:isP x.p with
 | false=>
  try simp (maxSteps:=3000000) (disch:=first|omega|simp only[lnx];omega) only[↓xpre,xpost,↓reduceIte,reduceEqDiff,reduceAdd,reduceSub,reduceLeDiff,zz0,WG_un]
  have:szX x=false:=by unfold szX;rw[c0];rfl
  rw[this] at hQ1
  exact hQ1
 | true=>
  try simp (maxSteps:=3000000) (disch:=first|omega|simp only[lnx];omega) only[↓xpre,xpost,↓reduceIte,reduceEqDiff,reduceAdd,reduceSub,reduceLeDiff,zz0,rd1_of hb1,fillL,zrep]
  generalize hH2:AH.new H1 _=H2
  obtain⟨hb2,p2,n2⟩:=new_facts hH2
  have hb1:=pre_get p2 hb1
  refine i_isSize (ns:=[x.n,x.m,x.k]) (Ints.own (ns:=[x.n,x.m,x.k]) hb2 rfl) (by simp) ?_
  have e0:([x.n,x.m,x.k]:List Int).all sz=szX x:=by unfold szX;rw[c0];simp[Bool.and_assoc]
  rw[e0]
  have hQ2:=hQ _ (p1.trans p2)
  cases c1:szX x with
  | false=>
   try simp (maxSteps:=3000000) (disch:=first|omega|simp only[lnx];omega) only[↓xpre,xpost,↓reduceIte,reduceEqDiff,reduceAdd,reduceSub,reduceLeDiff,zz0,WG_un]
   rw[c1] at hQ2
   exact hQ2
  | true=>
   rw[c1] at hQ hQ2
   have z:=szX_facts c1
   by_cases c2:(30:Int)<x.ps.length
   ·try simp (maxSteps:=3000000) (disch:=first|omega|simp only[lnx];omega) only[↓xpre,xpost,↓reduceIte,reduceEqDiff,reduceAdd,reduceSub,reduceLeDiff,zz0,rd1_of hb1,(hv.pre (p1.trans p2)).1.len,decide_eq_true c2]
    rw[decide_eq_false (show ¬ x.ps.length≤30 by omega)] at hQ2
    exact hQ2
   rw[decide_eq_true (show x.ps.length≤30 by omega)] at hQ
   try simp (maxSteps:=3000000) (disch:=first|omega|simp only[lnx];omega) only[↓xpre,xpost,↓reduceIte,reduceEqDiff,reduceAdd,reduceSub,reduceLeDiff,zz0,rd1_of hb1,(hv.pre (p1.trans p2)).1.len,decide_eq_false c2]
   refine WC_loop_inv (fun m f K1=>∃ (i:Nat),m=x.ps.length-i∧i≤x.ps.length∧f 1=.pointer (some ⟨h.length,0,none⟩)∧f 27=v∧f 28=I64 x.ps.length∧f 29=I64 i∧(H2<+:K1)∧(∀ j,j<i→okProd x (x.ps.getD j [])=true)) ?_ (x.ps.length-0) _ _ ⟨0,rfl,by omega,(by first|rfl|simp[upd_apply]),(by first|rfl|simp[upd_apply]),(by first|rfl|simp[upd_apply]),(by first|rfl|simp[upd_apply]),List.prefix_refl _,(by omega)⟩
   rintro m f K1 ⟨i,rfl,hi,f1,f27,f28,f29,pp,hj⟩
   have hb1:=pre_get pp hb1
   have hvK:=hv.pre ((p1.trans p2).trans pp)
   by_cases hlt:(i:Int)<x.ps.length
   ·have hi':i<x.ps.length:=by omega
    obtain⟨n,off,hix,hrn,hr1⟩:=hvK.1.at hi'
    have r27:=hrn 0 27 (by omega)
    have wi:=hvK.1.wid hi'
    have tk:(x.ps.getD i []).take 27=x.ps.getD i []:=List.take_of_length_le (by omega)
    rw[List.drop_zero,tk,Nat.add_zero] at r27
    have w1:∀ (h1:AH) (e:TypeId),(h1.new ⟨[.int .u8 0,.int .u8 0,.int .u8 0,.int .u8 0,.int .u8 0,.int .u8 0,.int .u8 0,.int .u8 0,.int .u8 0,.int .u8 0,.int .u8 0,.int .u8 0,.int .u8 0,.int .u8 0,.int .u8 0,.int .u8 0,.int .u8 0,.int .u8 0,.int .u8 0,.int .u8 0,.int .u8 0,.int .u8 0,.int .u8 0,.int .u8 0,.int .u8 0,.int .u8 0,.int .u8 0],e,false,true⟩).wr h1.length 0 (cel .u8 (x.ps.getD i []))=some (h1.new ⟨cel .u8 (x.ps.getD i []),e,false,true⟩):=fun h1 e=>wr_all (by rw[cel_len,wi];rfl)
    try simp (maxSteps:=3000000) (disch:=first|omega|simp only[lnx];omega) only[↓xpre,xpost,↓reduceIte,reduceEqDiff,reduceAdd,reduceSub,reduceLeDiff,zz0,f1,f27,f28,f29,decide_eq_true hlt,hix,r27,cel_all,cel_len,wi,↓w1]
    generalize hH3:AH.new K1 _=H3
    obtain⟨hb3,p3,n3⟩:=new_facts hH3
    have hb1:=pre_get p3 hb1
    try simp (maxSteps:=3000000) (disch:=first|omega|simp only[lnx];omega) only[↓xpre,xpost,↓reduceIte,reduceEqDiff,reduceAdd,reduceSub,reduceLeDiff,zz0,f1,f27,f28,f29,rd1_of hb1,rdn_of hb1]
    refine i_placesOf hvK.one z fun H4 p4=>?_
    have hb1:=pre_get p4 hb1
    have hb3:=pre_get p4 hb3
    try simp (maxSteps:=3000000) (disch:=first|omega|simp only[lnx];omega) only[↓xpre,xpost,↓reduceIte,reduceEqDiff,reduceAdd,reduceSub,reduceLeDiff,zz0,f1,f27,f28,f29,rdn_of hb3,cel_len,wi,cel_take,tk]
    refine⟨p4,?_⟩
    refine i_isProduct z (hvK.by hi') fun H5 p5=>?_
    cases c3:okProd x (x.ps.getD i []) with
    | false=>
     try simp (maxSteps:=3000000) (disch:=first|omega|simp only[lnx];omega) only[↓xpre,xpost,↓reduceIte,reduceEqDiff,reduceAdd,reduceSub,reduceLeDiff,zz0,f1,f27,f28,f29]
     have:=hQ _ (((p1.trans p2).trans pp).trans ((p3.trans p4).trans p5))
     rw[all_getD_f hi' c3] at this
     exact this
    | true=>
     try simp (maxSteps:=3000000) (disch:=first|omega|simp only[lnx];omega) only[↓xpre,xpost,↓reduceIte,reduceEqDiff,reduceAdd,reduceSub,reduceLeDiff,zz0,f1,f27,f28,f29,wrap64_in]
     refine InvQ_go (x.ps.length-(i+1)) (by omega) ⟨(i+1),rfl,by omega,(by first|rfl|exact f1|(simp only[upd_apply];rfl)|(show I64 _=_;congr 1;omega)),(by first|rfl|exact f27|(simp only[upd_apply];rfl)|(show I64 _=_;congr 1;omega)),(by first|rfl|exact f28|(simp only[upd_apply];rfl)|(show I64 _=_;congr 1;omega)),(by first|rfl|exact f29|(simp only[upd_apply];rfl)|(show I64 _=_;congr 1;omega)),(pp.trans ((p3.trans p4).trans p5)),(step_all hj c3)⟩
   ·try simp (maxSteps:=3000000) (disch:=first|omega|simp only[lnx];omega) only[↓xpre,xpost,↓reduceIte,reduceEqDiff,reduceAdd,reduceSub,reduceLeDiff,zz0,f1,f27,f28,f29,decide_eq_false hlt]
    have:=hQ _ ((p1.trans p2).trans pp)
    rw[all_getD (d:=[]) fun j hj'=>hj j (by omega)] at this
    exact this
def bs:Nat→(Nat→Bool)→Nat
 | 0,_=>0
 | R+1,f=>bs R f+(if f R=true then 2^R else 0)
theorem bs_lt {f:Nat→Bool}:∀ {R:Nat},bs R f<2^R
 | 0=>by simp[bs]
 | R+1=>by
  have:=bs_lt (f:=f) (R:=R)
  unfold bs
  rw[Nat.pow_succ]
  split<;>omega
theorem bs_bit {f:Nat→Bool}:∀ {R k:Nat},(bs R f).testBit k=(decide (k<R)&&f k)
 | 0,k=>by simp[bs]
 | R+1,k=>by
  have ih:=bs_bit (f:=f) (R:=R) (k:=k)
  have lt:=bs_lt (f:=f) (R:=R)
  unfold bs
  by_cases hf:f R=true
  ·rw[if_pos hf]
   rw[Nat.add_comm]
   by_cases h1:k<R
   ·rw[Nat.testBit_two_pow_add_gt h1,ih,decide_eq_true h1,decide_eq_true (show k<R+1 by omega)]
   ·by_cases h2:k=R
    ·subst h2
     rw[Nat.testBit_two_pow_add_eq,ih,hf]
     simp
    ·rw[Nat.testBit_lt_two_pow,decide_eq_false (by omega),Bool.false_and]
     have:2^(R+1)≤2^k:=Nat.pow_le_pow_right (by omega) (by omega)
     rw[Nat.pow_succ] at this
     omega
  ·rw[if_neg hf,Nat.add_zero,ih]
   by_cases h2:k=R
   ·subst h2
    simp[hf]
   ·by_cases h1:k<R
    ·rw[decide_eq_true h1,decide_eq_true (show k<R+1 by omega)]
    ·rw[decide_eq_false h1,decide_eq_false (by omega)]
theorem bs_of {n R:Nat} {f:Nat→Bool} (h:∀ k,n.testBit k=(decide (k<R)&&f k)):n=bs R f:=Nat.eq_of_testBit_eq fun k=>by rw[h,bs_bit]
theorem bs_congr {R:Nat} {f g:Nat→Bool} (h:∀ k,k<R→f k=g k):bs R f=bs R g:=bs_of fun k=>by
 rw[bs_bit]
 by_cases hk:k<R
 ·rw[h k hk]
 ·rw[decide_eq_false hk,Bool.false_and,Bool.false_and]
theorem bs_32 {R:Nat} {f:Nat→Bool} (hR:R≤32):bs R f<4294967296:=by
 have:=bs_lt (R:=R) (f:=f)
 have h2:2^R≤2^32:=Nat.pow_le_pow_right (by omega) hR
 have:(2:Nat)^32=4294967296:=by decide
 omega
def U32 (n:Nat):Value:=.int .u32 (n:Int)
theorem wrapU {n:Nat} (h:n<4294967296):IntKind.u32.wrap (n:Int)=n:=by
 simp only[IntKind.wrap,IntKind.signed,IntKind.bits]
 have e:(n:Int)%4294967296=n:=Int.emod_eq_of_lt (by omega) (by omega)
 simpa using e
theorem ofInt_nat {n:Nat}:BitVec.ofInt 32 (n:Int)=BitVec.ofNat 32 n:=by simp
section
variable {R:Nat} {f g:Nat→Bool}
theorem bv_bit {n k:Nat} (h:n<4294967296):(BitVec.ofNat 32 n).getLsbD k=n.testBit k:=by
 rw[BitVec.getLsbD_ofNat]
 by_cases hk:k<32
 ·simp[hk]
 ·rw[decide_eq_false hk,Bool.false_and,Nat.testBit_lt_two_pow]
  have:2^32≤2^k:=Nat.pow_le_pow_right (by omega) (by omega)
  omega
theorem bin_and (hR:R≤32):xbin .and (U32 (bs R f)) (U32 (bs R g))=some (U32 (bs R fun k=>f k&&g k)):=by
 have e:(BitVec.ofInt 32 ((bs R f:Nat):Int) &&& BitVec.ofInt 32 ((bs R g:Nat):Int)).toNat=bs R fun k=>f k&&g k:=bs_of fun k=>by
  rw[BitVec.testBit_toNat,BitVec.getLsbD_and,ofInt_nat,ofInt_nat,bv_bit (bs_32 hR),bv_bit (bs_32 hR),bs_bit,bs_bit]
  cases decide (k<R)<;>simp
 show (if IntKind.u32=IntKind.u32 then some (Value.int .u32 (IntKind.u32.wrap ((BitVec.ofInt 32 ((bs R f:Nat):Int) &&& BitVec.ofInt 32 ((bs R g:Nat):Int)).toNat:Int))) else none)=_
 rw[if_pos rfl,e,wrapU (bs_32 hR)]
 rfl
theorem bin_or (hR:R≤32):xbin .or (U32 (bs R f)) (U32 (bs R g))=some (U32 (bs R fun k=>f k||g k)):=by
 have e:(BitVec.ofInt 32 ((bs R f:Nat):Int) ||| BitVec.ofInt 32 ((bs R g:Nat):Int)).toNat=bs R fun k=>f k||g k:=bs_of fun k=>by
  rw[BitVec.testBit_toNat,BitVec.getLsbD_or,ofInt_nat,ofInt_nat,bv_bit (bs_32 hR),bv_bit (bs_32 hR),bs_bit,bs_bit]
  cases decide (k<R)<;>simp
 show (if IntKind.u32=IntKind.u32 then some (Value.int .u32 (IntKind.u32.wrap ((BitVec.ofInt 32 ((bs R f:Nat):Int) ||| BitVec.ofInt 32 ((bs R g:Nat):Int)).toNat:Int))) else none)=_
 rw[if_pos rfl,e,wrapU (bs_32 hR)]
 rfl
theorem bin_andNot (hR:R≤32):xbin .andNot (U32 (bs R f)) (U32 (bs R g))=some (U32 (bs R fun k=>f k&&!g k)):=by
 have e:(BitVec.ofInt 32 ((bs R f:Nat):Int) &&& ~~~ BitVec.ofInt 32 ((bs R g:Nat):Int)).toNat=bs R fun k=>f k&&!g k:=bs_of fun k=>by
  rw[BitVec.testBit_toNat,BitVec.getLsbD_and,BitVec.getLsbD_not,ofInt_nat,ofInt_nat,bv_bit (bs_32 hR),bv_bit (bs_32 hR),bs_bit,bs_bit]
  by_cases hk:k<R
  ·rw[decide_eq_true hk,decide_eq_true (show k<32 by omega)]
   simp
  ·rw[decide_eq_false hk]
   simp
 show (if IntKind.u32=IntKind.u32 then some (Value.int .u32 (IntKind.u32.wrap ((BitVec.ofInt 32 ((bs R f:Nat):Int) &&& ~~~ BitVec.ofInt 32 ((bs R g:Nat):Int)).toNat:Int))) else none)=_
 rw[if_pos rfl,e,wrapU (bs_32 hR)]
 rfl
theorem bin_shl {r:Nat} (hr:r<R) (hR:R≤32):xbin .shl (.int .u32 1) (I64 r)=some (U32 (bs R fun k=>k==r)):=by
 have e:(1:Int)*2^(min ((r:Int).toNat) 32)=((2^r:Nat):Int):=by
  rw[Int.toNat_natCast,Nat.min_eq_left (by omega),Int.one_mul]
  simp
 have e2:2^r=bs R fun k=>k==r:=bs_of fun k=>by
  rw[Nat.testBit_two_pow]
  by_cases h:r=k
  ·subst h
   simp[hr]
  ·rw[decide_eq_false h]
   have:(k==r)=false:=by simpa using fun e=>h e.symm
   rw[this,Bool.and_false]
 show (if (0:Int)≤(r:Int) then some (Value.int .u32 (IntKind.u32.wrap ((1:Int)*2^(min ((r:Int).toNat) 32)))) else none)=_
 rw[if_pos (by omega),e,e2,wrapU (bs_32 hR)]
 rfl
theorem bin_pick {r:Nat} (hR:R≤32) (hr:r<R):xbin .shr (U32 (bs R f)) (I64 r)=some (U32 (bs R f >>> r))∧xbin .and (U32 (bs R f >>> r)) (.int .u32 1)=some (.int .u32 (if f r=true then 1 else 0)):=by
 have h32:=bs_32 (f:=f) hR
 have hs:bs R f >>> r≤bs R f:=Nat.shiftRight_le _ _
 constructor
 ·show (if (0:Int)≤(r:Int) then some (Value.int .u32 (((bs R f:Nat):Int).fdiv (2^(min ((r:Int).toNat) 32)))) else none)=_
  rw[if_pos (by omega),Int.toNat_natCast,Nat.min_eq_left (by omega)]
  unfold U32
  rw[Nat.shiftRight_eq_div_pow]
  have:((bs R f:Nat):Int).fdiv (2^r)=((bs R f / 2^r:Nat):Int):=by
   rw[Int.fdiv_eq_ediv_of_nonneg _ (by exact_mod_cast Nat.zero_le _)]
   simp
  rw[this]
 ·have e:(BitVec.ofInt 32 ((bs R f >>> r:Nat):Int) &&& BitVec.ofInt 32 1).toNat=if f r=true then 1 else 0:=by
   have e1:BitVec.ofInt 32 1=BitVec.ofNat 32 1:=rfl
   refine Nat.eq_of_testBit_eq fun k=>?_
   rw[BitVec.testBit_toNat,BitVec.getLsbD_and,ofInt_nat,e1,bv_bit (by omega),bv_bit (by omega),Nat.testBit_shiftRight,bs_bit]
   have t1:Nat.testBit 1 k=decide (k=0):=by
    rw[show (1:Nat)=2^0 from rfl,Nat.testBit_two_pow]
    by_cases hk:k=0
    ·subst hk;rfl
    ·rw[decide_eq_false hk,decide_eq_false (fun e=>hk e.symm)]
   rw[t1]
   by_cases hk:k=0
   ·subst hk
    rw[Nat.add_zero,decide_eq_true hr]
    cases f r<;>simp
   ·rw[decide_eq_false hk,Bool.and_false]
    split
    ·rw[t1,decide_eq_false hk]
    ·simp
  show (if IntKind.u32=IntKind.u32 then some (Value.int .u32 (IntKind.u32.wrap ((BitVec.ofInt 32 ((bs R f >>> r:Nat):Int) &&& BitVec.ofInt 32 1).toNat:Int))) else none)=_
  rw[if_pos rfl,e]
  cases f r<;>rfl
end
def cntB (f:Nat→Bool):Nat→Nat
 | 0=>0
 | R+1=>cntB f R+(if f R=true then 1 else 0)
theorem cntB_congr {f g:Nat→Bool}:∀ {R:Nat},(∀ k,k<R→f k=g k)→cntB f R=cntB g R
 | 0,_=>rfl
 | R+1,h=>by
  unfold cntB
  rw[cntB_congr (R:=R) fun k hk=>h k (by omega),h R (by omega)]
theorem cntB_le {f:Nat→Bool}:∀ {R:Nat},cntB f R≤R
 | 0=>Nat.le_refl _
 | R+1=>by
  have:=cntB_le (f:=f) (R:=R)
  unfold cntB
  split<;>omega
theorem cntB_mono {f g:Nat→Bool}:∀ {R:Nat},(∀ k,k<R→f k=true→g k=true)→cntB f R≤cntB g R
 | 0,_=>Nat.le_refl _
 | R+1,h=>by
  have ih:=cntB_mono (R:=R) fun k hk=>h k (by omega)
  unfold cntB
  by_cases hf:f R=true
  ·rw[if_pos hf,if_pos (h R (by omega) hf)]
   omega
  ·rw[if_neg hf]
   omega
theorem cntB_add {f:Nat→Bool} {m:Nat}:∀ {n:Nat},cntB f (m+n)=cntB f m+cntB (fun k=>f (m+k)) n
 | 0=>rfl
 | n+1=>by
  show cntB f (m+n)+(if f (m+n)=true then 1 else 0)=cntB f m+(cntB (fun k=>f (m+k)) n+(if f (m+n)=true then 1 else 0))
  rw[cntB_add (n:=n)]
  omega
theorem cntB_more {f:Nat→Bool} {R:Nat}:∀ {n:Nat},cntB (fun k=>decide (k<R)&&f k) (R+n)=cntB f R
 | 0=>cntB_congr fun k hk=>by rw[decide_eq_true (show k<R from hk),Bool.true_and]
 | n+1=>by
  show cntB _ (R+n)+(if (decide (R+n<R)&&f (R+n))=true then 1 else 0)=_
  rw[cntB_more (n:=n),decide_eq_false (by omega),Bool.false_and]
  rfl
def pop (w n:Nat):Nat:=cntB n.testBit w
theorem pop_bs {R:Nat} {f:Nat→Bool} (hR:R≤32):pop 32 (bs R f)=cntB f R:=by
 unfold pop
 rw[cntB_congr (g:=fun k=>decide (k<R)&&f k) fun k _=>bs_bit,show 32=R+(32-R) by omega,cntB_more]
theorem pop_split {n:Nat}:pop 32 n=pop 8 (n / 2^24%256)+pop 8 (n / 2^16%256)+pop 8 (n / 2^8%256)+pop 8 (n%256):=by
 have e:∀ s,pop 8 (n / 2^s%256)=cntB (fun k=>n.testBit (s+k)) 8:=fun s=>cntB_congr fun k hk=>by
  rw[show (256:Nat)=2^8 from rfl,Nat.testBit_mod_two_pow,decide_eq_true hk,Bool.true_and,←Nat.shiftRight_eq_div_pow,Nat.testBit_shiftRight]
 have e0:=e 0
 rw[Nat.pow_zero,Nat.div_one] at e0
 rw[e 24,e 16,e 8,e0]
 unfold pop
 rw[show 32=24+8 from rfl,cntB_add,show 24=16+8 from rfl,cntB_add,show 16=8+8 from rfl,cntB_add,cntB_congr (f:=fun k=>n.testBit (0+k)) (g:=n.testBit) fun k _=>by rw[Nat.zero_add]]
 omega
def tblP:List Nat:=(List.range 256).map (pop 8)
theorem tblP_at {b:Nat} (h:b<256):tblP[b]?=some (pop 8 b):=by simp[tblP,h]
theorem tblP_eq:[0,1,1,2,1,2,2,3,1,2,2,3,2,3,3,4,1,2,2,3,2,3,3,4,2,3,3,4,3,4,4,5,1,2,2,3,2,3,3,4,2,3,3,4,3,4,4,5,2,3,3,4,3,4,4,5,3,4,4,5,4,5,5,6,1,2,2,3,2,3,3,4,2,3,3,4,3,4,4,5,2,3,3,4,3,4,4,5,3,4,4,5,4,5,5,6,2,3,3,4,3,4,4,5,3,4,4,5,4,5,5,6,3,4,4,5,4,5,5,6,4,5,5,6,5,6,6,7,1,2,2,3,2,3,3,4,2,3,3,4,3,4,4,5,2,3,3,4,3,4,4,5,3,4,4,5,4,5,5,6,2,3,3,4,3,4,4,5,3,4,4,5,4,5,5,6,3,4,4,5,4,5,5,6,4,5,5,6,5,6,6,7,2,3,3,4,3,4,4,5,3,4,4,5,4,5,5,6,3,4,4,5,4,5,5,6,4,5,5,6,5,6,6,7,3,4,4,5,4,5,5,6,4,5,5,6,5,6,6,7,4,5,5,6,5,6,6,7,5,6,6,7,6,7,7,8]=tblP:=by decide +kernel
def idxsV (l:List Nat) (x:Value):Option Value:=match x with
 | .int _ j=>if 0≤j then (l[j.toNat]?).map fun b=>.int .u8 b else none
 | _=>none
theorem yWX_idxs {S:XS} {f:Fr} {h:AH} {Q:Value→AH→Prop} {l:List Nat} {x:Operand}:WX S (.idxs l x) f h Q=yWV (idxsV l (ev f x)) (fun v=>Q v h) .mk:=by
 refine WX_of (fun _=>rfl) ?_
 simp only[xop]
 generalize ev f x=vx
 cases vx<;>try rfl
 rename_i k j
 simp only[idxsV]
 split
 ·cases l[j.toNat]?<;>rfl
 ·rfl
theorem pop_le {w n:Nat}:pop w n≤w:=cntB_le
theorem l_OnesCount {n:Nat} {h:AH} {Q:Value→AH→Prop} (hn:n<4294967296) (hQ:Q (I64 (pop 32 n)) h):WF S 329 [U32 n] h Q:=by
 refine WF_fn (fn:=c329) rfl rfl ?_
 dsimp only[c329,oO,oM,oS,oG,oK,oE,oL,oF,oX,oN]
 simp only[tblP_eq]
 have sh:∀ s:Nat,s<32→xbin .shr (U32 n) (.int .u64 (s:Int))=some (U32 (n / 2^s)):=fun s hs=>by
  show (if (0:Int)≤(s:Int) then some (Value.int .u32 ((n:Int).fdiv (2^(min ((s:Int).toNat) 32)))) else none)=_
  rw[if_pos (by omega),Int.toNat_natCast,Nat.min_eq_left (by omega)]
  unfold U32
  have:(n:Int).fdiv (2^s)=((n / 2^s:Nat):Int):=by
   rw[Int.fdiv_eq_ediv_of_nonneg _ (by exact_mod_cast Nat.zero_le _)]
   simp
  rw[this]
 have an:∀ m:Nat,m<4294967296→xbin .and (U32 m) (.int .u32 255)=some (U32 (m%256)):=fun m hm=>by
  have e:(BitVec.ofInt 32 (m:Int) &&& BitVec.ofInt 32 255).toNat=m%256:=by
   have e1:BitVec.ofInt 32 255=BitVec.ofNat 32 255:=rfl
   refine Nat.eq_of_testBit_eq fun k=>?_
   rw[BitVec.testBit_toNat,BitVec.getLsbD_and,ofInt_nat,e1,bv_bit hm,bv_bit (by omega),show (256:Nat)=2^8 from rfl,Nat.testBit_mod_two_pow,show (255:Nat)=2^8-1 from rfl,Nat.testBit_two_pow_sub_one,Bool.and_comm]
  show (if IntKind.u32=IntKind.u32 then some (Value.int .u32 (IntKind.u32.wrap ((BitVec.ofInt 32 (m:Int) &&& BitVec.ofInt 32 255).toNat:Int))) else none)=_
  rw[if_pos rfl,e,wrapU (by omega)]
  rfl
 have ix:∀ m:Nat,m<256→idxsV tblP (U32 m)=some (.int .u8 ((pop 8 m:Nat):Int)):=fun m hm=>by
  show (if (0:Int)≤(m:Int) then (tblP[(m:Int).toNat]?).map fun b=>Value.int .u8 (b:Int) else none)=_
  rw[if_pos (by omega),Int.toNat_natCast,tblP_at hm]
  rfl
 have d24:n / 2^24<256:=by
  have:(2:Nat)^24=16777216:=by decide
  omega
 have d16:n / 2^16<4294967296:=Nat.lt_of_le_of_lt (Nat.div_le_self _ _) hn
 have d8:n / 2^8<4294967296:=Nat.lt_of_le_of_lt (Nat.div_le_self _ _) hn
 have s24:xbin .shr (U32 n) (.int .u64 24)=some (U32 (n / 2^24)):=sh 24 (by omega)
 have s16:xbin .shr (U32 n) (.int .u64 16)=some (U32 (n / 2^16)):=sh 16 (by omega)
 have s8:xbin .shr (U32 n) (.int .u64 8)=some (U32 (n / 2^8)):=sh 8 (by omega)
 have a16:=an _ d16
 have a8:=an _ d8
 have a0:=an _ hn
 have i24:=ix _ d24
 have i16:=ix (n / 2^16%256) (Nat.mod_lt _ (by omega))
 have i8:=ix (n / 2^8%256) (Nat.mod_lt _ (by omega))
 have i0:=ix (n%256) (Nat.mod_lt _ (by omega))
 rw[pop_split,Nat.mod_eq_of_lt d24] at hQ
 have l1:=pop_le (w:=8) (n:=n / 2^24)
 have l2:=pop_le (w:=8) (n:=n / 2^16%256)
 have l3:=pop_le (w:=8) (n:=n / 2^8%256)
 have l4:=pop_le (w:=8) (n:=n%256)
 clear sh an ix
 generalize n / 2^24=n24 at *
 generalize n / 2^16=n16 at *
 generalize n / 2^8=n8 at *
 generalize pop 8 n24=q1 at *
 generalize pop 8 (n16%256)=q2 at *
 generalize pop 8 (n8%256)=q3 at *
 generalize pop 8 (n%256)=q4 at *
 have w8:∀ a:Int,0≤a→a≤255→IntKind.u8.wrap a=a:=fun a h1 h2=>by
  simp only[IntKind.wrap,IntKind.signed,IntKind.bits]
  have e:a%256=a:=Int.emod_eq_of_lt (by omega) (by omega)
  simpa using e
 have b1:=w8 ((q1:Int)+q2) (by omega) (by omega)
 have b2:=w8 ((q1:Int)+q2+q3) (by omega) (by omega)
 have b3:=w8 ((q1:Int)+q2+q3+q4) (by omega) (by omega)
 rw[show ((q1+q2+q3+q4:Nat):Int)=(q1:Int)+q2+q3+q4 by omega] at hQ
 ((try simp (maxSteps:=3000000) (dsimp:=false) (disch:=first|omega|simp only[lnx];omega) only[↓ypre,ypost,↓reduceIte,reduceEqDiff,reduceAdd,reduceSub,reduceLeDiff,zz0,ynew,s24,s16,s8,a16,a8,a0,i24,i16,i8,i0,b1,b2,b3,↓yWX_idxs,wrap64_in]);try simp only[yback])
 exact hQ
end Go.Proofs.Ytapafdpnmakekaa.X

set_option linter.unusedVariables false
set_option linter.unusedSimpArgs false
set_option maxRecDepth 20000
set_option maxHeartbeats 4000000
namespace Go.Proofs.Ytapafdpnmakekaa.X
open Go Go.RowKit
def WayX (e:TypeId) (k:IntKind) (w:Nat) (h:AH) (lo:Nat) (ex:List Nat) (sv:Value) (L:List (List Int)):Prop:=
 Wid w L∧((sv=.slice none 0 0∧L=[])∨∃ kb full,sv=.slice (some ⟨kb,0,none⟩) L.length w∧lo≤kb∧kb∉ex∧h.get kb=some ⟨cel k L.flatten,e,false,full⟩)
section
variable {e:TypeId} {k:IntKind} {w:Nat} {h h':AH} {lo:Nat} {ex:List Nat} {sv:Value} {L:List (List Int)}
theorem WayX.pre (o:WayX e k w h lo ex sv L) (p:h<+:h'):WayX e k w h' lo ex sv L:=by
 obtain⟨hw,o|⟨kb,full,h1,h2,h3,h4⟩⟩:=o
 ·exact⟨hw,.inl o⟩
 ·exact⟨hw,.inr ⟨kb,full,h1,h2,h3,pre_get p h4⟩⟩
theorem WayX.one (o:WayX e k w h lo ex sv L):isOne sv=true:=by
 obtain⟨hw,⟨rfl,_⟩|⟨kb,full,rfl,h2,h3,h4⟩⟩:=o<;>rfl
theorem WayX.cells (o:WayX e k w h lo ex sv L):cellsL sv=[sv]:=by
 obtain⟨hw,⟨rfl,_⟩|⟨kb,full,rfl,h2,h3,h4⟩⟩:=o<;>rfl
theorem WayX.len (o:WayX e k w h lo ex sv L):lenV sv=some (I64 L.length):=by
 obtain⟨hw,⟨rfl,rfl⟩|⟨kb,full,rfl,h2,h3,h4⟩⟩:=o<;>rfl
theorem WayX.put {n:Nat} {b:Blk} (o:WayX e k w h lo ex sv L) (hn:n<lo∨n∈ex):WayX e k w (h.put n b) lo ex sv L:=by
 obtain⟨hw,o|⟨kb,full,h1,h2,h3,h4⟩⟩:=o
 ·exact⟨hw,.inl o⟩
 ·refine⟨hw,.inr ⟨kb,full,h1,h2,h3,?_⟩⟩
  rw[get_put_ne]
  ·exact h4
  ·rintro rfl
   rcases hn with hn|hn
   ·omega
   ·exact h3 hn
theorem WayX.exc {ex':List Nat} (o:WayX e k w h lo ex sv L) (he:∀ m,m∈ex'→m∈ex∨h.length≤m∨m<lo):WayX e k w h lo ex' sv L:=by
 obtain⟨hw,o|⟨kb,full,h1,h2,h3,h4⟩⟩:=o
 ·exact⟨hw,.inl o⟩
 ·refine⟨hw,.inr ⟨kb,full,h1,h2,fun hk=>?_,h4⟩⟩
  have:=get_lt h4
  rcases he _ hk with h|h|h
  ·exact h3 h
  ·omega
  ·omega
theorem WayX.keep (o:WayX e k w h lo ex sv L) (hk:∀ m c f,m∉ex→lo≤m→h.get m=some ⟨c,e,false,f⟩→h'.get m=some ⟨c,e,false,f⟩):WayX e k w h' lo ex sv L:=by
 obtain⟨hw,o|⟨kb,full,h1,h2,h3,h4⟩⟩:=o
 ·exact⟨hw,.inl o⟩
 ·exact⟨hw,.inr ⟨kb,full,h1,h2,h3,hk _ _ _ h3 h2 h4⟩⟩
theorem WayX.hold (o:WayX e k w h lo ex sv L):∃ E:List Nat,(∀ m,m∈E→lo≤m∧m<h.length∧m∉ex)∧∀ h':AH,(∀ m b,m∈E→h.get m=some b→h'.get m=some b)→WayX e k w h' lo ex sv L∧InE k w lo h.length h' sv L:=by
 obtain⟨hw,o|⟨kb,full,h1,h2,h3,h4⟩⟩:=o
 ·exact⟨[],fun m hm=>by simp at hm,fun h' _=>⟨⟨hw,.inl o⟩,.inl o⟩⟩
 ·refine⟨[kb],fun m hm=>?_,fun h' hk=>⟨⟨hw,.inr ⟨kb,full,h1,h2,h3,hk _ _ (by simp) h4⟩⟩,.inr ⟨kb,e,full,⟨h2,get_lt h4⟩,h1,hk _ _ (by simp) h4,hw⟩⟩⟩
  rw[List.mem_singleton] at hm
  subst hm
  exact⟨h2,get_lt h4,h3⟩
theorem WayX.mlo {lo':Nat} (o:WayX e k w h lo ex sv L) (hl:lo'≤lo):WayX e k w h lo' ex sv L:=by
 obtain⟨hw,o|⟨kb,full,h1,h2,h3,h4⟩⟩:=o
 ·exact⟨hw,.inl o⟩
 ·exact⟨hw,.inr ⟨kb,full,h1,by omega,h3,h4⟩⟩
theorem WayX.inE (o:WayX e k w h lo ex sv L):InE k w lo h.length h sv L:=by
 obtain⟨hw,o|⟨kb,full,h1,h2,h3,h4⟩⟩:=o
 ·exact .inl o
 ·exact .inr ⟨kb,e,full,⟨h2,get_lt h4⟩,h1,h4,hw⟩
theorem WayX.app {H:AH} {q:List Int} {e':TypeId} {ro full:Bool} {bytes:Nat} (o:WayX e k w H lo ex sv L) (hq:q.length=w) (hl:((L.length:Int)+1)*bytes≤140737488355328) (hn:(L.length:Int)<1048576) (hlo:lo≤H.length) (hex:∀ m,m∈ex→m<H.length)
  {Q:Value→AH→Prop} (hQ:∀ (sv':Value) (H':AH),H'.length=H.length+2→(∀ h0:AH,h0.length≤lo→h0<+:H→h0<+:H')→(∀ m b,m<lo∨m∈ex→H.get m=some b→H'.get m=some b)→WayX e k w H' H.length ex sv' (L++[q])→Q sv' H') :
  OQ (appV e w bytes sv (.slice (some ⟨H.length,0,none⟩) 1 w) (H.new ⟨cel k q,e',ro,full⟩)) Q:=by
 have hr:(H.new ⟨cel k q,e',ro,full⟩).rdn H.length 0 w=some (cel k q):=by
  rw[rdn_of get_new_same]
  simp only
  rw[if_pos (by rw[cel_len,hq];omega),List.drop_zero,List.take_of_length_le (by rw[cel_len,hq];omega)]
 obtain⟨hw,⟨rfl,rfl⟩|⟨kb,fu,rfl,h2,h3,h4⟩⟩:=o
 ·rw[app_nilW (.inl rfl) hr (by simp only[List.length_nil] at hl;omega),OQ_some]
  refine hQ _ _ (by rw[len_new,len_new]) (fun h0 _ p=>pre_new (pre_new p)) (fun m b hm o=>get_new_any (get_new_any o)) ⟨?_,.inr ⟨_,false,rfl,by rw[len_new];omega,fun hm=>by have:=hex _ hm;rw[len_new] at this;omega,?_⟩⟩
  ·intro r hr
   rw[List.nil_append,List.mem_singleton] at hr
   rw[hr,hq]
  ·rw[get_new_same]
   simp
 ·have hk:(H.new ⟨cel k q,e',ro,full⟩).get kb=some ⟨cel k L.flatten,e,false,fu⟩:=get_new_any h4
  have hkb:=get_lt h4
  rw[app_ownW hk (by rw[cel_len,flat_len hw]) hr ⟨hl,by omega⟩,OQ_some]
  refine hQ _ _ (by rw[len_new,len_kill,len_new]) (fun h0 q p=>pre_new (pre_kill (pre_new p) (by omega))) (fun m b hm o=>?_) ⟨?_,.inr ⟨(H.new ⟨cel k q,e',ro,full⟩).length,false,by simp,by rw[len_new];omega,fun hm=>by have:=hex _ hm;rw[len_new] at this;omega,?_⟩⟩
  ·refine get_new_any ?_
   rw[get_kill_ne]
   ·exact get_new_any o
   ·rintro rfl
    rcases hm with hm|hm
    ·omega
    ·exact h3 hm
  ·intro r hr
   rcases List.mem_append.1 hr with hr|hr
   ·exact hw r hr
   ·rw[List.mem_singleton.1 hr,hq]
  ·rw[get_new_eq (by rw[len_kill])]
   simp[cel_app]
end
def Bls (h:AH) (n:Nat) (bs:List Bool):Prop:=h.get n=some ⟨bs.map Value.bool,4,false,true⟩
section
variable {h h':AH} {n:Nat} {bs:List Bool}
theorem Bls.pre (o:Bls h n bs) (p:h<+:h'):Bls h' n bs:=pre_get p o
theorem Bls.lt (o:Bls h n bs):n<h.length:=get_lt o
theorem Bls.rd {j:Nat} (o:Bls h n bs) (hj:j<bs.length):h.rd1 n j=some (.bool (bs.getD j false)):=by
 rw[rd1_of o]
 simp[List.getD_eq_getElem?_getD,hj]
theorem Bls.put_ne {m:Nat} {b:Blk} (o:Bls h n bs) (e:m≠n):Bls (h.put m b) n bs:=by
 unfold Bls
 rw[get_put_ne e]
 exact o
theorem Bls.wr {j:Nat} {x:Bool} (o:Bls h n bs) (hj:j<bs.length):∃ h',h.wr n j [.bool x]=some h'∧h'=h.put n ⟨(bs.set j x).map Value.bool,4,false,true⟩∧Bls h' n (bs.set j x):=by
 have e:splice (bs.map Value.bool) j [.bool x]=(bs.set j x).map Value.bool:=by
  rw[splice_set (by simpa using hj)]
  simp[List.map_set]
 refine⟨_,?_,rfl,get_put_same o.lt⟩
 rw[wr_of o,if_pos ⟨rfl,by simp only[List.length_map,List.length_singleton];omega⟩,e]
end
theorem Lst.app3 {n:Nat} {l:List Int} {full:Bool} {H:AH} {x:Int} {e':TypeId} {ro fu:Bool} (o:Lst H n l full) (hl:(l.length:Int)≤1048576) {Q:Value→AH→Prop}
  (hQ:∀ H':AH,H'.length=H.length+2→(∀ h0:AH,h0.length≤n→h0<+:H→h0<+:H')→(∀ m b,m≠n→H.get m=some b→H'.get m=some b)→Lst H' (H.length+1) (l++[x]) false→Q (sl (H.length+1) (l++[x]).length) H') :
  OQ (appV 2 1 8 (sl n l.length) (.slice (some ⟨H.length,0,none⟩) 1 1) (H.new ⟨[I64 x],e',ro,fu⟩)) Q:=by
 have hn:(H.new ⟨[I64 x],e',ro,fu⟩).rdn H.length 0 1=some [I64 x]:=by rw[rdn_new_same];rfl
 have hk:(H.new ⟨[I64 x],e',ro,fu⟩).get n=some ⟨l.map (Value.int .i64),2,false,full⟩:=get_new_any o
 have hkb:=o.lt
 unfold sl
 rw[app_own hk (by simp) hn (by omega),OQ_some]
 have:=hQ (((H.new ⟨[I64 x],e',ro,fu⟩).kill n).new ⟨l.map (Value.int .i64)++[I64 x],2,false,false⟩) (by rw[len_new,len_kill,len_new]) (fun h0 q p=>pre_new (pre_kill (pre_new p) q))
  (fun m b hm o=>get_new_any (by rw[get_kill_ne (fun e=>hm e.symm)];exact get_new_any o)) (by unfold Lst;rw[get_new_eq (by rw[len_kill,len_new])];simp)
 unfold sl at this
 rw[len_new]
 rw[List.length_append,List.length_singleton] at this
 exact this
theorem InP.inP {a b:Nat} {h:AH} {v w:Value} {x:Prg} (o:InP a b h v w x):InP a b h v w x:=o
end Go.Proofs.Ytapafdpnmakekaa.X

set_option linter.unusedVariables false
set_option linter.unusedSimpArgs false
set_option maxRecDepth 20000
set_option maxHeartbeats 4000000
namespace Go.Proofs.Ytapafdpnmakekaa.X
open Go Go.RowKit
open Nat (reduceEqDiff reduceAdd reduceSub reduceLeDiff)
def rpOK (x:Prg) (ns:List Int):Prop:=allIn x.p ns=true∧(ns.length:Int)=x.n
instance {x:Prg} {ns:List Int}:Decidable (rpOK x ns):=by unfold rpOK;infer_instance
def rpR (x:Prg) (ns:List Int):List Int×Int:=if isPrg x=true then (if rpOK x ns then (runP x ns,0) else ([],2)) else ([],1)
theorem rpR_small (x:Prg) (ns:List Int):SmallS (rpR x ns).1:=by
 unfold rpR SmallS
 split
 ·rename_i h
  split
  ·have:=(isPrg_facts h).out
   rw[runP_len]
   omega
  ·simp
 ·simp
theorem s_RunProgram {v w u:Value} {x:Prg} {ns:List Int} {h:AH} {Q:Value→AH→Prop} (hv:PrgR h v w x) (hl:SmallP x) (hu:Ints h u ns) (hm:(ns.length:Int)≤1048576)
  (hQ:∀ v' h',h<+:h'→OwnR h h' v' (rpR x ns).1→Q (.tuple #[v',I64 (rpR x ns).2]) h'):WF S 137 [prgV x v w,u] h Q:=by
 refine WF_fn (fn:=c137) rfl rfl ?_
 dsimp only[c137,oO,oM,oS,oG,oK,oE,oL,oF,oX,oN]
 ((try simp (maxSteps:=3000000) (dsimp:=false) (disch:=first|omega|simp only[lnx];omega) only[↓ypre,ypost,↓reduceIte,reduceEqDiff,reduceAdd,reduceSub,reduceLeDiff,zz0,ynew,prgV,hv.1.one,hv.2.one]);try simp only[yback])
 generalize hH1:AH.new h _=H1
 obtain⟨hb1,p1,n1⟩:=new_facts hH1
 ((try simp (maxSteps:=3000000) (dsimp:=false) (disch:=first|omega|simp only[lnx];omega) only[↓ypre,ypost,↓reduceIte,reduceEqDiff,reduceAdd,reduceSub,reduceLeDiff,zz0,ynew,rdn_of hb1]);try simp only[yback])
 refine s_IsPrg (hv.pre p1) hl fun H2 p2=>?_
 have hb2:=pre_get p2 hb1
 unfold rpR at hQ
 cases h1:isPrg x with
 | false=>
  rw[h1,if_neg (by decide)] at hQ
  ((try simp (maxSteps:=3000000) (dsimp:=false) (disch:=first|omega|simp only[lnx];omega) only[↓ypre,ypost,↓reduceIte,reduceEqDiff,reduceAdd,reduceSub,reduceLeDiff,zz0,ynew]);try simp only[yback])
  exact hQ _ _ (p1.trans p2) (.inl ⟨rfl,rfl⟩)
 | true=>
  rw[h1,if_pos rfl] at hQ
  have pf:=isPrg_facts h1
  have no:¬ rpOK x ns→∀ h',h<+:h'→Q (.tuple #[.slice none 0 0,I64 2]) h':=fun hn h' p=>by
   rw[if_neg hn] at hQ
   exact hQ _ _ p (.inl ⟨rfl,rfl⟩)
  have p12:=p1.trans p2
  ((try simp (maxSteps:=3000000) (dsimp:=false) (disch:=first|omega|simp only[lnx];omega) only[↓ypre,ypost,↓reduceIte,reduceEqDiff,reduceAdd,reduceSub,reduceLeDiff,zz0,ynew,rd1_of hb2]);try simp only[yback])
  refine s_l05Numbers (hu.pre p12) hm pf.p ?_
  by_cases h3:(allIn x.p ns&&decide ((ns.length:Int)=x.n))=true
  case neg=>
   rw[Bool.not_eq_true] at h3
   ((try simp (maxSteps:=3000000) (dsimp:=false) (disch:=first|omega|simp only[lnx];omega) only[↓ypre,ypost,↓reduceIte,reduceEqDiff,reduceAdd,reduceSub,reduceLeDiff,zz0,ynew,h3]);try simp only[yback])
   refine no (fun q=>?_) _ p12
   rw[q.1,q.2] at h3
   simp at h3
  rw[h3]
  rw[Bool.and_eq_true,decide_eq_true_eq] at h3
  rw[if_pos (show rpOK x ns from h3)] at hQ
  ((try simp (maxSteps:=3000000) (dsimp:=false) (disch:=first|omega|simp only[lnx];omega) only[↓ypre,ypost,↓reduceIte,reduceEqDiff,reduceAdd,reduceSub,reduceLeDiff,zz0,ynew,rdn_of hb2]);try simp only[yback])
  refine s_run (hv.pre p12) pf (hu.pre p12) h3.1 h3.2 fun n full H3 hn p3 o=>?_
  ((try simp (maxSteps:=3000000) (dsimp:=false) (disch:=first|omega|simp only[lnx];omega) only[↓ypre,ypost,↓reduceIte,reduceEqDiff,reduceAdd,reduceSub,reduceLeDiff,zz0,ynew]);try simp only[yback])
  exact hQ _ _ (p12.trans p3) (o.ownR (by have:=pre_len p12;omega))
theorem i_RunProgram {v w u:Value} {x:Prg} {ns:List Int} {h:AH} {Q:Value→AH→Prop} (hv:PrgR h v w x) (hl:SmallP x) (hu:Ints h u ns) (hm:(ns.length:Int)≤1048576)
  (hQ:∀ v' h',h<+:h'→OwnR h h' v' (rpR x ns).1→Q (.tuple #[v',I64 (rpR x ns).2]) h'):WF S 136 [prgV x v w,u] h Q:=by
 refine WF_fn (fn:=c136) rfl rfl ?_
 dsimp only[c136,oO,oM,oS,oG,oK,oE,oL,oF,oX,oN]
 ((try simp (maxSteps:=3000000) (dsimp:=false) (disch:=first|omega|simp only[lnx];omega) only[↓ypre,ypost,↓reduceIte,reduceEqDiff,reduceAdd,reduceSub,reduceLeDiff,zz0,ynew,prgV,hv.1.one,hv.2.one]);try simp only[yback])
 generalize hH1:AH.new h _=H1
 obtain⟨hb1,p1,n1⟩:=new_facts hH1
 ((try simp (maxSteps:=3000000) (dsimp:=false) (disch:=first|omega|simp only[lnx];omega) only[↓ypre,ypost,↓reduceIte,reduceEqDiff,reduceAdd,reduceSub,reduceLeDiff,zz0,ynew,rdn_of hb1]);try simp only[yback])
 refine i_IsPrg (hv.pre p1) hl fun H2 p2=>?_
 have hb2:=pre_get p2 hb1
 unfold rpR at hQ
 cases h1:isPrg x with
 | false=>
  rw[h1,if_neg (by decide)] at hQ
  ((try simp (maxSteps:=3000000) (dsimp:=false) (disch:=first|omega|simp only[lnx];omega) only[↓ypre,ypost,↓reduceIte,reduceEqDiff,reduceAdd,reduceSub,reduceLeDiff,zz0,ynew]);try simp only[yback])
  exact hQ _ _ (p1.trans p2) (.inl ⟨rfl,rfl⟩)
 | true=>
  rw[h1,if_pos rfl] at hQ
  have pf:=isPrg_facts h1
  have no:¬ rpOK x ns→∀ h',h<+:h'→Q (.tuple #[.slice none 0 0,I64 2]) h':=fun hn h' p=>by
   rw[if_neg hn] at hQ
   exact hQ _ _ p (.inl ⟨rfl,rfl⟩)
  have p12:=p1.trans p2
  by_cases h4:(ns.length:Int)=x.n
  case neg=>
   ((try simp (maxSteps:=3000000) (dsimp:=false) (disch:=first|omega|simp only[lnx];omega) only[↓ypre,ypost,↓reduceIte,reduceEqDiff,reduceAdd,reduceSub,reduceLeDiff,zz0,ynew,rd1_of hb2,hu.len,decide_eq_true (show (ns.length:Int)≠x.n from h4)]);try simp only[yback])
   exact no (fun q=>h4 q.2) _ p12
  ((try simp (maxSteps:=3000000) (dsimp:=false) (disch:=first|omega|simp only[lnx];omega) only[↓ypre,ypost,↓reduceIte,reduceEqDiff,reduceAdd,reduceSub,reduceLeDiff,zz0,ynew,rd1_of hb2,hu.len,decide_eq_false (show ¬ (ns.length:Int)≠x.n from fun y=>y h4)]);try simp only[yback])
  refine i_areNumbers (hu.pre p12) hm ?_
  cases h5:allIn x.p ns with
  | false=>
   ((try simp (maxSteps:=3000000) (dsimp:=false) (disch:=first|omega|simp only[lnx];omega) only[↓ypre,ypost,↓reduceIte,reduceEqDiff,reduceAdd,reduceSub,reduceLeDiff,zz0,ynew]);try simp only[yback])
   exact no (fun q=>by rw[q.1] at h5;cases h5) _ p12
  | true=>
  have h3:=And.intro h5 h4
  rw[if_pos (show rpOK x ns from h3)] at hQ
  ((try simp (maxSteps:=3000000) (dsimp:=false) (disch:=first|omega|simp only[lnx];omega) only[↓ypre,ypost,↓reduceIte,reduceEqDiff,reduceAdd,reduceSub,reduceLeDiff,zz0,ynew,rdn_of hb2]);try simp only[yback])
  refine i_run (hv.pre p12) pf (hu.pre p12) h3.1 h3.2 fun n full H3 hn p3 o=>?_
  ((try simp (maxSteps:=3000000) (dsimp:=false) (disch:=first|omega|simp only[lnx];omega) only[↓ypre,ypost,↓reduceIte,reduceEqDiff,reduceAdd,reduceSub,reduceLeDiff,zz0,ynew]);try simp only[yback])
  exact hQ _ _ (p12.trans p3) (o.ownR (by have:=pre_len p12;omega))
end Go.Proofs.Ytapafdpnmakekaa.X
