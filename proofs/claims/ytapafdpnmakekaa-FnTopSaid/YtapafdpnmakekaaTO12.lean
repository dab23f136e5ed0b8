/- Texts of one claim, put together by merge.py: XB3, XB4, XV3, XV4, XQ4, XN1, XN2, XB5, XS21, XS22, XB6, XS18, XN3, XV5, XN4, XM9, XR3, XR4. -/
import Derived.Test.YtapafdpnmakekaaTO11
import Derived.Test.YtapafdpnmakekaaTO10
import Derived.Test.YtapafdpnmakekaaTO9
import Derived.Test.YtapafdpnmakekaaTO8
set_option linter.unusedVariables false
set_option linter.unusedSimpArgs false
set_option maxRecDepth 20000
set_option maxHeartbeats 4000000
namespace Go.Proofs.Ytapafdpnmakekaa.X
open Go Go.RowKit
open Nat (reduceEqDiff reduceAdd reduceSub reduceLeDiff)
def flG' (f:Nat):Nat:=(f+1)%3
def flH' (f:Nat):Nat:=(f+2)%3
def flOne (p:Int) (a b:List Int) (f:Nat) (s:Int):List Int:=wth a (flG' f) (addF p (seg a (flG' f)) (seg b (flG' f)) s 9)
def flTwo (p:Int) (a b:List Int) (f:Nat) (s:Int):List Int:=wth b (flH' f) (addF p (seg b (flH' f)) (seg a (flH' f)) (-s) 9)
def flipL (p:Int) (L:List (List Int)) (i k f:Nat) (s:Int):List (List Int):=(L.set i (flOne p (L.getD i []) (L.getD k []) f s)).set k (flTwo p (L.getD i []) (L.getD k []) f s)
theorem byt_setq {L:List (List Int)} {q:List Int} {i:Nat} (hb:Byt 27 L) (hq:By 27 q):Byt 27 (L.set i q):=fun m hm j hj=>by
 rw[List.length_set] at hm
 by_cases e:m=i
 ·subst e
  rw[List.getD_eq_getElem?_getD (l:=L.set m q),List.getElem?_set_self hm,Option.getD_some]
  exact hq.2 j hj
 ·rw[List.getD_eq_getElem?_getD (l:=L.set i q),List.getElem?_set_ne (Ne.symm e),←List.getD_eq_getElem?_getD]
  exact hb m hm j hj
theorem s_l03Flip {x:Sch} {v:Value} {i k r:Nat} {s:Int} {h:AH} {Q:Value→AH→Prop} (hv:Prods h v x.ps) (ll:x.ps.length≤100) (hp:2≤x.p∧x.p≤5) (hi:i<x.ps.length) (hk:k<x.ps.length) (hf:r<3) (hs:1≤s∧s≤1000)
  (hQ:∀ (w':Value) (h':AH),h<+:h'→KN h.length h' (fun h2=>Prods h2 w' (toldL (flipL x.p x.ps i k r s)))→Q (schV ⟨x.p,x.n,x.m,x.k,toldL (flipL x.p x.ps i k r s)⟩ w') h'):WF S 157 [schV x v,I64 i,I64 k,I64 r,I64 s] h Q:=by
 refine WF_fn (fn:=c157) rfl rfl ?_
 dsimp only[c157,oO,oM,oS,oG,oK,oE,oL,oF,oX,oN]
 have v1:isOne v=true:=hv.one
 ((try simp (maxSteps:=3000000) (dsimp:=false) (disch:=first|omega|simp only[lnx];omega) only[↓ypre,ypost,↓reduceIte,reduceEqDiff,reduceAdd,reduceSub,reduceLeDiff,zz0,ynew,schV,v1]);try simp only[yback])
 generalize hH1:AH.new h _=H1
 obtain⟨hb1,p1,n1⟩:=new_facts hH1
 generalize hH2:AH.new H1 _=H2
 obtain⟨hb2,p2,n2⟩:=new_facts hH2
 have g1:=pre_get p2 hb1
 have gf:flG' r<3:=Nat.mod_lt _ (by omega)
 have gh:flH' r<3:=Nat.mod_lt _ (by omega)
 ((try simp (maxSteps:=3000000) (dsimp:=false) (disch:=first|omega|simp only[lnx];omega) only[↓ypre,ypost,↓reduceIte,reduceEqDiff,reduceAdd,reduceSub,reduceLeDiff,zz0,ynew,rd1_of g1,zrep,fillL]);try simp only[yback])
 have w27:Wid 27 x.ps:=hv.1.widL
 refine copy_zero (hv.1.pre (p1.trans p2)) (by omega) (by omega) fun H3 l3 p3 gB=>?_
 have g1:=pre_get p3 g1
 have g10:=pre_get p3 hb2
 have wg:(IntKind.i64.wrap ((r:Int)+1)).tmod 3=((flG' r:Nat):Int):=by
  have:r=0∨r=1∨r=2:=by omega
  rcases this with rfl|rfl|rfl<;>rfl
 have wh:(IntKind.i64.wrap ((r:Int)+2)).tmod 3=((flH' r:Nat):Int):=by
  have:r=0∨r=1∨r=2:=by omega
  rcases this with rfl|rfl|rfl<;>rfl
 refine WO_cut (fun f:Fr=>f 1=I64 i∧f 2=I64 k∧f 3=I64 r∧f 4=I64 s∧f 5=.pointer (some ⟨h.length,0,none⟩)∧f 10=.pointer (some ⟨H1.length,0,none⟩)∧f 19=.slice (some ⟨H2.length+1,0,none⟩) x.ps.length 27∧True) ⟨(by first|rfl|simp[upd_apply]),(by first|rfl|simp[upd_apply]),(by first|rfl|simp[upd_apply]),(by first|rfl|simp[upd_apply]),(by first|rfl|simp[upd_apply]),(by first|rfl|simp[upd_apply]),(by first|rfl|simp[upd_apply]),trivial⟩ ?_
 rintro f ⟨f1,f2,f3,f4,f5,f10,f19,-⟩
 have el:Els .u8 27 H3 (.slice (some ⟨H2.length+1,0,none⟩) x.ps.length 27) x.ps:=(blk_kN (lo:=0) gB w27 (Nat.zero_le _)).now
 obtain⟨ni,oi,ixi,rdi⟩:=el.at hi
 obtain⟨nk,ok,ixk,rdk⟩:=el.at hk
 have byi:By 27 (x.ps.getD i []):=⟨hv.1.wid hi,fun j hj=>hv.2 i hi j hj⟩
 have byk:By 27 (x.ps.getD k []):=⟨hv.1.wid hk,fun j hj=>hv.2 k hk j hj⟩
 unfold flipL at hQ
 generalize x.ps.getD i []=a at rdi byi hQ
 generalize x.ps.getD k []=b at rdk byk hQ
 have a27:=byi.1
 have b27:=byk.1
 have ri:H3.rdn ni oi 27=some (cel .u8 a):=by
  have:=rdi.1 0 27 (by omega)
  rwa [Nat.add_zero,List.drop_zero,List.take_of_length_le (by omega)] at this
 have rk:H3.rdn nk ok 27=some (cel .u8 b):=by
  have:=rdk.1 0 27 (by omega)
  rwa [Nat.add_zero,List.drop_zero,List.take_of_length_le (by omega)] at this
 have ta:(cel .u8 a).take 27=cel .u8 a:=List.take_of_length_le (by rw[cel_len,a27];exact Nat.le_refl _)
 have tb:(cel .u8 b).take 27=cel .u8 b:=List.take_of_length_le (by rw[cel_len,b27];exact Nat.le_refl _)
 ((try simp (maxSteps:=3000000) (dsimp:=false) (disch:=first|omega|simp only[lnx];omega) only[↓ypre,ypost,↓reduceIte,reduceEqDiff,reduceAdd,reduceSub,reduceLeDiff,zz0,ynew,f1,f2,f3,f4,f5,f10,f19,bin_rem (show (3:Int)≠0 by decide),wg,wh,ixi,ixk,ri,rk,cellsL_cel,cel_all,cel_len,a27,b27,rd1_of g1,ta,tb]);try simp only[yback])
 generalize hK1:AH.new H3 _=K1
 obtain⟨ka,pa,na⟩:=new_facts hK1
 generalize hK2:AH.new K1 _=K2
 obtain⟨kb,pb,nb⟩:=new_facts hK2
 have ka:=pre_get pb ka
 have P2:H3<+:K2:=pa.trans pb
 refine s_l03Factor (q:=a) byi gf fun K3 q3=>⟨q3,?_⟩
 have ka:=pre_get q3 ka
 have kb:=pre_get q3 kb
 ((try simp (maxSteps:=3000000) (dsimp:=false) (disch:=first|omega|simp only[lnx];omega) only[↓ypre,ypost,↓reduceIte,reduceEqDiff,reduceAdd,reduceSub,reduceLeDiff,zz0,ynew,f1,f2,f3,f4,f5,f10,f19,rdn_of kb,cel_len,b27,tb]);try simp only[yback])
 refine s_l03Factor (q:=b) byk gf fun K4 q4=>⟨q4,?_⟩
 have ka:=pre_get q4 ka
 have kb:=pre_get q4 kb
 ((try simp (maxSteps:=3000000) (dsimp:=false) (disch:=first|omega|simp only[lnx];omega) only[↓ypre,ypost,↓reduceIte,reduceEqDiff,reduceAdd,reduceSub,reduceLeDiff,zz0,ynew,f1,f2,f3,f4,f5,f10,f19]);try simp only[yback])
 have sga:=seg_by byi gf
 have sgb:=seg_by byk gf
 refine s_l01Add (k:=s) hp sga sgb (by omega) fun K5 q5=>⟨q5,?_⟩
 ((try simp (maxSteps:=3000000) (dsimp:=false) (disch:=first|omega|simp only[lnx];omega) only[↓ypre,ypost,↓reduceIte,reduceEqDiff,reduceAdd,reduceSub,reduceLeDiff,zz0,ynew,f1,f2,f3,f4,f5,f10,f19]);try simp only[yback])
 have ad:=addF_by (k:=s) (b:=seg b (flG' r)) (i:=9) hp sga (Nat.le_refl _)
 refine s_l03With byi ad gf fun K6 q6=>?_
 have ka:=pre_get (q5.trans q6) ka
 have kb:=pre_get (q5.trans q6) kb
 have P6:H3<+:K6:=P2.trans (q3.trans (q4.trans (q5.trans q6)))
 have gB6:=pre_get P6 gB
 have by1:By 27 (flOne x.p a b r s):=wth_by byi ad gf
 have l1:=by1.1
 have e1:wth a (flG' r) (addF x.p (seg a (flG' r)) (seg b (flG' r)) s 9)=flOne x.p a b r s:=rfl
 rw[e1]
 have i1:ixsV 27 (.slice (some ⟨H2.length+1,0,none⟩) x.ps.length 27) (I64 i)=some (.pointer (some ⟨H2.length+1,i*27,none⟩)):=by
  rw[ixsV_some,if_pos (by omega),Int.toNat_natCast,Nat.zero_add]
 have i2:ixsV 27 (.slice (some ⟨H2.length+1,0,none⟩) x.ps.length 27) (I64 k)=some (.pointer (some ⟨H2.length+1,k*27,none⟩)):=by
  rw[ixsV_some,if_pos (by omega),Int.toNat_natCast,Nat.zero_add]
 have sf1:=splice_flat (k:=.u8) l1 w27 (j:=i) hi
 have fl:=flat_len w27
 have g16:=pre_get P6 g1
 have g106:=pre_get P6 g10
 have n3:=get_lt gB
 ((try simp (maxSteps:=3000000) (dsimp:=false) (disch:=first|omega|simp only[lnx];omega) only[↓ypre,ypost,↓reduceIte,reduceEqDiff,reduceAdd,reduceSub,reduceLeDiff,zz0,ynew,f1,f2,f3,f4,f5,f10,f19,aggV,cellsL_cel,cel_all,cel_len,l1,i1,wr_of gB6,sf1,fl,rdn_of kb,b27,tb,rd1_of g16]);try simp only[yback])
 refine⟨by omega,?_⟩
 generalize hK7:AH.put K6 _ _=K7
 have ne1:H2.length+1≠h.length:=by omega
 have ne10:H2.length+1≠H1.length:=by omega
 have L6:=pre_len P6
 have kp:∀ m c,m≠H2.length+1→AH.get K6 m=some c→AH.get K7 m=some c:=fun m c hm g=>by rw[←hK7,get_put_ne (Ne.symm hm)];exact g
 have gB7:K7.get (H2.length+1)=some ⟨cel .u8 (x.ps.set i (flOne x.p a b r s)).flatten,138,false,false⟩:=by rw[←hK7];exact get_put_same (get_lt gB6)
 have g17:=kp _ _ (by omega) g16
 have g107:=kp _ _ (by omega) g106
 have ka7:=kp _ _ (by omega) ka
 have kb7:=kp _ _ (by omega) kb
 have P7:H2<+:K7:=by rw[←hK7];exact pre_put (p3.trans P6) (by omega)
 refine s_l03Factor (q:=b) byk gh fun K8 q8=>⟨q8,?_⟩
 have ka8:=pre_get q8 ka7
 ((try simp (maxSteps:=3000000) (dsimp:=false) (disch:=first|omega|simp only[lnx];omega) only[↓ypre,ypost,↓reduceIte,reduceEqDiff,reduceAdd,reduceSub,reduceLeDiff,zz0,ynew,f1,f2,f3,f4,f5,f10,f19,rdn_of ka8,cel_len,a27,ta]);try simp only[yback])
 refine s_l03Factor (q:=a) byi gh fun K9 q9=>⟨q9,?_⟩
 have wn:IntKind.i64.wrap (0-s) = -s:=by rw[wrap64_in (by omega) (by omega)];omega
 ((try simp (maxSteps:=3000000) (dsimp:=false) (disch:=first|omega|simp only[lnx];omega) only[↓ypre,ypost,↓reduceIte,reduceEqDiff,reduceAdd,reduceSub,reduceLeDiff,zz0,ynew,f1,f2,f3,f4,f5,f10,f19,wn]);try simp only[yback])
 have tgb:=seg_by byk gh
 have tga:=seg_by byi gh
 refine s_l01Add (k:=-s) hp tgb tga (by omega) fun K10 q10=>⟨q10,?_⟩
 ((try simp (maxSteps:=3000000) (dsimp:=false) (disch:=first|omega|simp only[lnx];omega) only[↓ypre,ypost,↓reduceIte,reduceEqDiff,reduceAdd,reduceSub,reduceLeDiff,zz0,ynew,f1,f2,f3,f4,f5,f10,f19]);try simp only[yback])
 have ad2:=addF_by (k:=-s) (b:=seg a (flH' r)) (i:=9) hp tgb (Nat.le_refl _)
 refine s_l03With byk ad2 gh fun K11 q11=>?_
 have P11:K7<+:K11:=q8.trans (q9.trans (q10.trans q11))
 have gB11:=pre_get P11 gB7
 have g111:=pre_get P11 g17
 have g1011:=pre_get P11 g107
 have by2:By 27 (flTwo x.p a b r s):=wth_by byk ad2 gh
 have l2:=by2.1
 have e2:wth b (flH' r) (addF x.p (seg b (flH' r)) (seg a (flH' r)) (-s) 9)=flTwo x.p a b r s:=rfl
 rw[e2]
 have w27':Wid 27 (x.ps.set i (flOne x.p a b r s)):=wid_set w27 l1
 have lS:(x.ps.set i (flOne x.p a b r s)).length=x.ps.length:=List.length_set
 have sf2:=splice_flat (k:=.u8) l2 w27' (j:=k) (by rw[lS];exact hk)
 have fl':=flat_len w27'
 rw[lS] at fl'
 ((try simp (maxSteps:=3000000) (dsimp:=false) (disch:=first|omega|simp only[lnx];omega) only[↓ypre,ypost,↓reduceIte,reduceEqDiff,reduceAdd,reduceSub,reduceLeDiff,zz0,ynew,f1,f2,f3,f4,f5,f10,f19,aggV,cellsL_cel,cel_all,cel_len,l2,i2,wr_of gB11,sf2,fl',rdn_of g111]);try simp only[yback])
 refine⟨by omega,?_⟩
 generalize hK12:AH.put K11 _ _=K12
 generalize hL:(x.ps.set i (flOne x.p a b r s)).set k (flTwo x.p a b r s)=L at *
 have lL:L.length=x.ps.length:=by rw[←hL,List.length_set,lS]
 have gB12:AH.get K12 (H2.length+1)=some ⟨cel .u8 L.flatten,138,false,false⟩:=by rw[←hK12];exact get_put_same (get_lt gB11)
 have bL:Byt 27 L:=by rw[←hL];exact byt_setq (byt_setq hv.2 by1) by2
 have wL:Wid 27 L:=by rw[←hL];exact wid_set w27' l2
 have pr:Prods K12 (.slice (some ⟨H2.length+1,0,none⟩) x.ps.length 27) L:=⟨by rw[←lL];exact (blk_kN (lo:=0) gB12 wL (Nat.zero_le _)).now,bL⟩
 have P12:H2<+:K12:=by rw[←hK12];exact pre_put (P7.trans P11) (by omega)
 have g1012:=(show AH.get K12 H1.length=AH.get K11 H1.length from by rw[←hK12];exact get_put_ne (by omega)).trans g1011
 refine s_l03Told (x:=x) v1 pr (by omega) fun w' H13 p13 hw'=>?_
 have g13:=pre_get p13 g1012
 have l13:=get_lt g13
 have P13:=P12.trans p13
 ((try simp (maxSteps:=3000000) (dsimp:=false) (disch:=first|omega|simp only[lnx];omega) only[↓ypre,ypost,↓reduceIte,reduceEqDiff,reduceAdd,reduceSub,reduceLeDiff,zz0,ynew,f1,f2,f3,f4,f5,f10,f19,schV,hw'.now.one,wr_of g13,splice_eq,rdn_put_same]);try simp only[yback])
 have q13:=pre_len P12
 exact hQ w' _ (pre_put ((p1.trans p2).trans P13) (by omega)) (KN.mono (KN.put hw' (by omega)) (by omega))
end Go.Proofs.Ytapafdpnmakekaa.X

set_option linter.unusedVariables false
set_option linter.unusedSimpArgs false
set_option maxRecDepth 20000
set_option maxHeartbeats 4000000
namespace Go.Proofs.Ytapafdpnmakekaa.X
open Go Go.RowKit
def flF (L:List (List Int)) (i k:Nat):Nat→List (List Int)
 | 0=>[]
 | r+1=>flF L i k r++(if seg (L.getD i []) r=seg (L.getD k []) r then [[(i:Int),k,r]] else [])
def flK (L:List (List Int)) (i:Nat):Nat→List (List Int)
 | 0=>[]
 | k+1=>flK L i k++(if i=k then [] else flF L i k 3)
def flI (L:List (List Int)):Nat→List (List Int)
 | 0=>[]
 | i+1=>flI L i++flK L i L.length
end Go.Proofs.Ytapafdpnmakekaa.X

set_option linter.unusedVariables false
set_option linter.unusedSimpArgs false
set_option maxRecDepth 20000
set_option maxHeartbeats 4000000
namespace Go.Proofs.Ytapafdpnmakekaa.X
open Go Go.RowKit
open Nat (reduceEqDiff reduceAdd reduceSub reduceLeDiff)
def mOK (x:Sch) (L R:List (List Int)):Bool:=(isMat x.p x.m L&&decide ((L.length:Int)=x.n))&&(isMat x.p x.k R&&decide ((R.length:Int)=x.m))
def mcX (x:Sch) (L R:List (List Int)):Int:=if isX x=true then (if mOK x L R=true then 0 else 2) else 1
theorem i_matricesCode {v u z:Value} {x:Sch} {L R:List (List Int)} {h:AH} {Q:Value→AH→Prop} (hv:Prods h v x.ps) (hl:SmallX x.ps) (hu:Rows h u L) (hL:SmallM L) (hz:Rows h z R) (hR:SmallM R)
  (hQ:∀ h',h<+:h'→Q (I64 (mcX x L R)) h'):WF S 162 [schV x v,u,z] h Q:=by
 refine WF_fn (fn:=c162) rfl rfl ?_
 dsimp only[c162,oO,oM,oS,oG,oK,oE,oL,oF,oX,oN]
 ((try simp (maxSteps:=3000000) (dsimp:=false) (disch:=first|omega|simp only[lnx];omega) only[↓ypre,ypost,↓reduceIte,reduceEqDiff,reduceAdd,reduceSub,reduceLeDiff,zz0,ynew,schV,hv.one]);try simp only[yback])
 generalize hH1:AH.new h _=H1
 obtain⟨hb1,p1,n1⟩:=new_facts hH1
 ((try simp (maxSteps:=3000000) (dsimp:=false) (disch:=first|omega|simp only[lnx];omega) only[↓ypre,ypost,↓reduceIte,reduceEqDiff,reduceAdd,reduceSub,reduceLeDiff,zz0,ynew,rdn_of hb1]);try simp only[yback])
 refine i_IsScheme (x:=x) (hv.pre p1) hl fun H2 p2=>?_
 have p12:=p1.trans p2
 have hb2:=pre_get p2 hb1
 have hQ2:=hQ _ p12
 unfold mcX at hQ2
 cases h1:isX x with
 | false=>
  rw[h1,if_neg (by decide)] at hQ2
  ((try simp (maxSteps:=3000000) (dsimp:=false) (disch:=first|omega|simp only[lnx];omega) only[↓ypre,ypost,↓reduceIte,reduceEqDiff,reduceAdd,reduceSub,reduceLeDiff,zz0,ynew]);try simp only[yback])
  exact hQ2
 | true=>
  rw[h1,if_pos rfl] at hQ2
  unfold mOK at hQ2
  ((try simp (maxSteps:=3000000) (dsimp:=false) (disch:=first|omega|simp only[lnx];omega) only[↓ypre,ypost,↓reduceIte,reduceEqDiff,reduceAdd,reduceSub,reduceLeDiff,zz0,ynew,rd1_of hb2]);try simp only[yback])
  refine i_isMatrix (hu.pre p12) hL.1 hL.2.1 ?_
  cases h2:(isMat x.p x.m L&&decide ((L.length:Int)=x.n)) with
  | false=>
   rw[h2,Bool.false_and,if_neg (by decide)] at hQ2
   ((try simp (maxSteps:=3000000) (dsimp:=false) (disch:=first|omega|simp only[lnx];omega) only[↓ypre,ypost,↓reduceIte,reduceEqDiff,reduceAdd,reduceSub,reduceLeDiff,zz0,ynew]);try simp only[yback])
   exact hQ2
  | true=>
   rw[h2,Bool.true_and] at hQ2
   ((try simp (maxSteps:=3000000) (dsimp:=false) (disch:=first|omega|simp only[lnx];omega) only[↓ypre,ypost,↓reduceIte,reduceEqDiff,reduceAdd,reduceSub,reduceLeDiff,zz0,ynew,rd1_of hb2]);try simp only[yback])
   refine i_isMatrix (hz.pre p12) hR.1 hR.2.1 ?_
   cases h3:(isMat x.p x.k R&&decide ((R.length:Int)=x.m)) with
   | false=>
    rw[h3,if_neg (by decide)] at hQ2
    ((try simp (maxSteps:=3000000) (dsimp:=false) (disch:=first|omega|simp only[lnx];omega) only[↓ypre,ypost,↓reduceIte,reduceEqDiff,reduceAdd,reduceSub,reduceLeDiff,zz0,ynew]);try simp only[yback])
    exact hQ2
   | true=>
    rw[h3,if_pos rfl] at hQ2
    ((try simp (maxSteps:=3000000) (dsimp:=false) (disch:=first|omega|simp only[lnx];omega) only[↓ypre,ypost,↓reduceIte,reduceEqDiff,reduceAdd,reduceSub,reduceLeDiff,zz0,ynew]);try simp only[yback])
    exact hQ2
def valI (p:Int) (l r q:List Int):Int:=(dot (seg q 0) l l.length).tmod p*(dot (seg q 1) r r.length).tmod p
def stM (p:Int) (l r:List Int) (ps:List (List Int)):Nat→Nat→Int
 | 0,_=>0
 | t+1,j=>(stM p l r ps t j+(ps.getD t []).getD (18+j) 0*valI p l r (ps.getD t [])).tmod p
theorem valI_in {p:Int} {l r q:List Int} (hp:2≤p∧p≤5) (hq:By 27 q) (hl:l.length≤9) (hr:r.length≤9) (al:allIn p l=true) (ar:allIn p r=true):0≤valI p l r q∧valI p l r q≤16:=by
 have d1:=dot_in (hq.seg (i:=0) (by omega)) al hp (Nat.le_refl _) hl
 have d2:=dot_in (hq.seg (i:=1) (by omega)) ar hp (Nat.le_refl _) hr
 have t1:=tmod_nn (J:=p) d1.1 (by omega)
 have t2:=tmod_nn (J:=p) d2.1 (by omega)
 refine⟨Int.mul_nonneg t1.1 t2.1,?_⟩
 have:valI p l r q≤4*4:=Int.le_trans (Int.mul_le_mul_of_nonneg_right (show _≤(4:Int) by omega) t2.1) (Int.mul_le_mul_of_nonneg_left (by omega) (by decide))
 omega
theorem stM_in {p:Int} {l r:List Int} {ps:List (List Int)} (hp:2≤p∧p≤5) (hps:Byt 27 ps) (hw:Wid 27 ps) (hl:l.length≤9) (hr:r.length≤9) (al:allIn p l=true) (ar:allIn p r=true):∀ {t:Nat},t≤ps.length→∀ j,j<9→0≤stM p l r ps t j∧stM p l r ps t j<p
 | 0,_,j,_=>by simp only[stM];omega
 | t+1,ht,j,hj=>by
  have ih:=stM_in hp hps hw hl hr al ar (t:=t) (by omega) j hj
  have hq:By 27 (ps.getD t []):=⟨hw _ (by rw[List.getD_eq_getElem?_getD,List.getElem?_eq_getElem (by omega)];exact List.getElem_mem _),fun i hi=>hps t (by omega) i hi⟩
  have v:=valI_in hp hq hl hr al ar
  have c:=hq.2 (18+j) (by omega)
  have m:=Int.mul_nonneg c.1 v.1
  simp only[stM]
  exact tmod_nn (by omega) (by omega)
theorem gen_set {N c:Nat} {f g:Nat→Int} (hc:c<N) (x:Int) (hx:x=f c):(gen N fun j=>if j<c then f j else g j).set c x=gen N fun j=>if j<c+1 then f j else g j:=by
 refine gen_ext (by rw[List.length_set,gen_len]) fun j hj=>?_
 rw[List.getD_eq_getElem?_getD,List.getElem?_set]
 by_cases e:c=j
 ·subst e
  rw[if_pos rfl,if_pos (by rw[gen_len];exact hc),if_pos (by omega),hx]
  rfl
 ·rw[if_neg e,←List.getD_eq_getElem?_getD,gen_get hj]
  by_cases h1:j<c
  ·rw[if_pos h1,if_pos (by omega)]
  ·rw[if_neg h1,if_neg (by omega)]
theorem zrep_gen:∀ {N:Nat},zrep N [I64 0]=(gen N fun _=>0).map (Value.int .i64)
 | 0=>rfl
 | N+1=>by
  have e:(gen (N+1) fun _=>(0:Int))=0::gen N fun _=>0:=by
   refine (gen_ext (by simp[gen_len]) fun i hi=>?_).symm
   cases i with
   | zero=>rfl
   | succ i=>
    rw[List.getD_cons_succ,gen_get (by omega)]
  rw[e,zrep,zrep_gen (N:=N)]
  rfl
theorem mks_gen {N:Nat} {h:AH} (hN:N≤1000000):mksV 2 1 8 [I64 0] (I64 N) h=some (sl h.length N,h.new ⟨(gen N fun _=>0).map (Value.int .i64),2,false,true⟩):=by
 rw[mksV_int,if_pos (by omega),Int.toNat_natCast,zrep_gen]
 rfl
theorem i_makes {p:Int} {N:Nat} {v u z:Value} {l r:List Int} {ps:List (List Int)} {h:AH} {Q:Value→AH→Prop} (hv:Prods h v ps) (hl:ps.length≤30) (hp:2≤p∧p≤5) (ll:l.length≤9) (lr:r.length≤9) (al:allIn p l=true) (ar:allIn p r=true)
  (hN:1≤N∧N≤9) (hu:Ints h u l) (hz:Ints h z r) (hQ:∀ n full h',h.length≤n→h<+:h'→Lst h' n (gen N (stM p l r ps ps.length)) full→Q (sl n N) h'):WF S 164 [I64 p,v,I64 N,u,z] h Q:=by
 refine WF_fn (fn:=c164) rfl rfl ?_
 dsimp only[c164,oO,oM,oS,oG,oK,oE,oL,oF,oX,oN]
 ((try simp (maxSteps:=3000000) (dsimp:=false) (disch:=first|omega|simp only[lnx];omega) only[↓ypre,ypost,↓reduceIte,reduceEqDiff,reduceAdd,reduceSub,reduceLeDiff,zz0,ynew,mks_gen (N:=N) (h:=h) (by omega)]);try simp only[yback])
 generalize hH1:AH.new h _=H1
 obtain⟨hb1,p1,n1⟩:=new_facts hH1
 have lo0:Lst H1 h.length (gen N (stM p l r ps 0)) true:=hb1
 have z27:=zeros27
 ((try simp (maxSteps:=3000000) (dsimp:=false) (disch:=first|omega|simp only[lnx];omega) only[↓ypre,ypost,↓reduceIte,reduceEqDiff,reduceAdd,reduceSub,reduceLeDiff,zz0,ynew,hv.1.len]);try simp only[yback])
 refine WC_loop_inv (fun m f K1=>∃ (t:Nat),m=ps.length-t∧t≤ps.length∧f 0=I64 p∧f 3=u∧f 4=z∧f 11=sl h.length N∧f 18=v∧f 19=I64 ps.length∧f 20=I64 t∧(h<+:K1)∧(Lst K1 h.length (gen N (stM p l r ps t)) true)) ?_ (ps.length-0) _ _ ⟨0,rfl,by omega,(by first|rfl|simp[upd_apply]),(by first|rfl|simp[upd_apply]),(by first|rfl|simp[upd_apply]),(by first|rfl|simp[upd_apply]),(by first|rfl|simp[upd_apply]),(by first|rfl|simp[upd_apply]),(by first|rfl|simp[upd_apply]),p1,lo0⟩
 rintro m f K1 ⟨t,rfl,ht,f0,f3,f4,f11,f18,f19,f20,pp,lo⟩
 have kh:=pre_len pp
 have klt:=lo.lt
 by_cases hlt:(t:Int)<ps.length
 ·have hj':t<ps.length:=by omega
  have hvK:=hv.pre pp
  obtain⟨n5',off5,hix,hrn,hr1⟩:=hvK.1.at hj'
  have r27:=hrn 0 27 (by omega)
  have wi:=hvK.1.wid hj'
  have hby:=hvK.by hj'
  have tk:(ps.getD t []).take 27=ps.getD t []:=List.take_of_length_le (by omega)
  rw[List.drop_zero,tk,Nat.add_zero] at r27
  have sin:=stM_in hp hv.2 hvK.1.widL ll lr al ar (t:=t) ht
  have stn:∀ j,stM p l r ps (t+1) j=(stM p l r ps t j+(ps.getD t []).getD (18+j) 0*valI p l r (ps.getD t [])).tmod p:=fun _=>rfl
  generalize hq:ps.getD t []=q at *
  have w1:∀ (h1:AH) (e:TypeId),(h1.new ⟨[.int .u8 0,.int .u8 0,.int .u8 0,.int .u8 0,.int .u8 0,.int .u8 0,.int .u8 0,.int .u8 0,.int .u8 0,.int .u8 0,.int .u8 0,.int .u8 0,.int .u8 0,.int .u8 0,.int .u8 0,.int .u8 0,.int .u8 0,.int .u8 0,.int .u8 0,.int .u8 0,.int .u8 0,.int .u8 0,.int .u8 0,.int .u8 0,.int .u8 0,.int .u8 0,.int .u8 0],e,false,true⟩).wr h1.length 0 (cel .u8 q)=some (h1.new ⟨cel .u8 q,e,false,true⟩):=fun h1 e=>wr_all (by rw[cel_len,wi];rfl)
  ((try simp (maxSteps:=3000000) (dsimp:=false) (disch:=first|omega|simp only[lnx];omega) only[↓ypre,ypost,↓reduceIte,reduceEqDiff,reduceAdd,reduceSub,reduceLeDiff,zz0,ynew,f0,f3,f4,f11,f18,f19,f20,decide_eq_true hlt,hix,r27,cel_all,cellsL_cel,cel_len,wi,↓w1,cel_take,tk,wrap64_in]);try simp only[yback])
  have s0:Value.agg (cel .u8 (q.take 9)).toArray=aggV .u8 (seg q 0):=by simp[aggV,seg]
  have s1:Value.agg (cel .u8 ((q.drop 9).take 9)).toArray=aggV .u8 (seg q 1):=by simp[aggV,seg]
  rw[s0]
  generalize hH3:AH.new K1 _=H3
  obtain⟨hb3,p3,n3⟩:=new_facts hH3
  refine i_atF (hby.seg (by omega)) (hu.pre (pp.trans p3)) ll al hp fun H4 p4=>?_
  have hb4:=pre_get p4 hb3
  refine⟨p4,?_⟩
  ((try simp (maxSteps:=3000000) (dsimp:=false) (disch:=first|omega|simp only[lnx];omega) only[↓ypre,ypost,↓reduceIte,reduceEqDiff,reduceAdd,reduceSub,reduceLeDiff,zz0,ynew,f0,f3,f4,f11,f18,f19,f20,rdn_of hb4,cel_len,wi,cel_drop,cel_take]);try simp only[yback])
  rw[s1]
  refine i_atF (hby.seg (by omega)) (hz.pre (pp.trans (p3.trans p4))) lr ar hp fun H5 p5=>?_
  have p35:=p3.trans (p4.trans p5)
  have hb5:=pre_get p5 hb4
  have vin:=valI_in hp hby ll lr al ar
  have evq:(dot (seg q 0) l l.length).tmod p*(dot (seg q 1) r r.length).tmod p=valI p l r q:=rfl
  have l5:=lo.pre p35
  have k5:=pre_len p35
  ((try simp (maxSteps:=3000000) (dsimp:=false) (disch:=first|omega|simp only[lnx];omega) only[↓ypre,ypost,↓reduceIte,reduceEqDiff,reduceAdd,reduceSub,reduceLeDiff,zz0,ynew,f0,f3,f4,f11,f18,f19,f20,wrap64_in,evq,show lenV (sl h.length N)=some (I64 N) from rfl]);try simp only[yback])
  have mx0:gen N (stM p l r ps t)=gen N fun j=>if j<0 then stM p l r ps (t+1) j else stM p l r ps t j:=gen_congr fun j _=>by rw[if_neg (by omega)]
  rw[mx0] at l5
  refine WC_loop_inv (fun m f K2=>∃ (c:Nat),m=N-c∧c≤N∧f 0=I64 p∧f 3=u∧f 4=z∧f 11=sl h.length N∧f 18=v∧f 19=I64 ps.length∧f 20=I64 t∧f 13=.pointer (some ⟨K1.length,0,none⟩)∧f 14=I64 (valI p l r q)∧f 36=I64 N∧f 37=I64 c∧(h<+:K2)∧(Lst K2 h.length (gen N fun j=>if j<c then stM p l r ps (t+1) j else stM p l r ps t j) true)∧(∃ e,K2.get K1.length=some ⟨cel .u8 q,e,false,true⟩)) ?_ (N-0) _ _ ⟨0,rfl,by omega,(by first|rfl|exact f0|(simp[upd_apply];done)),(by first|rfl|exact f3|(simp[upd_apply];done)),(by first|rfl|exact f4|(simp[upd_apply];done)),(by first|rfl|exact f11|(simp[upd_apply];done)),(by first|rfl|exact f18|(simp[upd_apply];done)),(by first|rfl|exact f19|(simp[upd_apply];done)),(by first|rfl|exact f20|(simp[upd_apply];done)),(by first|rfl|simp[upd_apply]),(by first|rfl|simp[upd_apply]),(by first|rfl|simp[upd_apply]),(by first|rfl|simp[upd_apply]),pp.trans p35,l5,⟨_,hb5⟩⟩
  rintro m f K2 ⟨c,rfl,hc,f0,f3,f4,f11,f18,f19,f20,f13,f14,f36,f37,p2,l2,b2⟩
  obtain⟨e2,b2⟩:=b2
  by_cases hlc:(c:Int)<N
  ·have hc':c<N:=by omega
   have ixd:ixsV 1 (sl h.length N) (I64 c)=some (.pointer (some ⟨h.length,c,none⟩)):=by
    rw[Lst.ix (by omega),Int.toNat_natCast]
   have rd:=l2.rd (j:=c) (by rw[gen_len];exact hc')
   rw[gen_get hc',if_neg (Nat.lt_irrefl _)] at rd
   have g1:=cel_get (k:=.u8) (q:=q) (j:=18+c) (by omega)
   have ixa:=ixa_u (n:=K1.length) (off:=18) (len:=9) (kk:=.i64) (j:=c) (by omega)
   have c1:=hby.2 (18+c) (by omega)
   have c2:=sin c (by omega)
   have c3:=Int.mul_nonneg c1.1 vin.1
   have c4:q.getD (18+c) 0*valI p l r q≤255*16:=Int.le_trans (Int.mul_le_mul_of_nonneg_right c1.2 vin.1) (Int.mul_le_mul_of_nonneg_left vin.2 (by decide))
   obtain⟨H6,w6,e6,l6⟩:=l2.wr (j:=c) (x:=(stM p l r ps t c+q.getD (18+c) 0*valI p l r q).tmod p) (by rw[gen_len];exact hc')
   rw[gen_set hc' _ (by rw[stn])] at l6
   ((try simp (maxSteps:=3000000) (dsimp:=false) (disch:=first|omega|simp only[lnx];omega) only[↓ypre,ypost,↓reduceIte,reduceEqDiff,reduceAdd,reduceSub,reduceLeDiff,zz0,ynew,f0,f3,f4,f11,f18,f19,f20,f13,f14,f36,f37,decide_eq_true hlc,ixd,rd,ixa,rd1_of b2,g1,wrap64_in,bin_rem (show p≠0 by omega),w6]);try simp only[yback])
   have b6:∃ e,H6.get K1.length=some ⟨cel .u8 q,e,false,true⟩:=⟨e2,by rw[e6,get_put_ne (by omega)];exact b2⟩
   refine InvQ_go (N-(c+1)) (by omega) ⟨(c+1),rfl,by omega,(by first|rfl|exact f0|(simp only[upd_apply];rfl)|(show I64 _=_;congr 1;omega)),(by first|rfl|exact f3|(simp only[upd_apply];rfl)|(show I64 _=_;congr 1;omega)),(by first|rfl|exact f4|(simp only[upd_apply];rfl)|(show I64 _=_;congr 1;omega)),(by first|rfl|exact f11|(simp only[upd_apply];rfl)|(show I64 _=_;congr 1;omega)),(by first|rfl|exact f18|(simp only[upd_apply];rfl)|(show I64 _=_;congr 1;omega)),(by first|rfl|exact f19|(simp only[upd_apply];rfl)|(show I64 _=_;congr 1;omega)),(by first|rfl|exact f20|(simp only[upd_apply];rfl)|(show I64 _=_;congr 1;omega)),(by first|rfl|exact f13|(simp only[upd_apply];rfl)|(show I64 _=_;congr 1;omega)),(by first|rfl|exact f14|(simp only[upd_apply];rfl)|(show I64 _=_;congr 1;omega)),(by first|rfl|exact f36|(simp only[upd_apply];rfl)|(show I64 _=_;congr 1;omega)),(by first|rfl|exact f37|(simp only[upd_apply];rfl)|(show I64 _=_;congr 1;omega)),(by rw[e6];exact pre_put p2 (Nat.le_refl _)),l6,b6⟩
  have ec:c=N:=by omega
  subst ec
  ((try simp (maxSteps:=3000000) (dsimp:=false) (disch:=first|omega|simp only[lnx];omega) only[↓ypre,ypost,↓reduceIte,reduceEqDiff,reduceAdd,reduceSub,reduceLeDiff,zz0,ynew,f0,f3,f4,f11,f18,f19,f20,f13,f14,f36,f37,decide_eq_false hlc,wrap64_in]);try simp only[yback])
  rw[gen_congr (g':=stM p l r ps (t+1)) (fun j hj=>by rw[if_pos hj])] at l2
  refine InvQ_go (ps.length-(t+1)) (by omega) ⟨(t+1),rfl,by omega,(by first|rfl|exact f0|(simp only[upd_apply];rfl)|(show I64 _=_;congr 1;omega)),(by first|rfl|exact f3|(simp only[upd_apply];rfl)|(show I64 _=_;congr 1;omega)),(by first|rfl|exact f4|(simp only[upd_apply];rfl)|(show I64 _=_;congr 1;omega)),(by first|rfl|exact f11|(simp only[upd_apply];rfl)|(show I64 _=_;congr 1;omega)),(by first|rfl|exact f18|(simp only[upd_apply];rfl)|(show I64 _=_;congr 1;omega)),(by first|rfl|exact f19|(simp only[upd_apply];rfl)|(show I64 _=_;congr 1;omega)),(by first|rfl|exact f20|(simp only[upd_apply];rfl)|(show I64 _=_;congr 1;omega)),p2,l2⟩
 have et:t=ps.length:=by omega
 subst et
 ((try simp (maxSteps:=3000000) (dsimp:=false) (disch:=first|omega|simp only[lnx];omega) only[↓ypre,ypost,↓reduceIte,reduceEqDiff,reduceAdd,reduceSub,reduceLeDiff,zz0,ynew,f0,f3,f4,f11,f18,f19,f20,decide_eq_false hlt]);try simp only[yback])
 exact hQ _ _ _ (Nat.le_refl _) pp lo
theorem mcX_0 {x:Sch} {L R:List (List Int)} (h:mcX x L R=0):isX x=true∧isMat x.p x.m L=true∧(L.length:Int)=x.n∧isMat x.p x.k R=true∧(R.length:Int)=x.m:=by
 unfold mcX at h
 split at h
 ·rename_i h1
  split at h
  ·rename_i h2
   simp only[mOK,Bool.and_eq_true,decide_eq_true_eq] at h2
   exact⟨h1,h2.1.1,h2.1.2,h2.2.1,h2.2.2⟩
  ·omega
 ·omega
structure MF (x:Sch) (L R:List (List Int)) (n m k:Nat):Prop where
 en:x.n=n
 em:x.m=m
 ek:x.k=k
 b:1≤n∧n≤3∧1≤m∧m≤3∧1≤k∧k≤3
 nk:1≤n*k∧n*k≤9
 wL:Wid m L
 wR:Wid k R
 lL:L.length=n
 lR:R.length=m
 fL:L.flatten.length≤9
 fR:R.flatten.length≤9
 aL:allIn x.p L.flatten=true
 aR:allIn x.p R.flatten=true
 hm:isMat x.p m L=true
 hr:isMat x.p k R=true
theorem mf_of {x:Sch} {L R:List (List Int)} (h:mcX x L R=0):∃ n m k,MF x L R n m k:=by
 obtain⟨hx,m1,l1,m2,l2⟩:=mcX_0 h
 obtain⟨zz,hp,hl30,ho⟩:=isX_facts hx
 obtain⟨p,⟨n1,n2⟩,⟨k1,k2⟩,⟨j1,j2⟩,_,_,_⟩:=zz
 obtain⟨n,hn⟩:∃ n:Nat,x.n=n:=⟨x.n.toNat,by omega⟩
 obtain⟨m,hm⟩:∃ m:Nat,x.m=m:=⟨x.m.toNat,by omega⟩
 obtain⟨k,hk⟩:∃ k:Nat,x.k=k:=⟨x.k.toNat,by omega⟩
 rw[hm] at m1
 rw[hk] at m2
 have wL:=isMat_wid m1
 have wR:=isMat_wid m2
 have b1:n*m≤3*3:=Nat.mul_le_mul (by omega) (by omega)
 have b2:m*k≤3*3:=Nat.mul_le_mul (by omega) (by omega)
 have b3:n*k≤3*3:=Nat.mul_le_mul (by omega) (by omega)
 have b4:1*1≤n*k:=Nat.mul_le_mul (by omega) (by omega)
 have lL:L.length=n:=by omega
 have lR:R.length=m:=by omega
 exact⟨n,m,k,hn,hm,hk,by omega,by omega,wL,wR,lL,lR,by rw[flat_len wL,lL];omega,by rw[flat_len wR,lR];omega,allIn_flat m1,allIn_flat m2,m1,m2⟩
def mpF (x:Sch) (L R:List (List Int)):List (List Int):=parts (gen (x.n*x.k).toNat (stM x.p L.flatten R.flatten x.ps x.ps.length)) x.k.toNat x.n.toNat
def mpR (x:Sch) (L R:List (List Int)):List (List Int)×Int:=if mcX x L R=0 then (mpF x L R,0) else ([],mcX x L R)
theorem i_MakeProduct {v u z:Value} {x:Sch} {L R:List (List Int)} {h:AH} {Q:Value→AH→Prop} (hv:Prods h v x.ps) (hl:SmallX x.ps) (hu:Rows h u L) (hL:SmallM L) (hz:Rows h z R) (hR:SmallM R)
  (hQ:∀ v' h',h<+:h'→OwnRows h h' v' (mpR x L R).1→Q (.tuple #[v',I64 (mpR x L R).2]) h'):WF S 21 [schV x v,u,z] h Q:=by
 refine WF_fn (fn:=c21) rfl rfl ?_
 dsimp only[c21,oO,oM,oS,oG,oK,oE,oL,oF,oX,oN]
 ((try simp (maxSteps:=3000000) (dsimp:=false) (disch:=first|omega|simp only[lnx];omega) only[↓ypre,ypost,↓reduceIte,reduceEqDiff,reduceAdd,reduceSub,reduceLeDiff,zz0,ynew,schV,hv.one]);try simp only[yback])
 generalize hH1:AH.new h _=H1
 obtain⟨hb1,p1,n1⟩:=new_facts hH1
 ((try simp (maxSteps:=3000000) (dsimp:=false) (disch:=first|omega|simp only[lnx];omega) only[↓ypre,ypost,↓reduceIte,reduceEqDiff,reduceAdd,reduceSub,reduceLeDiff,zz0,ynew,rdn_of hb1]);try simp only[yback])
 refine i_matricesCode (x:=x) (hv.pre p1) hl (hu.pre p1) hL (hz.pre p1) hR fun H2 p2=>?_
 have p12:=p1.trans p2
 have hb2:=pre_get p2 hb1
 unfold mpR at hQ
 by_cases hc:mcX x L R=0
 case neg=>
  rw[if_neg hc] at hQ
  ((try simp (maxSteps:=3000000) (dsimp:=false) (disch:=first|omega|simp only[lnx];omega) only[↓ypre,ypost,↓reduceIte,reduceEqDiff,reduceAdd,reduceSub,reduceLeDiff,zz0,ynew,decide_eq_true (show mcX x L R≠0 from hc)]);try simp only[yback])
  exact hQ _ _ p12 (.inl ⟨rfl,rfl⟩)
 rw[if_pos hc] at hQ
 obtain⟨hx,_⟩:=mcX_0 hc
 obtain⟨zz,hp,hl30,ho⟩:=isX_facts hx
 have hp5:=isP_in hp
 obtain⟨n,m,k,mf⟩:=mf_of hc
 have b:=mf.b
 have nk:=mf.nk
 have lL:=mf.lL
 have lR:=mf.lR
 ((try simp (maxSteps:=3000000) (dsimp:=false) (disch:=first|omega|simp only[lnx];omega) only[↓ypre,ypost,↓reduceIte,reduceEqDiff,reduceAdd,reduceSub,reduceLeDiff,zz0,ynew,decide_eq_false (show ¬ mcX x L R≠0 from fun y=>y hc),rd1_of hb2]);try simp only[yback])
 refine i_Concat (hu.pre p12) mf.wL (by omega) (by omega) fun nl fl H3 e3 p3 o3=>?_
 refine⟨p3,?_⟩
 ((try simp (maxSteps:=3000000) (dsimp:=false) (disch:=first|omega|simp only[lnx];omega) only[↓ypre,ypost,↓reduceIte,reduceEqDiff,reduceAdd,reduceSub,reduceLeDiff,zz0,ynew]);try simp only[yback])
 refine i_Concat (hz.pre (p12.trans p3)) mf.wR (by omega) (by omega) fun nr fr H4 e4 p4 o4=>?_
 refine⟨p4,?_⟩
 have enk:IntKind.i64.wrap (x.n*x.k)=((n*k:Nat):Int):=by
  rw[mf.en,mf.ek,←Int.natCast_mul,wrap64_in (by omega) (by omega)]
 ((try simp (maxSteps:=3000000) (dsimp:=false) (disch:=first|omega|simp only[lnx];omega) only[↓ypre,ypost,↓reduceIte,reduceEqDiff,reduceAdd,reduceSub,reduceLeDiff,zz0,ynew,enk]);try simp only[yback])
 have p14:=p12.trans (p3.trans p4)
 refine i_makes (N:=n*k) (hv.pre p14) hl30 hp5 mf.fL mf.fR mf.aL mf.aR nk (o3.pre p4).ints o4.ints fun no fo H5 e5 p5 o5=>?_
 refine⟨p5,?_⟩
 have hb5:=pre_get (p3.trans (p4.trans p5)) hb2
 ((try simp (maxSteps:=3000000) (dsimp:=false) (disch:=first|omega|simp only[lnx];omega) only[↓ypre,ypost,↓reduceIte,reduceEqDiff,reduceAdd,reduceSub,reduceLeDiff,zz0,ynew,rd1_of hb5]);try simp only[yback])
 rw[mf.ek]
 have gl:=gen_len (N:=n*k) (g:=stM x.p L.flatten R.flatten x.ps x.ps.length)
 have oi:=o5.ints
 rw[gl] at oi
 refine i_parted (w:=k) (n:=n) oi (by omega) (by omega) (by omega) fun v6 H6 p6 o6=>?_
 ((try simp (maxSteps:=3000000) (dsimp:=false) (disch:=first|omega|simp only[lnx];omega) only[↓ypre,ypost,↓reduceIte,reduceEqDiff,reduceAdd,reduceSub,reduceLeDiff,zz0,ynew]);try simp only[yback])
 have eF:parts (gen (n*k) (stM x.p L.flatten R.flatten x.ps x.ps.length)) k n=mpF x L R:=by
  unfold mpF
  rw[mf.en,mf.ek,←Int.natCast_mul,Int.toNat_natCast,Int.toNat_natCast,Int.toNat_natCast]
 rw[eF] at o6
 have pp:=p14.trans p5
 exact hQ _ _ (pp.trans p6) (o6.lo (pre_len pp))
end Go.Proofs.Ytapafdpnmakekaa.X

set_option linter.unusedVariables false
set_option linter.unusedSimpArgs false
set_option maxRecDepth 20000
set_option maxHeartbeats 4000000
namespace Go.Proofs.Ytapafdpnmakekaa.X
theorem dot_sm {q ns:List Int}:∀ {k:Nat},dot q ns k=sm k fun i=>q.getD i 0*ns.getD i 0
 | 0=>rfl
 | k+1=>by rw[dot,sm,dot_sm]
theorem Cg.tmod (x p:Int):Cg p (x.tmod p) x:=(show Cg p x (x.tmod p) from tmod_dvd x p).symm
theorem seg_at {q:List Int} {i j:Nat} (hj:j<9):(seg q i).getD j 0=q.getD (i*9+j) 0:=by
 unfold seg
 rw[cut_get hj]
def Sx (ps:List (List Int)) (T:Nat) (a b c:Nat):Int:=sm T fun t=>tm (ps.getD t []) a b c
theorem stM_cg {p:Int} {l r:List Int} {ps:List (List Int)} {j:Nat} (hl:l.length≤9) (hr:r.length≤9):∀ T,Cg p (stM p l r ps T j) (sm l.length fun a=>sm r.length fun b=>l.getD a 0*r.getD b 0*Sx ps T a b j)
 | 0=>by
  show Cg p 0 _
  rw[sm_zero' fun a _=>sm_zero' fun b _=>by show _*(0:Int)=0;rw[Int.mul_zero]]
  exact .rfl'
 | T+1=>by
  have ih:=stM_cg (p:=p) (l:=l) (r:=r) (ps:=ps) (j:=j) hl hr T
  refine (Cg.tmod _ _).trans ?_
  have hv:Cg p (valI p l r (ps.getD T [])) ((sm l.length fun a=>(ps.getD T []).getD a 0*l.getD a 0)*sm r.length fun b=>(ps.getD T []).getD (9+b) 0*r.getD b 0):=by
   unfold valI
   rw[dot_sm,dot_sm]
   have e1:(sm l.length fun i=>(seg (ps.getD T []) 0).getD i 0*l.getD i 0)=sm l.length fun a=>(ps.getD T []).getD a 0*l.getD a 0:=sm_ext fun i hi=>by
    rw[seg_at (by omega),Nat.zero_mul,Nat.zero_add]
   have e2:(sm r.length fun i=>(seg (ps.getD T []) 1).getD i 0*r.getD i 0)=sm r.length fun b=>(ps.getD T []).getD (9+b) 0*r.getD b 0:=sm_ext fun i hi=>by
    rw[seg_at (by omega),Nat.one_mul]
   rw[e1,e2]
   exact (Cg.tmod _ _).mul (Cg.tmod _ _)
  refine (ih.add (Cg.rfl'.mul hv)).trans (.of ?_)
  have e3:(ps.getD T []).getD (18+j) 0*((sm l.length fun a=>(ps.getD T []).getD a 0*l.getD a 0)*sm r.length fun b=>(ps.getD T []).getD (9+b) 0*r.getD b 0)=sm l.length fun a=>sm r.length fun b=>l.getD a 0*r.getD b 0*tm (ps.getD T []) a b j:=by
   rw[←sm_mulr,←sm_mul]
   refine sm_ext fun a _=>?_
   rw[←sm_mul,←sm_mul]
   refine sm_ext fun b _=>?_
   unfold tm
   grind
  rw[e3,←sm_add]
  refine sm_ext fun a _=>?_
  rw[←sm_add]
  refine sm_ext fun b _=>?_
  show _=_*(Sx ps T a b j+tm (ps.getD T []) a b j)
  rw[Int.mul_add]
def ppG (p:Int) (l r:List Int) (m k c:Nat):Int:=(sm m fun j=>l.getD (c / k*m+j) 0*r.getD (j*k+c%k) 0).tmod p
def wn (m k a b c:Nat):Int:=if a%m=b / k∧a / m=c / k∧b%k=c%k then 1 else 0
theorem correct_sum {p:Int} {n m k:Nat} {l r:List Int} {S:Nat→Nat→Nat→Int} {c:Nat} (hc:c<n*k) (hS:∀ a b,a<n*m→b<m*k→Cg p (S a b c) (wn m k a b c)) :
  Cg p (sm (n*m) fun a=>sm (m*k) fun b=>l.getD a 0*r.getD b 0*S a b c) (sm m fun j=>l.getD (c / k*m+j) 0*r.getD (j*k+c%k) 0):=by
 obtain⟨c1,c2,ec⟩:=dm_of hc
 have h1:Cg p (sm (n*m) fun a=>sm (m*k) fun b=>l.getD a 0*r.getD b 0*S a b c) (sm (n*m) fun a=>sm (m*k) fun b=>l.getD a 0*r.getD b 0*wn m k a b c):=
  Cg.sm fun a ha=>Cg.sm fun b hb=>Cg.rfl'.mul (hS a b ha hb)
 refine h1.trans (.of ?_)
 rw[sm_rows]
 have h2:(sm n fun i=>sm m fun j=>sm (m*k) fun b=>l.getD (i*m+j) 0*r.getD b 0*wn m k (i*m+j) b c)=sm n fun i=>if i=c / k then sm m (fun j=>l.getD (i*m+j) 0*r.getD (j*k+c%k) 0) else 0:=by
  refine sm_ext fun i hi=>?_
  by_cases e:i=c / k
  ·rw[if_pos e]
   refine sm_ext fun j hj=>?_
   rw[sm_rows]
   have h3:(sm m fun j'=>sm k fun l'=>l.getD (i*m+j) 0*r.getD (j'*k+l') 0*wn m k (i*m+j) (j'*k+l') c)=sm m fun j'=>if j'=j then l.getD (i*m+j) 0*r.getD (j'*k+c%k) 0 else 0:=by
    refine sm_ext fun j' hj'=>?_
    by_cases e2:j'=j
    ·rw[if_pos e2]
     have h4:(sm k fun l'=>l.getD (i*m+j) 0*r.getD (j'*k+l') 0*wn m k (i*m+j) (j'*k+l') c)=sm k fun l'=>if l'=c%k then l.getD (i*m+j) 0*r.getD (j'*k+l') 0 else 0:=by
      refine sm_ext fun l' hl'=>?_
      unfold wn
      rw[(dm hj).1,(dm hj).2,(dm hl').1,(dm hl').2]
      by_cases e3:l'=c%k
      ·rw[if_pos ⟨e2.symm,e,e3⟩,if_pos e3,Int.mul_one]
      ·rw[if_neg (fun h=>e3 h.2.2),if_neg e3,Int.mul_zero]
     rw[h4,sm_delta c2]
    ·rw[if_neg e2]
     refine sm_zero' fun l' hl'=>?_
     unfold wn
     rw[(dm hj).1,(dm hj).2,(dm hl').1,(dm hl').2,if_neg (fun h=>e2 h.1.symm),Int.mul_zero]
   rw[h3,sm_delta hj]
  ·rw[if_neg e]
   refine sm_zero' fun j hj=>sm_zero' fun b hb=>?_
   unfold wn
   rw[(dm hj).1,(dm hj).2,if_neg (fun h=>e h.2.1),Int.mul_zero]
 rw[h2,sm_delta c1]
section
variable {x y:Sch} {L R:List (List Int)} {n m k:Nat}
theorem mp_same (hp:2≤x.p∧x.p≤5) (wx:Wid 27 x.ps) (bx:Byt 27 x.ps) (wy:Wid 27 y.ps) (byy:Byt 27 y.ps) (mf:MF x L R n m k) (mg:MF y L R n m k) (ep:x.p=y.p)
  (hS:∀ a b c,a<n*m→b<m*k→c<n*k→Cg x.p (Sx x.ps x.ps.length a b c) (Sx y.ps y.ps.length a b c)):mpF x L R=mpF y L R:=by
 have bb:=mf.b
 have nk:=mf.nk
 unfold mpF
 rw[mf.en,mf.ek,mg.en,mg.ek,←Int.natCast_mul,Int.toNat_natCast,Int.toNat_natCast,Int.toNat_natCast]
 congr 1
 refine gen_congr fun c hc=>?_
 have fl:=flat_len mf.wL
 have fr:=flat_len mf.wR
 rw[mf.lL] at fl
 rw[mf.lR] at fr
 have h1:=stM_cg (p:=x.p) (l:=L.flatten) (r:=R.flatten) (ps:=x.ps) (j:=c) mf.fL mf.fR x.ps.length
 have h2:=stM_cg (p:=x.p) (l:=L.flatten) (r:=R.flatten) (ps:=y.ps) (j:=c) mf.fL mf.fR y.ps.length
 rw[fl,fr] at h1 h2
 have h3:Cg x.p (sm (n*m) fun a=>sm (m*k) fun b=>L.flatten.getD a 0*R.flatten.getD b 0*Sx x.ps x.ps.length a b c) (sm (n*m) fun a=>sm (m*k) fun b=>L.flatten.getD a 0*R.flatten.getD b 0*Sx y.ps y.ps.length a b c):=
  Cg.sm fun a ha=>Cg.sm fun b hb=>Cg.rfl'.mul (hS a b c ha hb hc)
 have i1:=stM_in hp bx wx mf.fL mf.fR mf.aL mf.aR (t:=x.ps.length) (Nat.le_refl _) c (by omega)
 have i2:=stM_in (p:=y.p) (by omega) byy wy mg.fL mg.fR mg.aL mg.aR (t:=y.ps.length) (Nat.le_refl _) c (by omega)
 rw[←ep] at i2 ⊢
 exact dvd_eq ((h1.trans h3).trans h2.symm) i1 i2
theorem mp_plain (hp:2≤x.p∧x.p≤5) (wx:Wid 27 x.ps) (bx:Byt 27 x.ps) (mf:MF x L R n m k)
  (hS:∀ a b c,a<n*m→b<m*k→c<n*k→Cg x.p (Sx x.ps x.ps.length a b c) (wn m k a b c)):mpF x L R=parts (gen (n*k) (ppG x.p L.flatten R.flatten m k)) k n:=by
 have bb:=mf.b
 have nk:=mf.nk
 unfold mpF
 rw[mf.en,mf.ek,←Int.natCast_mul,Int.toNat_natCast,Int.toNat_natCast,Int.toNat_natCast]
 congr 1
 refine gen_congr fun c hc=>?_
 have fl:=flat_len mf.wL
 have fr:=flat_len mf.wR
 rw[mf.lL] at fl
 rw[mf.lR] at fr
 have h1:=stM_cg (p:=x.p) (l:=L.flatten) (r:=R.flatten) (ps:=x.ps) (j:=c) mf.fL mf.fR x.ps.length
 rw[fl,fr] at h1
 have h3:=correct_sum (l:=L.flatten) (r:=R.flatten) hc (fun a b ha hb=>hS a b c ha hb hc)
 have i1:=stM_in hp bx wx mf.fL mf.fR mf.aL mf.aR (t:=x.ps.length) (Nat.le_refl _) c (by omega)
 have nn:0≤sm m fun j=>L.flatten.getD (c / k*m+j) 0*R.flatten.getD (j*k+c%k) 0:=by
  have:∀ m',0≤sm m' fun j=>L.flatten.getD (c / k*m+j) 0*R.flatten.getD (j*k+c%k) 0:=fun m'=>by
   induction m' with
   | zero=>exact Int.le_refl _
   | succ m' ih=>
    have g:∀ {ns:List Int} (j:Nat),allIn x.p ns=true→0≤ns.getD j 0:=fun {ns} j h=>by
     by_cases hj:j<ns.length
     ·exact (allIn_iff.1 h j hj).1
     ·rw[List.getD_eq_getElem?_getD,List.getElem?_eq_none (by omega)]
      exact Int.le_refl _
    have:=Int.mul_nonneg (g (c / k*m+m') mf.aL) (g (m'*k+c%k) mf.aR)
    simp only[sm]
    omega
  exact this m
 exact dvd_eq ((h1.trans h3).trans (Cg.tmod _ _).symm) i1 ⟨Int.tmod_nonneg _ nn,Int.tmod_lt_of_pos _ (by omega)⟩
end
end Go.Proofs.Ytapafdpnmakekaa.X

set_option linter.unusedVariables false
set_option linter.unusedSimpArgs false
set_option maxRecDepth 20000
set_option maxHeartbeats 4000000
namespace Go.Proofs.Ytapafdpnmakekaa.X
open Go Go.RowKit
open Nat (reduceEqDiff reduceAdd reduceSub reduceLeDiff)
def wnX (x:Sch) (a b c:Nat):Int:=wn x.m.toNat x.k.toNat a b c
theorem nt_mod (a b:Nat):(a:Int).tmod (b:Int)=((a%b:Nat):Int):=(Int.ofNat_tmod a b).symm
theorem nt_div (a b:Nat):(a:Int).tdiv (b:Int)=((a / b:Nat):Int):=(Int.ofNat_tdiv a b).symm
theorem i_rightSide {v:Value} {x:Sch} {a b c:Nat} {h:AH} {Q:Value→AH→Prop} (hv:isOne v=true) (z:SZ x) (ha:a<9) (hb:b<9) (hc:c<9)
  (hQ:∀ h',h<+:h'→Q (I64 (wnX x a b c)) h'):WF S 219 [schV x v,I64 a,I64 b,I64 c] h Q:=by
 refine WF_fn (fn:=c219) rfl rfl ?_
 dsimp only[c219,oO,oM,oS,oG,oK,oE,oL,oF,oX,oN]
 have zm:=z.m
 have zk:=z.k
 obtain⟨M,hM⟩:∃ M:Nat,x.m=M:=⟨x.m.toNat,by omega⟩
 obtain⟨K,hK⟩:∃ K:Nat,x.k=K:=⟨x.k.toNat,by omega⟩
 ((try simp (maxSteps:=3000000) (dsimp:=false) (disch:=first|omega|simp only[lnx];omega) only[↓ypre,ypost,↓reduceIte,reduceEqDiff,reduceAdd,reduceSub,reduceLeDiff,zz0,ynew,schV,hv]);try simp only[yback])
 generalize hH1:AH.new h _=H1
 obtain⟨hb1,p1,n1⟩:=new_facts hH1
 have e:wnX x a b c=wn M K a b c:=by unfold wnX;rw[hM,hK];rfl
 rw[e] at hQ
 rw[hM,hK] at hb1
 have d1:a / M≤9:=by have:=Nat.div_le_self a M;omega
 have d2:b / K≤9:=by have:=Nat.div_le_self b K;omega
 have d3:c / K≤9:=by have:=Nat.div_le_self c K;omega
 have wq:∀ n:Nat,n≤9→IntKind.i64.wrap (n:Int)=n:=fun n hn=>by rw[wrap64_in]<;>omega
 have w1:=wq _ d1
 have w2:=wq _ d2
 have w3:=wq _ d3
 have M0:(M:Int)≠0:=by omega
 have K0:(K:Int)≠0:=by omega
 have hQ1:a%M=b / K∧a / M=c / K∧b%K=c%K→Q (I64 1) H1:=fun hh=>by
  have:=hQ _ p1
  unfold wn at this
  rw[if_pos hh] at this
  exact this
 have hQ0:¬ (a%M=b / K∧a / M=c / K∧b%K=c%K)→Q (I64 0) H1:=fun hh=>by
  have:=hQ _ p1
  unfold wn at this
  rw[if_neg hh] at this
  exact this
 by_cases h1:a%M=b / K
 ·by_cases h2:a / M=c / K
  ·by_cases h3:b%K=c%K
   ·((try simp (maxSteps:=3000000) (dsimp:=false) (disch:=first|omega|simp only[lnx];omega) only[↓ypre,ypost,↓reduceIte,reduceEqDiff,reduceAdd,reduceSub,reduceLeDiff,zz0,ynew,hM,hK,rd1_of hb1,bin_rem M0,bin_rem K0,bin_quo K0,bin_quo M0,nt_mod,nt_div,w1,w2,w3,decide_eq_true (show ((a%M:Nat):Int)=((b / K:Nat):Int) from by exact_mod_cast h1),decide_eq_true (show ((a / M:Nat):Int)=((c / K:Nat):Int) from by exact_mod_cast h2),decide_eq_true (show ((b%K:Nat):Int)=((c%K:Nat):Int) from by exact_mod_cast h3)]);try simp only[yback])
    exact hQ1 ⟨h1,h2,h3⟩
   ·((try simp (maxSteps:=3000000) (dsimp:=false) (disch:=first|omega|simp only[lnx];omega) only[↓ypre,ypost,↓reduceIte,reduceEqDiff,reduceAdd,reduceSub,reduceLeDiff,zz0,ynew,hM,hK,rd1_of hb1,bin_rem M0,bin_rem K0,bin_quo K0,bin_quo M0,nt_mod,nt_div,w1,w2,w3,decide_eq_true (show ((a%M:Nat):Int)=((b / K:Nat):Int) from by exact_mod_cast h1),decide_eq_true (show ((a / M:Nat):Int)=((c / K:Nat):Int) from by exact_mod_cast h2),decide_eq_false (show ¬ ((b%K:Nat):Int)=((c%K:Nat):Int) from by exact_mod_cast h3)]);try simp only[yback])
    exact hQ0 fun hh=>h3 hh.2.2
  ·((try simp (maxSteps:=3000000) (dsimp:=false) (disch:=first|omega|simp only[lnx];omega) only[↓ypre,ypost,↓reduceIte,reduceEqDiff,reduceAdd,reduceSub,reduceLeDiff,zz0,ynew,hM,hK,rd1_of hb1,bin_rem M0,bin_rem K0,bin_quo K0,bin_quo M0,nt_mod,nt_div,w1,w2,w3,decide_eq_true (show ((a%M:Nat):Int)=((b / K:Nat):Int) from by exact_mod_cast h1),decide_eq_false (show ¬ ((a / M:Nat):Int)=((c / K:Nat):Int) from by exact_mod_cast h2)]);try simp only[yback])
   exact hQ0 fun hh=>h2 hh.2.1
 ·((try simp (maxSteps:=3000000) (dsimp:=false) (disch:=first|omega|simp only[lnx];omega) only[↓ypre,ypost,↓reduceIte,reduceEqDiff,reduceAdd,reduceSub,reduceLeDiff,zz0,ynew,hM,hK,rd1_of hb1,bin_rem M0,bin_rem K0,bin_quo K0,bin_quo M0,nt_mod,nt_div,w1,w2,w3,decide_eq_false (show ¬ ((a%M:Nat):Int)=((b / K:Nat):Int) from by exact_mod_cast h1)]);try simp only[yback])
  exact hQ0 fun hh=>h1 hh.1
section
variable (x:Sch) (J K:Nat)
def badE (e:Nat):Bool:=decide (lsX x (e / K / J) (e / K%J) (e%K)≠wnX x (e / K / J) (e / K%J) (e%K))
def plE (e:Nat):List Int:=[((e / K / J:Nat):Int),((e / K%J:Nat):Int),((e%K:Nat):Int)]
def wrS:Nat→List (List Int)
 | 0=>[]
 | e+1=>if badE x J K e=true then wrS e++[plE J K e] else wrS e
end
def wrX (x:Sch):List (List Int):=wrS x (x.m*x.k).toNat (x.n*x.k).toNat ((x.n*x.m).toNat*((x.m*x.k).toNat*(x.n*x.k).toNat))
theorem wrS_le {x:Sch} {J K:Nat}:∀ {e:Nat},(wrS x J K e).length≤e
 | 0=>Nat.le_refl _
 | e+1=>by
  have:=wrS_le (x:=x) (J:=J) (K:=K) (e:=e)
  unfold wrS
  split
  ·simp;omega
  ·omega
theorem wrS_nil {x:Sch} {J K:Nat}:∀ {e:Nat},wrS x J K e=[]→∀ e',e'<e→badE x J K e'=false
 | 0,h,e',he=>by omega
 | e+1,h,e',he=>by
  unfold wrS at h
  split at h
  ·simp at h
  ·rename_i hb
   by_cases h1:e'=e
   ·subst h1
    simpa using hb
   ·exact wrS_nil h e' (by omega)
theorem eDec {J K a b c e:Nat} (he:e=a*(J*K)+b*K+c) (hb:b<J) (hc:c<K):e / K / J=a∧e / K%J=b∧e%K=c:=by
 have e1:e=(a*J+b)*K+c:=by rw[he,Nat.add_mul,Nat.mul_assoc]
 rw[e1,(dm hc).1,(dm hc).2,(dm hb).1,(dm hb).2]
 exact⟨rfl,rfl,rfl⟩
theorem wrS_next {x:Sch} {J K a b c e:Nat} (he:e=a*(J*K)+b*K+c) (hb:b<J) (hc:c<K):wrS x J K (e+1)=if lsX x a b c=wnX x a b c then wrS x J K e else wrS x J K e++[[(a:Int),b,c]]:=by
 obtain⟨h1,h2,h3⟩:=eDec he hb hc
 unfold wrS badE plE
 rw[h1,h2,h3]
 by_cases h:lsX x a b c=wnX x a b c
 ·rw[if_pos h,if_neg (by simpa using h)]
  cases e<;>rfl
 ·rw[if_neg h,if_pos (by simpa using h)]
  cases e<;>rfl
theorem sz_nat {x:Sch} (z:SZ x):∃ I J K:Nat,x.n*x.m=I∧x.m*x.k=J∧x.n*x.k=K∧(1≤I∧I≤9)∧(1≤J∧J≤9)∧(1≤K∧K≤9)∧wrX x=wrS x J K (I*(J*K)):=by
 have zn:=z.nm
 have zm:=z.mk2
 have zk:=z.nk
 refine⟨(x.n*x.m).toNat,(x.m*x.k).toNat,(x.n*x.k).toNat,by omega,by omega,by omega,by omega,by omega,by omega,rfl⟩
theorem e_lt {I J K e:Nat} (hI:I≤9) (hJ:J≤9) (hK:K≤9) (h:e≤I*(J*K)):e≤729:=by
 have h1:J*K≤9*9:=Nat.mul_le_mul hJ hK
 have h2:I*(J*K)≤9*(9*9):=Nat.mul_le_mul hI h1
 omega
theorem RowD.pre {lo kb:Nat} {H H':AH} {fu:Bool} {rows:List (List Int)} {B:Nat→Nat} {cs:List Value} (r:RowD lo H kb fu rows B cs) (p:H<+:H'):RowD lo H' kb fu rows B cs:=
 ⟨pre_get p r.get,r.len,r.low,fun i hi=>by
  obtain⟨h1,h2,⟨f,h3⟩,h4⟩:=r.row i hi
  exact⟨h1,h2,⟨f,pre_get p h3⟩,h4⟩,r.inc⟩
theorem i_wrong {v:Value} {x:Sch} {h:AH} {Q:Value→AH→Prop} (hv:Prods h v x.ps) (hx:isX x=true)
  (hQ:∀ kb fu B cs h',h<+:h'→RowD h.length h' kb fu (wrX x) B cs→Q (sl kb (wrX x).length) h'):WF S 158 [schV x v] h Q:=by
 refine WF_fn (fn:=c158) rfl rfl ?_
 dsimp only[c158,oO,oM,oS,oG,oK,oE,oL,oF,oX,oN]
 have o1:=hv.one
 obtain⟨z,hP,hl30,-⟩:=isX_facts hx
 obtain⟨I,J,K,eI,eJ,eK,bI,bJ,bK,eW⟩:=sz_nat z
 rw[eW] at hQ
 ((try simp (maxSteps:=3000000) (dsimp:=false) (disch:=first|omega|simp only[lnx];omega) only[↓ypre,ypost,↓reduceIte,reduceEqDiff,reduceAdd,reduceSub,reduceLeDiff,zz0,ynew,schV,o1]);try simp only[yback])
 generalize hH1:AH.new h _=H1
 obtain⟨hb1,p1,n1⟩:=new_facts hH1
 ((try simp (maxSteps:=3000000) (dsimp:=false) (disch:=first|omega|simp only[lnx];omega) only[↓ypre,ypost,↓reduceIte,reduceEqDiff,reduceAdd,reduceSub,reduceLeDiff,zz0,ynew,rdn_of hb1,fillL,zrep]);try simp only[yback])
 generalize hH2:AH.new H1 _=H2
 obtain⟨hb2,p2,n2⟩:=new_facts hH2
 ((try simp (maxSteps:=3000000) (dsimp:=false) (disch:=first|omega|simp only[lnx];omega) only[↓ypre,ypost,↓reduceIte,reduceEqDiff,reduceAdd,reduceSub,reduceLeDiff,zz0,ynew,rdn_of (pre_get p2 hb1)]);try simp only[yback])
 refine i_placesOf (x:=x) o1 z fun H3 p3=>?_
 rw[eI,eJ,eK]
 have hb1:=pre_get (p2.trans p3) hb1
 have hb2:=pre_get p3 hb2
 refine WO_cut (fun f:Fr=>f 1=.pointer (some ⟨h.length,0,none⟩)∧f 8=.slice (some ⟨H1.length,0,none⟩) 0 1∧f 10=.agg #[I64 I,I64 J,I64 K]∧True) ⟨(by first|rfl|simp[upd_apply]),(by first|rfl|simp[upd_apply]),(by first|rfl|simp[upd_apply]),trivial⟩ ?_
 rintro f ⟨f1,f8,f10,-⟩
 ((try simp (maxSteps:=3000000) (dsimp:=false) (disch:=first|omega|simp only[lnx];omega) only[↓ypre,ypost,↓reduceIte,reduceEqDiff,reduceAdd,reduceSub,reduceLeDiff,zz0,ynew,f1,f8,f10]);try simp only[yback])
 generalize hH4:AH.new H3 _=H4
 obtain⟨g4,p4,n4⟩:=new_facts hH4
 have ix0:ixaV 3 1 (.pointer (some ⟨H3.length,0,none⟩)) (I64 0)=some (.pointer (some ⟨H3.length,0,none⟩)):=rfl
 have ix1:ixaV 3 1 (.pointer (some ⟨H3.length,0,none⟩)) (I64 1)=some (.pointer (some ⟨H3.length,1,none⟩)):=rfl
 have ix2:ixaV 3 1 (.pointer (some ⟨H3.length,0,none⟩)) (I64 2)=some (.pointer (some ⟨H3.length,2,none⟩)):=rfl
 have hb1:=pre_get p4 hb1
 have hb2:=pre_get p4 hb2
 have L1:=pre_len p2
 have L2:=pre_len p3
 ((try simp (maxSteps:=3000000) (dsimp:=false) (disch:=first|omega|simp only[lnx];omega) only[↓ypre,ypost,↓reduceIte,reduceEqDiff,reduceAdd,reduceSub,reduceLeDiff,zz0,ynew,f1,f8,f10,rd1_of g4,ix0]);try simp only[yback])
 have r0:RowD h.length H4 H1.length true [] (fun _=>0) []:=⟨hb2,rfl,by omega,fun i hi=>by simp at hi,fun i j _ hj=>by simp at hj⟩
 have pr:=p1.trans (p2.trans (p3.trans p4))
 refine WC_loop_inv (fun m f K1=>∃ (a:Nat) (e:Nat) (kb:Nat) (fu:Bool) (B:(Nat→Nat)) (cs:List Value),m=I-a∧a≤I∧f 1=.pointer (some ⟨h.length,0,none⟩)∧f 3=sl kb (wrS x J K e).length∧f 4=.pointer (some ⟨H3.length,0,none⟩)∧f 12=I64 I∧f 13=I64 a∧(h<+:K1)∧(K1.get h.length=some ⟨[I64 x.p,I64 x.n,I64 x.m,I64 x.k,v],26,false,true⟩)∧(K1.get H3.length=some ⟨[I64 I,I64 J,I64 K],158,false,true⟩)∧(RowD h.length K1 kb fu (wrS x J K e) B cs)∧(∀ j,j<(wrS x J K e).length→B j<K1.length)∧(e=a*(J*K))) ?_ (I-0) _ _ ⟨0,0,H1.length,true,(fun _=>0),[],rfl,by omega,(by first|rfl|exact f1|(simp[upd_apply];done)),(by first|rfl|simp[upd_apply]),(by first|rfl|simp[upd_apply]),(by first|rfl|simp[upd_apply]),(by first|rfl|simp[upd_apply]),pr,hb1,g4,r0,(fun j hj=>by simp[wrS] at hj),(by simp)⟩
 rintro m f K1 ⟨a,e,kb,fu,B,cs,rfl,ha,f1,f3,f4,f12,f13,pp,hp,g4,r,hB,he⟩
 by_cases hla:(a:Int)<I
 ·((try simp (maxSteps:=3000000) (dsimp:=false) (disch:=first|omega|simp only[lnx];omega) only[↓ypre,ypost,↓reduceIte,reduceEqDiff,reduceAdd,reduceSub,reduceLeDiff,zz0,ynew,f1,f3,f4,f12,f13,decide_eq_true hla,rd1_of g4,ix1]);try simp only[yback])
  refine WC_loop_inv (fun m f K2=>∃ (b:Nat) (e:Nat) (kb:Nat) (fu:Bool) (B:(Nat→Nat)) (cs:List Value),m=J-b∧b≤J∧f 1=.pointer (some ⟨h.length,0,none⟩)∧f 3=sl kb (wrS x J K e).length∧f 4=.pointer (some ⟨H3.length,0,none⟩)∧f 5=I64 a∧f 12=I64 I∧f 13=I64 a∧f 17=I64 J∧f 18=I64 b∧(h<+:K2)∧(K2.get h.length=some ⟨[I64 x.p,I64 x.n,I64 x.m,I64 x.k,v],26,false,true⟩)∧(K2.get H3.length=some ⟨[I64 I,I64 J,I64 K],158,false,true⟩)∧(RowD h.length K2 kb fu (wrS x J K e) B cs)∧(∀ j,j<(wrS x J K e).length→B j<K2.length)∧(e=a*(J*K)+b*K)) ?_ (J-0) _ _ ⟨0,e,kb,fu,B,cs,rfl,by omega,(by first|rfl|exact f1|(simp[upd_apply];done)),(by first|rfl|exact f3|(simp[upd_apply];done)),(by first|rfl|exact f4|(simp[upd_apply];done)),(by first|rfl|simp[upd_apply]),(by first|rfl|exact f12|(simp[upd_apply];done)),(by first|rfl|exact f13|(simp[upd_apply];done)),(by first|rfl|simp[upd_apply]),(by first|rfl|simp[upd_apply]),pp,hp,g4,r,hB,(by rw[he];simp)⟩
  rintro m f K2 ⟨b,e,kb,fu,B,cs,rfl,hb,f1,f3,f4,f5,f12,f13,f17,f18,pp,hp,g4,r,hB,he⟩
  by_cases hlb:(b:Int)<J
  ·((try simp (maxSteps:=3000000) (dsimp:=false) (disch:=first|omega|simp only[lnx];omega) only[↓ypre,ypost,↓reduceIte,reduceEqDiff,reduceAdd,reduceSub,reduceLeDiff,zz0,ynew,f1,f3,f4,f5,f12,f13,f17,f18,decide_eq_true hlb,rd1_of g4,ix2]);try simp only[yback])
   refine WC_loop_inv (fun m f K3=>∃ (c:Nat) (e:Nat) (kb:Nat) (fu:Bool) (B:(Nat→Nat)) (cs:List Value),m=K-c∧c≤K∧f 1=.pointer (some ⟨h.length,0,none⟩)∧f 3=sl kb (wrS x J K e).length∧f 4=.pointer (some ⟨H3.length,0,none⟩)∧f 5=I64 a∧f 6=I64 b∧f 12=I64 I∧f 13=I64 a∧f 17=I64 J∧f 18=I64 b∧f 22=I64 K∧f 23=I64 c∧(h<+:K3)∧(K3.get h.length=some ⟨[I64 x.p,I64 x.n,I64 x.m,I64 x.k,v],26,false,true⟩)∧(K3.get H3.length=some ⟨[I64 I,I64 J,I64 K],158,false,true⟩)∧(RowD h.length K3 kb fu (wrS x J K e) B cs)∧(∀ j,j<(wrS x J K e).length→B j<K3.length)∧(e=a*(J*K)+b*K+c)) ?_ (K-0) _ _ ⟨0,e,kb,fu,B,cs,rfl,by omega,(by first|rfl|exact f1|(simp[upd_apply];done)),(by first|rfl|exact f3|(simp[upd_apply];done)),(by first|rfl|exact f4|(simp[upd_apply];done)),(by first|rfl|exact f5|(simp[upd_apply];done)),(by first|rfl|simp[upd_apply]),(by first|rfl|exact f12|(simp[upd_apply];done)),(by first|rfl|exact f13|(simp[upd_apply];done)),(by first|rfl|exact f17|(simp[upd_apply];done)),(by first|rfl|exact f18|(simp[upd_apply];done)),(by first|rfl|simp[upd_apply]),(by first|rfl|simp[upd_apply]),pp,hp,g4,r,hB,(by rw[he];simp)⟩
   rintro m f K3 ⟨c,e,kb,fu,B,cs,rfl,hc,f1,f3,f4,f5,f6,f12,f13,f17,f18,f22,f23,pp,hp,g4,r,hB,he⟩
   by_cases hlc:(c:Int)<K
   ·have hvK:=hv.pre pp
    have nx:=wrS_next (x:=x) he (show b<J by omega) (show c<K by omega)
    have eb:e≤729:=by
     have h1:a*(J*K)+b*K+c<(a+1)*(J*K):=by
      have h2:b*K+c<J*K:=by
       have:=Nat.mul_le_mul_right K (show b+1≤J by omega)
       rw[Nat.add_mul,Nat.one_mul] at this
       omega
      rw[Nat.add_mul,Nat.one_mul]
      omega
     have h3:=Nat.mul_le_mul_right (J*K) (show a+1≤I by omega)
     exact e_lt bI.2 bJ.2 bK.2 (by omega)
    have ll:=wrS_le (x:=x) (J:=J) (K:=K) (e:=e)
    ((try simp (maxSteps:=3000000) (dsimp:=false) (disch:=first|omega|simp only[lnx];omega) only[↓ypre,ypost,↓reduceIte,reduceEqDiff,reduceAdd,reduceSub,reduceLeDiff,zz0,ynew,f1,f3,f4,f5,f6,f12,f13,f17,f18,f22,f23,decide_eq_true hlc,rdn_of hp]);try simp only[yback])
    refine i_leftSide (x:=x) hvK z hl30 (by omega) (by omega) (by omega) fun H5 p5=>?_
    refine⟨p5,?_⟩
    have hp:=pre_get p5 hp
    refine WO_cut (fun f:Fr=>f 1=.pointer (some ⟨h.length,0,none⟩)∧f 3=sl kb (wrS x J K e).length∧f 4=.pointer (some ⟨H3.length,0,none⟩)∧f 5=I64 a∧f 6=I64 b∧f 7=I64 c∧f 12=I64 I∧f 13=I64 a∧f 17=I64 J∧f 18=I64 b∧f 22=I64 K∧f 23=I64 c∧f 30=I64 (lsX x a b c)∧True) ⟨(by first|rfl|exact f1|simp[upd_apply,f1]),(by first|rfl|exact f3|simp[upd_apply,f3]),(by first|rfl|exact f4|simp[upd_apply,f4]),(by first|rfl|exact f5|simp[upd_apply,f5]),(by first|rfl|exact f6|simp[upd_apply,f6]),(by first|rfl|simp[upd_apply]),(by first|rfl|exact f12|simp[upd_apply,f12]),(by first|rfl|exact f13|simp[upd_apply,f13]),(by first|rfl|exact f17|simp[upd_apply,f17]),(by first|rfl|exact f18|simp[upd_apply,f18]),(by first|rfl|exact f22|simp[upd_apply,f22]),(by first|rfl|exact f23|simp[upd_apply,f23]),(by first|rfl|simp[upd_apply]),trivial⟩ ?_
    rintro f ⟨f1,f3,f4,f5,f6,f7,f12,f13,f17,f18,f22,f23,f30,-⟩
    ((try simp (maxSteps:=3000000) (dsimp:=false) (disch:=first|omega|simp only[lnx];omega) only[↓ypre,ypost,↓reduceIte,reduceEqDiff,reduceAdd,reduceSub,reduceLeDiff,zz0,ynew,f1,f3,f4,f5,f6,f7,f12,f13,f17,f18,f22,f23,f30,rdn_of hp]);try simp only[yback])
    refine i_rightSide (x:=x) o1 z (by omega) (by omega) (by omega) fun H6 p6=>?_
    have p56:=p5.trans p6
    have hp:=pre_get p6 hp
    have g4:=pre_get p56 g4
    have r:=r.pre p56
    have l56:=p56.length_le
    have rlow:=r.low
    refine WO_cut (fun f:Fr=>f 1=.pointer (some ⟨h.length,0,none⟩)∧f 3=sl kb (wrS x J K e).length∧f 4=.pointer (some ⟨H3.length,0,none⟩)∧f 5=I64 a∧f 6=I64 b∧f 7=I64 c∧f 12=I64 I∧f 13=I64 a∧f 17=I64 J∧f 18=I64 b∧f 22=I64 K∧f 23=I64 c∧f 30=I64 (lsX x a b c)∧f 35=I64 (wnX x a b c)∧True) ⟨(by first|rfl|exact f1|simp[upd_apply,f1]),(by first|rfl|exact f3|simp[upd_apply,f3]),(by first|rfl|exact f4|simp[upd_apply,f4]),(by first|rfl|exact f5|simp[upd_apply,f5]),(by first|rfl|exact f6|simp[upd_apply,f6]),(by first|rfl|exact f7|simp[upd_apply,f7]),(by first|rfl|exact f12|simp[upd_apply,f12]),(by first|rfl|exact f13|simp[upd_apply,f13]),(by first|rfl|exact f17|simp[upd_apply,f17]),(by first|rfl|exact f18|simp[upd_apply,f18]),(by first|rfl|exact f22|simp[upd_apply,f22]),(by first|rfl|exact f23|simp[upd_apply,f23]),(by first|rfl|exact f30|simp[upd_apply,f30]),(by first|rfl|simp[upd_apply]),trivial⟩ ?_
    rintro f ⟨f1,f3,f4,f5,f6,f7,f12,f13,f17,f18,f22,f23,f30,f35,-⟩
    by_cases hs:lsX x a b c=wnX x a b c
    ·rw[if_pos hs] at nx
     ((try simp (maxSteps:=3000000) (dsimp:=false) (disch:=first|omega|simp only[lnx];omega) only[↓ypre,ypost,↓reduceIte,reduceEqDiff,reduceAdd,reduceSub,reduceLeDiff,zz0,ynew,f1,f3,f4,f5,f6,f7,f12,f13,f17,f18,f22,f23,f30,f35,decide_eq_false (show ¬ lsX x a b c≠wnX x a b c from fun h=>h hs),wrap64_in]);try simp only[yback])
     refine InvQ_go (K-(c+1)) (by omega) ⟨(c+1),(e+1),kb,fu,B,cs,rfl,by omega,(by first|rfl|exact f1|(simp only[upd_apply];rfl)|(show I64 _=_;congr 1;omega)),(by rw[nx];exact f3),(by first|rfl|exact f4|(simp only[upd_apply];rfl)|(show I64 _=_;congr 1;omega)),(by first|rfl|exact f5|(simp only[upd_apply];rfl)|(show I64 _=_;congr 1;omega)),(by first|rfl|exact f6|(simp only[upd_apply];rfl)|(show I64 _=_;congr 1;omega)),(by first|rfl|exact f12|(simp only[upd_apply];rfl)|(show I64 _=_;congr 1;omega)),(by first|rfl|exact f13|(simp only[upd_apply];rfl)|(show I64 _=_;congr 1;omega)),(by first|rfl|exact f17|(simp only[upd_apply];rfl)|(show I64 _=_;congr 1;omega)),(by first|rfl|exact f18|(simp only[upd_apply];rfl)|(show I64 _=_;congr 1;omega)),(by first|rfl|exact f22|(simp only[upd_apply];rfl)|(show I64 _=_;congr 1;omega)),(by first|rfl|exact f23|(simp only[upd_apply];rfl)|(show I64 _=_;congr 1;omega)),(pp.trans p56),hp,g4,(by rw[nx];exact r),(by rw[nx];exact fun j hj=>Nat.lt_of_lt_of_le (hB j hj) l56),(by omega)⟩
    rw[if_neg hs] at nx
    ((try simp (maxSteps:=3000000) (dsimp:=false) (disch:=first|omega|simp only[lnx];omega) only[↓ypre,ypost,↓reduceIte,reduceEqDiff,reduceAdd,reduceSub,reduceLeDiff,zz0,ynew,f1,f3,f4,f5,f6,f7,f12,f13,f17,f18,f22,f23,f30,f35,decide_eq_true (show lsX x a b c≠wnX x a b c from hs),fillL,zrep,wrap64_in]);try simp only[yback])
    generalize hH7:AH.new H6 _=H7
    obtain⟨g7,p7,n7⟩:=new_facts hH7
    have rk:=get_lt r.get
    have q7:Lst H7 H6.length [(a:Int),b,c] true:=g7
    refine rowd_app (r.pre p7) (by omega) (by have:=pp.length_le;omega) (by omega) (fun j hj=>by have:=hB j hj;omega) q7 fun HZ lZ kZ rZ=>?_
    have hne:∀ m bl,H7.get m=some bl→bl.e≠27→m≠kb:=fun m bl g hb=>by
     rintro rfl
     have:=pre_get p7 r.get
     rw[this] at g
     cases g
     exact hb rfl
    have hp:=kZ.get (hne _ _ (pre_get p7 hp) (by simp)) (pre_get p7 hp)
    have g4:=kZ.get (hne _ _ (pre_get p7 g4) (by simp)) (pre_get p7 g4)
    have ppZ:=kZ.pre (pp.trans (p56.trans p7)) rlow
    have hB2:∀ j,j<(wrS x J K e++[[(a:Int),b,c]]).length→(if j<(wrS x J K e).length then B j else H6.length)<HZ.length:=fun j hj=>by
     split
     ·rename_i hjr
      have:=hB j hjr
      omega
     ·omega
    ((try simp (maxSteps:=3000000) (dsimp:=false) (disch:=first|omega|simp only[lnx];omega) only[↓ypre,ypost,↓reduceIte,reduceEqDiff,reduceAdd,reduceSub,reduceLeDiff,zz0,ynew,f1,f3,f4,f5,f6,f7,f12,f13,f17,f18,f22,f23,f30,f35,wrap64_in]);try simp only[yback])
    refine InvQ_go (K-(c+1)) (by omega) ⟨(c+1),(e+1),(H7.length+1),false,_,_,rfl,by omega,(by first|rfl|exact f1|(simp only[upd_apply];rfl)|(show I64 _=_;congr 1;omega)),(by rw[nx];rfl),(by first|rfl|exact f4|(simp only[upd_apply];rfl)|(show I64 _=_;congr 1;omega)),(by first|rfl|exact f5|(simp only[upd_apply];rfl)|(show I64 _=_;congr 1;omega)),(by first|rfl|exact f6|(simp only[upd_apply];rfl)|(show I64 _=_;congr 1;omega)),(by first|rfl|exact f12|(simp only[upd_apply];rfl)|(show I64 _=_;congr 1;omega)),(by first|rfl|exact f13|(simp only[upd_apply];rfl)|(show I64 _=_;congr 1;omega)),(by first|rfl|exact f17|(simp only[upd_apply];rfl)|(show I64 _=_;congr 1;omega)),(by first|rfl|exact f18|(simp only[upd_apply];rfl)|(show I64 _=_;congr 1;omega)),(by first|rfl|exact f22|(simp only[upd_apply];rfl)|(show I64 _=_;congr 1;omega)),(by first|rfl|exact f23|(simp only[upd_apply];rfl)|(show I64 _=_;congr 1;omega)),ppZ,hp,g4,(by rw[nx];exact rZ),(by rw[nx];exact hB2),(by omega)⟩
   ·have ec:c=K:=by omega
    ((try simp (maxSteps:=3000000) (dsimp:=false) (disch:=first|omega|simp only[lnx];omega) only[↓ypre,ypost,↓reduceIte,reduceEqDiff,reduceAdd,reduceSub,reduceLeDiff,zz0,ynew,f1,f3,f4,f5,f6,f12,f13,f17,f18,f22,f23,decide_eq_false hlc,wrap64_in]);try simp only[yback])
    refine InvQ_go (J-(b+1)) (by omega) ⟨(b+1),e,kb,fu,B,cs,rfl,by omega,(by first|rfl|exact f1|(simp only[upd_apply];rfl)|(show I64 _=_;congr 1;omega)),(by first|rfl|exact f3|(simp only[upd_apply];rfl)|(show I64 _=_;congr 1;omega)),(by first|rfl|exact f4|(simp only[upd_apply];rfl)|(show I64 _=_;congr 1;omega)),(by first|rfl|exact f5|(simp only[upd_apply];rfl)|(show I64 _=_;congr 1;omega)),(by first|rfl|exact f12|(simp only[upd_apply];rfl)|(show I64 _=_;congr 1;omega)),(by first|rfl|exact f13|(simp only[upd_apply];rfl)|(show I64 _=_;congr 1;omega)),(by first|rfl|exact f17|(simp only[upd_apply];rfl)|(show I64 _=_;congr 1;omega)),(by first|rfl|exact f18|(simp only[upd_apply];rfl)|(show I64 _=_;congr 1;omega)),pp,hp,g4,r,hB,(by rw[he,ec,Nat.add_mul,Nat.one_mul];omega)⟩
  ·have ebJ:b=J:=by omega
   ((try simp (maxSteps:=3000000) (dsimp:=false) (disch:=first|omega|simp only[lnx];omega) only[↓ypre,ypost,↓reduceIte,reduceEqDiff,reduceAdd,reduceSub,reduceLeDiff,zz0,ynew,f1,f3,f4,f5,f12,f13,f17,f18,decide_eq_false hlb,wrap64_in]);try simp only[yback])
   refine InvQ_go (I-(a+1)) (by omega) ⟨(a+1),e,kb,fu,B,cs,rfl,by omega,(by first|rfl|exact f1|(simp only[upd_apply];rfl)|(show I64 _=_;congr 1;omega)),(by first|rfl|exact f3|(simp only[upd_apply];rfl)|(show I64 _=_;congr 1;omega)),(by first|rfl|exact f4|(simp only[upd_apply];rfl)|(show I64 _=_;congr 1;omega)),(by first|rfl|exact f12|(simp only[upd_apply];rfl)|(show I64 _=_;congr 1;omega)),(by first|rfl|exact f13|(simp only[upd_apply];rfl)|(show I64 _=_;congr 1;omega)),pp,hp,g4,r,hB,(by rw[he,ebJ,Nat.add_mul,Nat.one_mul])⟩
 ·have eaI:a=I:=by omega
  ((try simp (maxSteps:=3000000) (dsimp:=false) (disch:=first|omega|simp only[lnx];omega) only[↓ypre,ypost,↓reduceIte,reduceEqDiff,reduceAdd,reduceSub,reduceLeDiff,zz0,ynew,f1,f3,f4,f12,f13,decide_eq_false hla]);try simp only[yback])
  rw[he,eaI] at r ⊢
  exact hQ kb fu B cs _ pp r
theorem rowd_appB {lo kb b:Nat} {H:AH} {fu f ro fz:Bool} {e':TypeId} {rows:List (List Int)} {l:List Int} {B:Nat→Nat} {cs:List Value} (r:RowD lo H kb fu rows B cs) (hl:rows.length≤100000) (hb:lo≤b) (hkb:b≠kb)
  (hB:∀ i,i<rows.length→B i<b) (hx:Lst H b l f) {Q:Value→AH→Prop}
  (hQ:∀ H':AH,H'.length=H.length+2→Kp kb H H'→RowD lo H' (H.length+1) false (rows++[l]) (fun i=>if i<rows.length then B i else b) (cs++[sl b l.length])→Q (sl (H.length+1) (rows++[l]).length) H') :
  OQ (appV 27 1 24 (sl kb rows.length) (.slice (some ⟨H.length,0,none⟩) 1 1) (H.new ⟨[sl b l.length],e',ro,fz⟩)) Q:=by
 have hn:(H.new ⟨[sl b l.length],e',ro,fz⟩).rdn H.length 0 1=some [sl b l.length]:=by rw[rdn_new_same];rfl
 have hk:(H.new ⟨[sl b l.length],e',ro,fz⟩).get kb=some ⟨cs,27,false,fu⟩:=get_new_any r.get
 have hkl:=get_lt r.get
 have hbl:=get_lt hx
 unfold sl
 unfold sl at hn hk
 rw[app_ownW (n:=rows.length) hk (by rw[r.len,Nat.mul_one]) hn (by omega),OQ_some,len_new]
 have kk:Kp kb H (((H.new ⟨[sl b l.length],e',ro,fz⟩).kill kb).new ⟨cs++[sl b l.length],27,false,false⟩):=⟨by rw[len_new,len_kill,len_new];omega,fun j hj hne=>by
   rw[show (((H.new ⟨[sl b l.length],e',ro,fz⟩).kill kb).new ⟨cs++[sl b l.length],27,false,false⟩).get j=((H.new ⟨[sl b l.length],e',ro,fz⟩).kill kb).get j from prefix_get (pre_new (List.prefix_refl _)) (by rw[len_kill,len_new];omega),get_kill_ne (Ne.symm hne)]
   exact prefix_get (pre_new (List.prefix_refl _)) hj⟩
 have:=hQ _ (by rw[len_new,len_kill,len_new]) kk ⟨get_new_eq (by rw[len_kill,len_new]),by simp[r.len],by have:=r.low;omega,fun i hi=>?_,fun i j hij hj=>?_⟩
 ·unfold sl at this
  rw[List.length_append,List.length_singleton] at this
  exact this
 ·by_cases h:i<rows.length
  ·obtain⟨h1,h2,⟨g,h3⟩,h4⟩:=r.row i h
   have lb:=get_lt h3
   simp only[if_pos h]
   refine⟨h1,?_,⟨g,?_⟩,by omega⟩
   ·rw[getD_snocD,if_pos (by rw[r.len];exact h),h2,getD_snocD,if_pos h]
   ·rw[getD_snocD,if_pos h]
    exact kk.get h4 h3
  ·have e:i=rows.length:=by simp at hi;omega
   subst e
   simp only[if_neg h]
   refine⟨hb,?_,⟨f,?_⟩,by omega⟩
   ·rw[getD_snocD,if_neg (by rw[r.len];omega),if_pos r.len.symm,getD_snocD,if_neg (by omega),if_pos rfl]
   ·rw[getD_snocD,if_neg (by omega),if_pos rfl]
    exact kk.get hkb hx
 ·simp only[List.length_append,List.length_singleton] at hj
  by_cases h:j<rows.length
  ·simp only[if_pos h,if_pos (show i<rows.length by omega)]
   exact r.inc i j hij h
  ·simp only[if_neg h,if_pos (show i<rows.length by omega)]
   exact hB i (by omega)
theorem flF_len {L:List (List Int)} {i k:Nat}:∀ {r:Nat},(flF L i k r).length≤r
 | 0=>Nat.le_refl _
 | r+1=>by
  have:=flF_len (L:=L) (i:=i) (k:=k) (r:=r)
  unfold flF
  rw[List.length_append]
  split<;>simp<;>omega
theorem flK_len {L:List (List Int)} {i:Nat}:∀ {k:Nat},(flK L i k).length≤3*k
 | 0=>Nat.le_refl _
 | k+1=>by
  have:=flK_len (L:=L) (i:=i) (k:=k)
  have h3:=flF_len (L:=L) (i:=i) (k:=k) (r:=3)
  unfold flK
  rw[List.length_append]
  split
  ·simp;omega
  ·omega
theorem flI_len {L:List (List Int)}:∀ {i:Nat},(flI L i).length≤3*L.length*i
 | 0=>Nat.le_refl _
 | i+1=>by
  have:=flI_len (L:=L) (i:=i)
  have h3:=flK_len (L:=L) (i:=i) (k:=L.length)
  unfold flI
  rw[List.length_append,Nat.mul_succ]
  omega
theorem s_l03Flips {x:Sch} {v:Value} {h:AH} {Q:Value→AH→Prop} (hv:Prods h v x.ps) (hl:x.ps.length≤30)
  (hQ:∀ kb fu B cs h',h<+:h'→RowD (h.length+1) h' kb fu (flI x.ps x.ps.length) B cs→Q (sl kb (flI x.ps x.ps.length).length) h'):WF S 156 [schV x v] h Q:=by
 refine WF_fn (fn:=c156) rfl rfl ?_
 dsimp only[c156,oO,oM,oS,oG,oK,oE,oL,oF,oX,oN]
 have o1:=hv.one
 have vl:=hv.1.len
 ((try simp (maxSteps:=3000000) (dsimp:=false) (disch:=first|omega|simp only[lnx];omega) only[↓ypre,ypost,↓reduceIte,reduceEqDiff,reduceAdd,reduceSub,reduceLeDiff,zz0,ynew,schV,o1,fillL,zrep]);try simp only[yback])
 generalize hH1:AH.new h _=H1
 obtain⟨hb1,p1,n1⟩:=new_facts hH1
 generalize hH2:AH.new H1 _=H2
 obtain⟨hb2,p2,n2⟩:=new_facts hH2
 have hb1:=pre_get p2 hb1
 have r0:RowD (h.length+1) H2 H1.length true [] (fun _=>0) []:=⟨hb2,rfl,by omega,fun i hi=>by simp at hi,fun i j _ hj=>by simp at hj⟩
 refine WC_loop_inv (fun m f K1=>∃ (i:Nat) (kb:Nat) (fu:Bool) (B:(Nat→Nat)) (cs:List Value),m=x.ps.length-i∧i≤x.ps.length∧f 1=.pointer (some ⟨h.length,0,none⟩)∧f 3=sl kb (flI x.ps i).length∧f 4=I64 i∧(h<+:K1)∧(OwnB K1 h.length [I64 x.p,I64 x.n,I64 x.m,I64 x.k,v] true)∧(RowD (h.length+1) K1 kb fu (flI x.ps i) B cs)∧(∀ j,j<(flI x.ps i).length→B j<K1.length)) ?_ (x.ps.length-0) _ _ ⟨0,H1.length,true,(fun _=>0),[],rfl,by omega,(by first|rfl|simp[upd_apply]),(by first|rfl|simp[upd_apply]),(by first|rfl|simp[upd_apply]),p1.trans p2,⟨_,hb1⟩,r0,(fun j hj=>by simp[flI] at hj)⟩
 rintro m f K1 ⟨i,kb,fu,B,cs,rfl,hi,f1,f3,f4,pp,g1,r,hB⟩
 obtain⟨e1,g1⟩:=g1
 by_cases hi:(i:Int)<x.ps.length
 ·((try simp (maxSteps:=3000000) (dsimp:=false) (disch:=first|omega|simp only[lnx];omega) only[↓ypre,ypost,↓reduceIte,reduceEqDiff,reduceAdd,reduceSub,reduceLeDiff,zz0,ynew,f1,f3,f4,rd1_of g1,vl,decide_eq_true hi]);try simp only[yback])
  have z0:flI x.ps i++flK x.ps i 0=flI x.ps i:=by rw[show flK x.ps i 0=[] from rfl,List.append_nil]
  have f3:f 3=sl kb (flI x.ps i++flK x.ps i 0).length:=by rw[z0];exact f3
  refine WC_loop_inv (fun m f K2=>∃ (k:Nat) (kb:Nat) (fu:Bool) (B:(Nat→Nat)) (cs:List Value),m=x.ps.length-k∧k≤x.ps.length∧f 1=.pointer (some ⟨h.length,0,none⟩)∧f 3=sl kb (flI x.ps i++flK x.ps i k).length∧f 4=I64 i∧f 5=I64 k∧(h<+:K2)∧(OwnB K2 h.length [I64 x.p,I64 x.n,I64 x.m,I64 x.k,v] true)∧(RowD (h.length+1) K2 kb fu (flI x.ps i++flK x.ps i k) B cs)∧(∀ j,j<(flI x.ps i++flK x.ps i k).length→B j<K2.length)) ?_ (x.ps.length-0) _ _ ⟨0,kb,fu,B,cs,rfl,by omega,(by first|rfl|exact f1|(simp[upd_apply];done)),(by first|rfl|exact f3|(simp[upd_apply];done)),(by first|rfl|exact f4|(simp[upd_apply];done)),(by first|rfl|simp[upd_apply]),pp,⟨_,g1⟩,(by rw[show flK x.ps i 0=[] from rfl,List.append_nil];exact r),(by rw[show flK x.ps i 0=[] from rfl,List.append_nil];exact hB)⟩
  rintro m f K2 ⟨k,kb,fu,B,cs,rfl,hk,f1,f3,f4,f5,pp,g1,r,hB⟩
  obtain⟨e1',g1⟩:=g1
  by_cases hk:(k:Int)<x.ps.length
  ·((try simp (maxSteps:=3000000) (dsimp:=false) (disch:=first|omega|simp only[lnx];omega) only[↓ypre,ypost,↓reduceIte,reduceEqDiff,reduceAdd,reduceSub,reduceLeDiff,zz0,ynew,f1,f3,f4,f5,rd1_of g1,vl,decide_eq_true hk]);try simp only[yback])
   have z1:flI x.ps i++flK x.ps i k++(if i=k then [] else flF x.ps i k 0)=flI x.ps i++flK x.ps i k:=by rw[show (if i=k then [] else flF x.ps i k 0)=[] from by split<;>rfl,List.append_nil]
   have f3:f 3=sl kb (flI x.ps i++flK x.ps i k++(if i=k then [] else flF x.ps i k 0)).length:=by rw[z1];exact f3
   refine WC_loop_inv (fun m f K3=>∃ (u:Nat) (kb:Nat) (fu:Bool) (B:(Nat→Nat)) (cs:List Value),m=3-u∧u≤3∧f 1=.pointer (some ⟨h.length,0,none⟩)∧f 3=sl kb (flI x.ps i++flK x.ps i k++(if i=k then [] else flF x.ps i k u)).length∧f 4=I64 i∧f 5=I64 k∧f 6=I64 u∧(h<+:K3)∧(OwnB K3 h.length [I64 x.p,I64 x.n,I64 x.m,I64 x.k,v] true)∧(RowD (h.length+1) K3 kb fu (flI x.ps i++flK x.ps i k++(if i=k then [] else flF x.ps i k u)) B cs)∧(∀ j,j<(flI x.ps i++flK x.ps i k++(if i=k then [] else flF x.ps i k u)).length→B j<K3.length)) ?_ (3-0) _ _ ⟨0,kb,fu,B,cs,rfl,by omega,(by first|rfl|exact f1|(simp[upd_apply];done)),(by first|rfl|exact f3|(simp[upd_apply];done)),(by first|rfl|exact f4|(simp[upd_apply];done)),(by first|rfl|exact f5|(simp[upd_apply];done)),(by first|rfl|simp[upd_apply]),pp,⟨_,g1⟩,(by rw[show (if i=k then [] else flF x.ps i k 0)=[] from by split<;>rfl,List.append_nil];exact r),(by rw[show (if i=k then [] else flF x.ps i k 0)=[] from by split<;>rfl,List.append_nil];exact hB)⟩
   rintro m f K3 ⟨u,kb,fu,B,cs,rfl,hu,f1,f3,f4,f5,f6,pp,g1,r,hB⟩
   obtain⟨e1'',g1⟩:=g1
   by_cases hu:(u:Int)<3
   ·by_cases hik:i=k
    ·have en:flK x.ps i (k+1)=flK x.ps i k:=by rw[show flK x.ps i (k+1)=flK x.ps i k++(if i=k then [] else flF x.ps i k 3) from rfl,if_pos hik,List.append_nil]
     rw[if_pos hik,List.append_nil] at r hB f3
     ((try simp (maxSteps:=3000000) (dsimp:=false) (disch:=first|omega|simp only[lnx];omega) only[↓ypre,ypost,↓reduceIte,reduceEqDiff,reduceAdd,reduceSub,reduceLeDiff,zz0,ynew,f1,f3,f4,f5,f6,decide_eq_true hu,decide_eq_false (show ¬ (i:Int)≠k by omega),wrap64_in]);try simp only[yback])
     refine InvQ_go (x.ps.length-(k+1)) (by omega) ⟨(k+1),kb,fu,B,cs,rfl,by omega,(by first|rfl|exact f1|(simp only[upd_apply];rfl)|(show I64 _=_;congr 1;omega)),(by rw[en];exact f3),(by first|rfl|exact f4|(simp only[upd_apply];rfl)|(show I64 _=_;congr 1;omega)),(by first|rfl|exact f5|(simp only[upd_apply];rfl)|(show I64 _=_;congr 1;omega)),pp,⟨_,g1⟩,(by rw[en];exact r),(by rw[en];exact hB)⟩
    ·rw[if_neg hik] at r hB f3
     have hi':i<x.ps.length:=by omega
     have hk':k<x.ps.length:=by omega
     obtain⟨ni,oi,ixi,rdi⟩:=((hv.pre pp).1).at hi'
     have byi:By 27 (x.ps.getD i []):=⟨hv.1.wid hi',fun j hj=>hv.2 i hi' j hj⟩
     have byk:By 27 (x.ps.getD k []):=⟨hv.1.wid hk',fun j hj=>hv.2 k hk' j hj⟩
     have nx:flF x.ps i k (u+1)=flF x.ps i k u++(if seg (x.ps.getD i []) u=seg (x.ps.getD k []) u then [[(i:Int),k,u]] else []):=rfl
     have len1:=flI_len (L:=x.ps) (i:=i)
     have len2:=flK_len (L:=x.ps) (i:=i) (k:=k)
     have len3:=flF_len (L:=x.ps) (i:=i) (k:=k) (r:=u)
     have len4:3*x.ps.length*i≤3*30*30:=Nat.mul_le_mul (Nat.mul_le_mul (Nat.le_refl 3) hl) (by omega)
     generalize x.ps.getD i []=a at rdi byi nx
     have a27:=byi.1
     have ri:K3.rdn ni oi 27=some (cel .u8 a):=by
      have:=rdi.1 0 27 (by omega)
      rwa [Nat.add_zero,List.drop_zero,List.take_of_length_le (by omega)] at this
     ((try simp (maxSteps:=3000000) (dsimp:=false) (disch:=first|omega|simp only[lnx];omega) only[↓ypre,ypost,↓reduceIte,reduceEqDiff,reduceAdd,reduceSub,reduceLeDiff,zz0,ynew,f1,f3,f4,f5,f6,decide_eq_true hu,decide_eq_true (show (i:Int)≠k by omega),rd1_of g1,ixi,ri]);try simp only[yback])
     refine s_l03Factor (q:=a) byi (by omega) fun K4 p4=>⟨p4,?_⟩
     have g1:=pre_get p4 g1
     have r:=r.pre p4
     have l4:=pre_len p4
     obtain⟨nk,ok,ixk,rdk⟩:=((hv.pre (pp.trans p4)).1).at hk'
     generalize x.ps.getD k []=b at rdk byk nx
     have b27:=byk.1
     have rk:AH.rdn K4 nk ok 27=some (cel .u8 b):=by
      have:=rdk.1 0 27 (by omega)
      rwa [Nat.add_zero,List.drop_zero,List.take_of_length_le (by omega)] at this
     ((try simp (maxSteps:=3000000) (dsimp:=false) (disch:=first|omega|simp only[lnx];omega) only[↓ypre,ypost,↓reduceIte,reduceEqDiff,reduceAdd,reduceSub,reduceLeDiff,zz0,ynew,f1,f3,f4,f5,f6,rd1_of g1,ixk,rk]);try simp only[yback])
     refine s_l03Factor (q:=b) byk (by omega) fun K5 p5=>?_
     have g1:=pre_get p5 g1
     have r:=r.pre p5
     have l5:=pre_len p5
     have ea:=eqaV_cel (k:=.u8) (seg_n9 a27 (show u<3 by omega)) (seg_n9 b27 (show u<3 by omega)) (by omega)
     have p45:=p4.trans p5
     by_cases hs:seg a u=seg b u
     ·have hb:(seg a u==seg b u)=true:=by rw[hs];simp
      rw[if_pos hs] at nx
      ((try simp (maxSteps:=3000000) (dsimp:=false) (disch:=first|omega|simp only[lnx];omega) only[↓ypre,ypost,↓reduceIte,reduceEqDiff,reduceAdd,reduceSub,reduceLeDiff,zz0,ynew,f1,f3,f4,f5,f6,aggV,ea,hb,fillL,zrep]);try simp only[yback])
      generalize hH7:AH.new K5 _=H7
      obtain⟨g7,p7,n7⟩:=new_facts hH7
      have rk':=get_lt r.get
      have rlow:=r.low
      have q7:Lst H7 K5.length [(i:Int),k,u] true:=g7
      refine rowd_appB (r.pre p7) (by rw[List.length_append,List.length_append];omega) (by have:=pp.length_le;have:=pre_len p45;omega) (by omega) (fun j hj=>by have:=hB j hj;have:=pre_len p45;omega) q7 fun HZ lZ kZ rZ=>?_
      have g1Z:=kZ.get (by omega) (pre_get p7 g1)
      have nxx:flI x.ps i++flK x.ps i k++flF x.ps i k (u+1)=flI x.ps i++flK x.ps i k++flF x.ps i k u++[[(i:Int),k,u]]:=by rw[nx];simp only[List.append_assoc]
      have hB2:∀ j,j<(flI x.ps i++flK x.ps i k++flF x.ps i k u++[[(i:Int),k,u]]).length→(if j<(flI x.ps i++flK x.ps i k++flF x.ps i k u).length then B j else K5.length)<HZ.length:=fun j hj=>by
       split
       ·rename_i hjr
        have:=hB j hjr
        have:=pre_len p45
        omega
       ·omega
      ((try simp (maxSteps:=3000000) (dsimp:=false) (disch:=first|omega|simp only[lnx];omega) only[↓ypre,ypost,↓reduceIte,reduceEqDiff,reduceAdd,reduceSub,reduceLeDiff,zz0,ynew,f1,f3,f4,f5,f6,wrap64_in]);try simp only[yback])
      refine InvQ_go (3-(u+1)) (by omega) ⟨(u+1),(H7.length+1),false,_,_,rfl,by omega,(by first|rfl|exact f1|(simp only[upd_apply];rfl)|(show I64 _=_;congr 1;omega)),(by rw[if_neg hik,nxx];rfl),(by first|rfl|exact f4|(simp only[upd_apply];rfl)|(show I64 _=_;congr 1;omega)),(by first|rfl|exact f5|(simp only[upd_apply];rfl)|(show I64 _=_;congr 1;omega)),(by first|rfl|exact f6|(simp only[upd_apply];rfl)|(show I64 _=_;congr 1;omega)),(kZ.pre (pp.trans (p45.trans p7)) (by omega)),⟨_,g1Z⟩,(by rw[if_neg hik,nxx];exact rZ),(by rw[if_neg hik,nxx];exact hB2)⟩
     ·have hb:(seg a u==seg b u)=false:=by simpa using hs
      rw[if_neg hs,List.append_nil] at nx
      ((try simp (maxSteps:=3000000) (dsimp:=false) (disch:=first|omega|simp only[lnx];omega) only[↓ypre,ypost,↓reduceIte,reduceEqDiff,reduceAdd,reduceSub,reduceLeDiff,zz0,ynew,f1,f3,f4,f5,f6,aggV,ea,hb,wrap64_in]);try simp only[yback])
      refine InvQ_go (3-(u+1)) (by omega) ⟨(u+1),kb,fu,B,cs,rfl,by omega,(by first|rfl|exact f1|(simp only[upd_apply];rfl)|(show I64 _=_;congr 1;omega)),(by rw[if_neg hik,nx];exact f3),(by first|rfl|exact f4|(simp only[upd_apply];rfl)|(show I64 _=_;congr 1;omega)),(by first|rfl|exact f5|(simp only[upd_apply];rfl)|(show I64 _=_;congr 1;omega)),(by first|rfl|exact f6|(simp only[upd_apply];rfl)|(show I64 _=_;congr 1;omega)),(pp.trans p45),⟨_,g1⟩,(by rw[if_neg hik,nx];exact r),(by rw[if_neg hik,nx];exact fun j hj=>Nat.lt_of_lt_of_le (hB j hj) (Nat.le_trans l4 l5))⟩
   ·have eu:u=3:=by omega
    subst eu
    have en:flI x.ps i++flK x.ps i (k+1)=flI x.ps i++flK x.ps i k++(if i=k then [] else flF x.ps i k 3):=by rw[List.append_assoc];rfl
    ((try simp (maxSteps:=3000000) (dsimp:=false) (disch:=first|omega|simp only[lnx];omega) only[↓ypre,ypost,↓reduceIte,reduceEqDiff,reduceAdd,reduceSub,reduceLeDiff,zz0,ynew,f1,f3,f4,f5,f6,decide_eq_false hu,wrap64_in]);try simp only[yback])
    refine InvQ_go (x.ps.length-(k+1)) (by omega) ⟨(k+1),kb,fu,B,cs,rfl,by omega,(by first|rfl|exact f1|(simp only[upd_apply];rfl)|(show I64 _=_;congr 1;omega)),(by rw[en];exact f3),(by first|rfl|exact f4|(simp only[upd_apply];rfl)|(show I64 _=_;congr 1;omega)),(by first|rfl|exact f5|(simp only[upd_apply];rfl)|(show I64 _=_;congr 1;omega)),pp,⟨_,g1⟩,(by rw[en];exact r),(by rw[en];exact hB)⟩
  ·have _t:=hk
   ((try simp (maxSteps:=3000000) (dsimp:=false) (disch:=first|omega|simp only[lnx];omega) only[↓ypre,ypost,↓reduceIte,reduceEqDiff,reduceAdd,reduceSub,reduceLeDiff,zz0,ynew,f1,f3,f4,f5,rd1_of g1,vl,decide_eq_false hk,wrap64_in]);try simp only[yback])
   have ek:k=x.ps.length:=by omega
   subst ek
   refine InvQ_go (x.ps.length-(i+1)) (by omega) ⟨(i+1),kb,fu,B,cs,rfl,by omega,(by first|rfl|exact f1|(simp only[upd_apply];rfl)|(show I64 _=_;congr 1;omega)),(by first|rfl|exact f3|(simp only[upd_apply];rfl)|(show I64 _=_;congr 1;omega)),(by first|rfl|exact f4|(simp only[upd_apply];rfl)|(show I64 _=_;congr 1;omega)),pp,⟨_,g1⟩,r,hB⟩
 ·have ei:i=x.ps.length:=by omega
  subst ei
  ((try simp (maxSteps:=3000000) (dsimp:=false) (disch:=first|omega|simp only[lnx];omega) only[↓ypre,ypost,↓reduceIte,reduceEqDiff,reduceAdd,reduceSub,reduceLeDiff,zz0,ynew,f1,f3,f4,rd1_of g1,vl,decide_eq_false hi]);try simp only[yback])
  exact hQ kb fu B cs _ pp r
end Go.Proofs.Ytapafdpnmakekaa.X

set_option linter.unusedVariables false
set_option linter.unusedSimpArgs false
set_option maxRecDepth 20000
set_option maxHeartbeats 4000000
namespace Go.Proofs.Ytapafdpnmakekaa.X
open Go Go.RowKit
def Twgs (h:AH) (v:Value) (L:List (List Int)):Prop:=Els .u8 108 h v L∧Byt 108 L
def InB (a b:Nat) (h:AH) (v:Value) (L:List (List Int)):Prop:=InE .u8 108 a b h v L∧Byt 108 L
section
variable {a b c d:Nat} {h h':AH} {v:Value} {L:List (List Int)}
theorem Twgs.pre (o:Twgs h v L) (p:h<+:h'):Twgs h' v L:=⟨o.1.pre p,o.2⟩
theorem Twgs.one (o:Twgs h v L):isOne v=true:=o.1.one
theorem InB.rd (o:InB a b h v L):Twgs h v L:=⟨o.1.rd,o.2⟩
theorem InB.pre (o:InB a b h v L) (p:h<+:h'):InB a b h' v L:=⟨o.1.pre p,o.2⟩
end
def sg (q:List Int) (i:Nat):List Int:=(q.drop (i*36)).take 36
def zeroS:Sch:=⟨0,0,0,0,[]⟩
theorem zeroS_kn {lo:Nat} {h:AH}:KN lo h fun h2=>Prods h2 (.slice none 0 0) zeroS.ps:=fun h2 _ _=>⟨.inl ⟨rfl,0,by omega,rfl⟩,fun _ h=>by simp[zeroS] at h⟩
def like (x y:Sch):Prop:=x.p=y.p∧x.n=y.n∧x.m=y.m∧x.k=y.k
instance {x y:Sch}:Decidable (like x y):=by unfold like;infer_instance
end Go.Proofs.Ytapafdpnmakekaa.X

set_option linter.unusedVariables false
set_option linter.unusedSimpArgs false
set_option maxRecDepth 20000
set_option maxHeartbeats 4000000
namespace Go.Proofs.Ytapafdpnmakekaa.X
open Go Go.RowKit
open Nat (reduceEqDiff reduceAdd reduceSub reduceLeDiff)
theorem RowD.put {lo kb m:Nat} {H:AH} {fu:Bool} {rows:List (List Int)} {B:Nat→Nat} {cs:List Value} {b:Blk} (r:RowD lo H kb fu rows B cs) (hm:m≠kb) (hB:∀ i,i<rows.length→B i<m):RowD lo (H.put m b) kb fu rows B cs:=
 ⟨by rw[get_put_ne hm];exact r.get,r.len,r.low,fun i hi=>by
  obtain⟨h1,h2,⟨f,h3⟩,h4⟩:=r.row i hi
  have:=hB i hi
  exact⟨h1,h2,⟨f,by unfold Lst;rw[get_put_ne (by omega)];exact h3⟩,h4⟩,r.inc⟩
theorem len_slN {n I:Nat}:lenV (sl n I)=some (.int .i64 I):=rfl
def crR (x:Sch):Bool×Int:=if isX x=true then (decide (wrX x=[]),0) else (false,1)
theorem wr_dec {x:Sch}:decide (((wrX x).length:Int)=0)=decide (wrX x=[]):=by
 by_cases h:wrX x=[]
 ·rw[decide_eq_true h,h]
  rfl
 ·have:0<(wrX x).length:=List.length_pos_iff.2 h
  rw[decide_eq_false h,decide_eq_false (by omega)]
theorem i_IsCorrect {v:Value} {x:Sch} {h:AH} {Q:Value→AH→Prop} (hv:Prods h v x.ps) (hl:SmallX x.ps)
  (hQ:∀ h',h<+:h'→Q (.tuple #[.bool (crR x).1,I64 (crR x).2]) h'):WF S 17 [schV x v] h Q:=by
 refine WF_fn (fn:=c17) rfl rfl ?_
 dsimp only[c17,oO,oM,oS,oG,oK,oE,oL,oF,oX,oN]
 have o1:=hv.one
 ((try simp (maxSteps:=3000000) (dsimp:=false) (disch:=first|omega|simp only[lnx];omega) only[↓ypre,ypost,↓reduceIte,reduceEqDiff,reduceAdd,reduceSub,reduceLeDiff,zz0,ynew,schV,o1]);try simp only[yback])
 generalize hH1:AH.new h _=H1
 obtain⟨hb1,p1,n1⟩:=new_facts hH1
 ((try simp (maxSteps:=3000000) (dsimp:=false) (disch:=first|omega|simp only[lnx];omega) only[↓ypre,ypost,↓reduceIte,reduceEqDiff,reduceAdd,reduceSub,reduceLeDiff,zz0,ynew,rdn_of hb1]);try simp only[yback])
 refine i_IsScheme (x:=x) (hv.pre p1) hl fun H2 p2=>?_
 have g2:=pre_get p2 hb1
 by_cases hx:isX x=true
 case neg=>
  ((try simp (maxSteps:=3000000) (dsimp:=false) (disch:=first|omega|simp only[lnx];omega) only[↓ypre,ypost,↓reduceIte,reduceEqDiff,reduceAdd,reduceSub,reduceLeDiff,zz0,ynew,hx]);try simp only[yback])
  have e:crR x=(false,1):=if_neg hx
  rw[e] at hQ
  exact hQ _ (p1.trans p2)
 have e:crR x=(decide (wrX x=[]),0):=if_pos hx
 rw[e] at hQ
 ((try simp (maxSteps:=3000000) (dsimp:=false) (disch:=first|omega|simp only[lnx];omega) only[↓ypre,ypost,↓reduceIte,reduceEqDiff,reduceAdd,reduceSub,reduceLeDiff,zz0,ynew,hx,rdn_of g2]);try simp only[yback])
 refine i_wrong (x:=x) (hv.pre (p1.trans p2)) hx fun kb fu B cs H3 p3 r=>?_
 ((try simp (maxSteps:=3000000) (dsimp:=false) (disch:=first|omega|simp only[lnx];omega) only[↓ypre,ypost,↓reduceIte,reduceEqDiff,reduceAdd,reduceSub,reduceLeDiff,zz0,ynew,len_slN,wr_dec]);try simp only[yback])
 exact hQ _ (p1.trans (p2.trans p3))
def pvF (p:Int) (row:List Int) (R:List (List Int)) (l:Nat):Nat→Int
 | 0=>0
 | j+1=>(pvF p row R l j+row.getD j 0*(R.getD j []).getD l 0).tmod p
def ppF (p:Int) (L R:List (List Int)) (k:Nat):List (List Int):=(List.range L.length).map fun i=>gen k fun l=>pvF p (L.getD i []) R l R.length
def ppN (p:Int) (L R:List (List Int)) (k:Nat) (i:Nat):List (List Int):=(List.range i).map fun i=>gen k fun l=>pvF p (L.getD i []) R l R.length
theorem ppN_len {p:Int} {L R:List (List Int)} {k i:Nat}:(ppN p L R k i).length=i:=by simp[ppN]
theorem ppN_next {p:Int} {L R:List (List Int)} {k i:Nat}:ppN p L R k (i+1)=ppN p L R k i++[gen k fun l=>pvF p (L.getD i []) R l R.length]:=by
 simp[ppN,List.range_succ]
structure PM (p:Int) (L R:List (List Int)) (k:Nat):Prop where
 pr:isP p=true
 bn:1≤L.length∧L.length≤3
 bm:1≤R.length∧R.length≤3
 bk:1≤k∧k≤3
 hL:isMat p R.length L=true
 hR:isMat p k R=true
 k0:(R.getD 0 []).length=k
def ppOK (p:Int) (L R:List (List Int)):Bool:=isP p&&(decide (1≤L.length∧L.length≤3)&&(decide (1≤R.length∧R.length≤3)&&(decide (1≤(R.getD 0 []).length∧(R.getD 0 []).length≤3)&&(isMat p R.length L&&isMat p (R.getD 0 []).length R))))
theorem ppOK_iff {p:Int} {L R:List (List Int)}:ppOK p L R=true↔PM p L R (R.getD 0 []).length:=by
 unfold ppOK
 simp only[Bool.and_eq_true,decide_eq_true_eq]
 constructor
 ·rintro⟨h1,h2,h3,h4,h5,h6⟩
  exact⟨h1,h2,h3,h4,h5,h6,rfl⟩
 ·rintro⟨h1,h2,h3,h4,h5,h6,_⟩
  exact⟨h1,h2,h3,h4,h5,h6⟩
def ppR (p:Int) (L R:List (List Int)):List (List Int)×Int:=if ppOK p L R=true then (ppF p L R (R.getD 0 []).length,0) else ([],2)
theorem pv_in {p:Int} {L R:List (List Int)} {k i l:Nat} (pm:PM p L R k) (hi:i<L.length) (hl:l<k):∀ {j:Nat},j≤R.length→0≤pvF p (L.getD i []) R l j∧pvF p (L.getD i []) R l j<p
 | 0,_=>by
  have:=isP_in pm.pr
  unfold pvF
  omega
 | j+1,hj=>by
  have hp:=isP_in pm.pr
  have ih:=pv_in pm hi hl (j:=j) (by omega)
  obtain⟨m1,m2⟩:=isMat_iff.1 pm.hL i hi
  obtain⟨r1,r2⟩:=isMat_iff.1 pm.hR j (by omega)
  have a:=allIn_iff.1 m2 j (by omega)
  have b:=allIn_iff.1 r2 l (by omega)
  have m:=mul_in (A:=4) (B:=4) (a:=(L.getD i []).getD j 0) (b:=(R.getD j []).getD l 0) (by omega) (by omega)
  unfold pvF
  exact tmod_nn (by omega) (by omega)
theorem pv_step {p:Int} {L R:List (List Int)} {k i l j:Nat} (pm:PM p L R k) (hi:i<L.length) (hl:l<k) (hj:j<R.length) :
  (0≤(L.getD i []).getD j 0∧(L.getD i []).getD j 0≤4)∧(0≤(R.getD j []).getD l 0∧(R.getD j []).getD l 0≤4)∧(0≤(L.getD i []).getD j 0*(R.getD j []).getD l 0∧(L.getD i []).getD j 0*(R.getD j []).getD l 0≤4*4)∧(0≤pvF p (L.getD i []) R l j∧pvF p (L.getD i []) R l j≤4)∧(L.getD i []).length=R.length∧(R.getD j []).length=k:=by
 have hp:=isP_in pm.pr
 have ih:=pv_in pm hi hl (j:=j) (by omega)
 obtain⟨m1,m2⟩:=isMat_iff.1 pm.hL i hi
 obtain⟨r1,r2⟩:=isMat_iff.1 pm.hR j (by omega)
 have a:=allIn_iff.1 m2 j (by omega)
 have b:=allIn_iff.1 r2 l (by omega)
 have m:=mul_in (A:=4) (B:=4) (a:=(L.getD i []).getD j 0) (b:=(R.getD j []).getD l 0) (by omega) (by omega)
 refine⟨by omega,by omega,m,by omega,by omega,by omega⟩
theorem rd1_pre {h h':AH} {n o:Nat} {v:Value} (p:h<+:h') (e:h.rd1 n o=some v):h'.rd1 n o=some v:=by
 unfold AH.rd1 at e ⊢
 obtain⟨b,hb,hc⟩:=Option.bind_eq_some_iff.1 e
 rw[pre_get p hb]
 exact hc
theorem i_multiply {u z:Value} {p:Int} {L R:List (List Int)} {k:Nat} {h:AH} {Q:Value→AH→Prop} (hu:Rows h u L) (hz:Rows h z R) (pm:PM p L R k)
  (hQ:∀ v' h',h<+:h'→Rows h' v' (ppF p L R k)→Q v' h'):WF S 169 [I64 p,u,z] h Q:=by
 refine WF_fn (fn:=c169) rfl rfl ?_
 dsimp only[c169,oO,oM,oS,oG,oK,oE,oL,oF,oX,oN]
 have hp:=isP_in pm.pr
 have bn:=pm.bn
 have bm:=pm.bm
 have bk:=pm.bk
 ((try simp (maxSteps:=3000000) (dsimp:=false) (disch:=first|omega|simp only[lnx];omega) only[↓ypre,ypost,↓reduceIte,reduceEqDiff,reduceAdd,reduceSub,reduceLeDiff,zz0,ynew,hu.len,fillL,zrep]);try simp only[yback])
 generalize hH1:AH.new h _=H1
 obtain⟨hb1,p1,n1⟩:=new_facts hH1
 have r0:RowD h.length H1 h.length true (ppN p L R k 0) (fun _=>0) []:=⟨hb1,rfl,Nat.le_refl _,fun i hi=>by simp[ppN] at hi,fun i j _ hj=>by simp[ppN] at hj⟩
 ((try simp (maxSteps:=3000000) (dsimp:=false) (disch:=first|omega|simp only[lnx];omega) only[↓ypre,ypost,↓reduceIte,reduceEqDiff,reduceAdd,reduceSub,reduceLeDiff,zz0,ynew,hu.len]);try simp only[yback])
 refine WC_loop_inv (fun m f K1=>∃ (i:Nat) (kb:Nat) (fu:Bool) (B:(Nat→Nat)) (cs:List Value),m=L.length-i∧i≤L.length∧f 0=I64 p∧f 2=z∧f 7=sl kb i∧f 15=u∧f 16=I64 L.length∧f 17=I64 i∧(h<+:K1)∧(RowD h.length K1 kb fu (ppN p L R k i) B cs)∧(∀ j,j<i→B j<K1.length)) ?_ (L.length-0) _ _ ⟨0,h.length,true,(fun _=>0),[],rfl,by omega,(by first|rfl|simp[upd_apply]),(by first|rfl|simp[upd_apply]),(by first|rfl|simp[upd_apply]),(by first|rfl|simp[upd_apply]),(by first|rfl|simp[upd_apply]),(by first|rfl|simp[upd_apply]),p1,r0,(fun j hj=>by omega)⟩
 rintro m f K1 ⟨i,kb,fu,B,cs,rfl,hi,f0,f2,f7,f15,f16,f17,pp,r,hB⟩
 have hu1:=hu.pre pp
 have hz1:=hz.pre pp
 by_cases hli:(i:Int)<L.length
 ·obtain⟨m0,q0,y0,ix0,rd0,iy0⟩:=hz1.row (i:=0) (by omega)
  have ix0:ixsV 1 z (I64 0)=some (.pointer (some ⟨m0,q0,none⟩)):=ix0 .i64
  have l0:=iy0.len
  rw[pm.k0] at l0
  obtain⟨m1,q1,y1,ix1,rd1,iy1⟩:=hu.row (i:=i) (by omega)
  have rd1:=rd1_pre pp rd1
  ((try simp (maxSteps:=3000000) (dsimp:=false) (disch:=first|omega|simp only[lnx];omega) only[↓ypre,ypost,↓reduceIte,reduceEqDiff,reduceAdd,reduceSub,reduceLeDiff,zz0,ynew,f0,f2,f7,f15,f16,f17,decide_eq_true hli,ix1,rd1,ix0,rd0,l0,mks_gen (N:=k) (h:=K1) (by omega)]);try simp only[yback])
  generalize hH2:AH.new K1 _=H2
  obtain⟨g2,p2,n2⟩:=new_facts hH2
  have q2:Lst H2 K1.length (gen k fun l=>if l<0 then pvF p (L.getD i []) R l R.length else 0) true:=by
   have e:(gen k fun l=>if l<0 then pvF p (L.getD i []) R l R.length else 0)=gen k fun _=>0:=gen_congr fun c hc=>if_neg (by omega)
   rw[e]
   exact g2
  have rlow:=r.low
  have rlt:=get_lt r.get
  have iyL:=iy1.pre (pp.trans p2)
  ((try simp (maxSteps:=3000000) (dsimp:=false) (disch:=first|omega|simp only[lnx];omega) only[↓ypre,ypost,↓reduceIte,reduceEqDiff,reduceAdd,reduceSub,reduceLeDiff,zz0,ynew,f0,f2,f7,f15,f16,f17,len_slN]);try simp only[yback])
  refine WC_loop_inv (fun m f K2=>∃ (l:Nat),m=k-l∧l≤k∧f 0=I64 p∧f 2=z∧f 7=sl kb i∧f 9=y1∧f 10=sl K1.length k∧f 15=u∧f 16=I64 L.length∧f 17=I64 i∧f 27=I64 k∧f 28=I64 l∧(h<+:K2)∧(RowD h.length K2 kb fu (ppN p L R k i) B cs)∧(Ints K2 y1 (L.getD i []))∧(Lst K2 K1.length (gen k fun l'=>if l'<l then pvF p (L.getD i []) R l' R.length else 0) true)) ?_ (k-0) _ _ ⟨0,rfl,by omega,(by first|rfl|exact f0|(simp[upd_apply];done)),(by first|rfl|exact f2|(simp[upd_apply];done)),(by first|rfl|exact f7|(simp[upd_apply];done)),(by first|rfl|simp[upd_apply]),(by first|rfl|simp[upd_apply]),(by first|rfl|exact f15|(simp[upd_apply];done)),(by first|rfl|exact f16|(simp[upd_apply];done)),(by first|rfl|exact f17|(simp[upd_apply];done)),(by first|rfl|simp[upd_apply]),(by first|rfl|simp[upd_apply]),pp.trans p2,r.pre p2,iyL,q2⟩
  rintro m f K2 ⟨l,rfl,hl,f0,f2,f7,f9,f10,f15,f16,f17,f27,f28,pp,r,iy,q⟩
  by_cases hll:(l:Int)<k
  ·have el:=(pv_step pm (i:=i) (l:=l) (j:=0) (by omega) (by omega) (by omega)).2.2.2.2.1
   have ly:=iy.len
   rw[el] at ly
   ((try simp (maxSteps:=3000000) (dsimp:=false) (disch:=first|omega|simp only[lnx];omega) only[↓ypre,ypost,↓reduceIte,reduceEqDiff,reduceAdd,reduceSub,reduceLeDiff,zz0,ynew,f0,f2,f7,f9,f10,f15,f16,f17,f27,f28,decide_eq_true hll,ly]);try simp only[yback])
   have q0:Lst K2 K1.length ((gen k fun l'=>if l'<l then pvF p (L.getD i []) R l' R.length else 0).set l (pvF p (L.getD i []) R l 0)) true:=by
    have e:(gen k fun l'=>if l'<l then pvF p (L.getD i []) R l' R.length else 0).set l (pvF p (L.getD i []) R l 0)=gen k fun l'=>if l'<l then pvF p (L.getD i []) R l' R.length else 0:=by
     refine gen_ext (by rw[List.length_set,gen_len]) fun c hc=>?_
     rw[set_getD (by rw[gen_len];omega)]
     split
     ·rename_i h
      rw[h,if_neg (by omega)]
      rfl
     ·rw[gen_get hc]
    rw[e]
    exact q
   refine WC_loop_inv (fun m f K3=>∃ (j:Nat),m=R.length-j∧j≤R.length∧f 0=I64 p∧f 2=z∧f 7=sl kb i∧f 9=y1∧f 10=sl K1.length k∧f 11=I64 l∧f 15=u∧f 16=I64 L.length∧f 17=I64 i∧f 27=I64 k∧f 28=I64 l∧f 31=y1∧f 32=I64 R.length∧f 33=I64 j∧(h<+:K3)∧(RowD h.length K3 kb fu (ppN p L R k i) B cs)∧(Ints K3 y1 (L.getD i []))∧(Lst K3 K1.length ((gen k fun l'=>if l'<l then pvF p (L.getD i []) R l' R.length else 0).set l (pvF p (L.getD i []) R l j)) true)) ?_ (R.length-0) _ _ ⟨0,rfl,by omega,(by first|rfl|exact f0|(simp[upd_apply];done)),(by first|rfl|exact f2|(simp[upd_apply];done)),(by first|rfl|exact f7|(simp[upd_apply];done)),(by first|rfl|exact f9|(simp[upd_apply];done)),(by first|rfl|exact f10|(simp[upd_apply];done)),(by first|rfl|simp[upd_apply]),(by first|rfl|exact f15|(simp[upd_apply];done)),(by first|rfl|exact f16|(simp[upd_apply];done)),(by first|rfl|exact f17|(simp[upd_apply];done)),(by first|rfl|exact f27|(simp[upd_apply];done)),(by first|rfl|exact f28|(simp[upd_apply];done)),(by first|rfl|simp[upd_apply]),(by first|rfl|simp[upd_apply]),(by first|rfl|simp[upd_apply]),pp,r,iy,q0⟩
   rintro m f K3 ⟨j,rfl,hj,f0,f2,f7,f9,f10,f11,f15,f16,f17,f27,f28,f31,f32,f33,pp,r,iy,q⟩
   have hz3:=hz.pre pp
   by_cases hlj:(j:Int)<R.length
   ·obtain⟨b1,b2,b3,b4,e1,e2⟩:=pv_step pm (i:=i) (l:=l) (j:=j) (by omega) (by omega) (by omega)
    obtain⟨m2,q2',y2,ix2,rd2,iy2⟩:=hz3.row (i:=j) (by omega)
    obtain⟨m3,q3,ix3,rd3⟩:=iy.cell (j:=j) (by omega)
    obtain⟨m4,q4,ix4,rd4⟩:=iy2.cell (j:=l) (by omega)
    have ixn:ixsV 1 (sl K1.length k) (I64 l)=some (.pointer (some ⟨K1.length,l,none⟩)):=Lst.ix (j:=(l:Int)) ⟨by omega,by omega⟩
    have rdn:=q.rd (j:=l) (by rw[List.length_set,gen_len];omega)
    rw[set_getD (by rw[gen_len];omega),if_pos rfl] at rdn
    obtain⟨H5,w5,e5,q5⟩:=q.wr (j:=l) (x:=pvF p (L.getD i []) R l (j+1)) (by rw[List.length_set,gen_len];omega)
    rw[List.set_set] at q5
    have ev:(pvF p (L.getD i []) R l j+(L.getD i []).getD j 0*(R.getD j []).getD l 0).tmod p=pvF p (L.getD i []) R l (j+1):=rfl
    have pp5:h<+:H5:=e5▸pre_put pp (by omega)
    have r5:RowD h.length H5 kb fu (ppN p L R k i) B cs:=e5▸r.put (by omega) (fun a ha=>by rw[ppN_len] at ha;exact hB a ha)
    have iy5:Ints H5 y1 (L.getD i []):=iy1.pre pp5
    ((try simp (maxSteps:=3000000) (dsimp:=false) (disch:=first|omega|simp only[lnx];omega) only[↓ypre,ypost,↓reduceIte,reduceEqDiff,reduceAdd,reduceSub,reduceLeDiff,zz0,ynew,f0,f2,f7,f9,f10,f11,f15,f16,f17,f27,f28,f31,f32,f33,decide_eq_true hlj,ixn,rdn,ix2,rd2,ix3,rd3,ix4,rd4,wrap64_in,bin_rem (show p≠0 by omega),ev,w5]);try simp only[yback])
    refine InvQ_go (R.length-(j+1)) (by omega) ⟨(j+1),rfl,by omega,(by first|rfl|exact f0|(simp only[upd_apply];rfl)|(show I64 _=_;congr 1;omega)),(by first|rfl|exact f2|(simp only[upd_apply];rfl)|(show I64 _=_;congr 1;omega)),(by first|rfl|exact f7|(simp only[upd_apply];rfl)|(show I64 _=_;congr 1;omega)),(by first|rfl|exact f9|(simp only[upd_apply];rfl)|(show I64 _=_;congr 1;omega)),(by first|rfl|exact f10|(simp only[upd_apply];rfl)|(show I64 _=_;congr 1;omega)),(by first|rfl|exact f11|(simp only[upd_apply];rfl)|(show I64 _=_;congr 1;omega)),(by first|rfl|exact f15|(simp only[upd_apply];rfl)|(show I64 _=_;congr 1;omega)),(by first|rfl|exact f16|(simp only[upd_apply];rfl)|(show I64 _=_;congr 1;omega)),(by first|rfl|exact f17|(simp only[upd_apply];rfl)|(show I64 _=_;congr 1;omega)),(by first|rfl|exact f27|(simp only[upd_apply];rfl)|(show I64 _=_;congr 1;omega)),(by first|rfl|exact f28|(simp only[upd_apply];rfl)|(show I64 _=_;congr 1;omega)),(by first|rfl|exact f31|(simp only[upd_apply];rfl)|(show I64 _=_;congr 1;omega)),(by first|rfl|exact f32|(simp only[upd_apply];rfl)|(show I64 _=_;congr 1;omega)),(by first|rfl|exact f33|(simp only[upd_apply];rfl)|(show I64 _=_;congr 1;omega)),pp5,r5,iy5,q5⟩
   ·have ej:j=R.length:=by omega
    ((try simp (maxSteps:=3000000) (dsimp:=false) (disch:=first|omega|simp only[lnx];omega) only[↓ypre,ypost,↓reduceIte,reduceEqDiff,reduceAdd,reduceSub,reduceLeDiff,zz0,ynew,f0,f2,f7,f9,f10,f11,f15,f16,f17,f27,f28,f31,f32,f33,decide_eq_false hlj,wrap64_in]);try simp only[yback])
    have qq:Lst K3 K1.length (gen k fun l'=>if l'<l+1 then pvF p (L.getD i []) R l' R.length else 0) true:=by
     have e:=gen_set (N:=k) (c:=l) (f:=fun l'=>pvF p (L.getD i []) R l' R.length) (g:=fun _=>0) (by omega) (pvF p (L.getD i []) R l j) (by rw[ej])
     rw[←e]
     exact q
    refine InvQ_go (k-(l+1)) (by omega) ⟨(l+1),rfl,by omega,(by first|rfl|exact f0|(simp only[upd_apply];rfl)|(show I64 _=_;congr 1;omega)),(by first|rfl|exact f2|(simp only[upd_apply];rfl)|(show I64 _=_;congr 1;omega)),(by first|rfl|exact f7|(simp only[upd_apply];rfl)|(show I64 _=_;congr 1;omega)),(by first|rfl|exact f9|(simp only[upd_apply];rfl)|(show I64 _=_;congr 1;omega)),(by first|rfl|exact f10|(simp only[upd_apply];rfl)|(show I64 _=_;congr 1;omega)),(by first|rfl|exact f15|(simp only[upd_apply];rfl)|(show I64 _=_;congr 1;omega)),(by first|rfl|exact f16|(simp only[upd_apply];rfl)|(show I64 _=_;congr 1;omega)),(by first|rfl|exact f17|(simp only[upd_apply];rfl)|(show I64 _=_;congr 1;omega)),(by first|rfl|exact f27|(simp only[upd_apply];rfl)|(show I64 _=_;congr 1;omega)),(by first|rfl|exact f28|(simp only[upd_apply];rfl)|(show I64 _=_;congr 1;omega)),pp,r,iy,qq⟩
  ·have el:l=k:=by omega
   ((try simp (maxSteps:=3000000) (dsimp:=false) (disch:=first|omega|simp only[lnx];omega) only[↓ypre,ypost,↓reduceIte,reduceEqDiff,reduceAdd,reduceSub,reduceLeDiff,zz0,ynew,f0,f2,f7,f9,f10,f15,f16,f17,f27,f28,decide_eq_false hll,fillL,zrep,sl_cells,sl_one]);try simp only[yback])
   have ei:(ppN p L R k i).length=i:=ppN_len
   have qq:Lst K2 K1.length (gen k fun l=>pvF p (L.getD i []) R l R.length) true:=by
    have e:(gen k fun l'=>if l'<l then pvF p (L.getD i []) R l' R.length else 0)=gen k fun l=>pvF p (L.getD i []) R l R.length:=gen_congr fun c hc=>if_pos (by omega)
    rw[←e]
    exact q
   have e2:(gen k fun l=>pvF p (L.getD i []) R l R.length).length=k:=gen_len
   rw[show sl kb i=sl kb (ppN p L R k i).length by rw[ei],show sl K1.length k=sl K1.length (gen k fun l=>pvF p (L.getD i []) R l R.length).length by rw[e2]]
   refine rowd_app r (by omega) (by have:=pp.length_le;have:=p1.length_le;omega) (by omega) (fun a ha=>by rw[ei] at ha;exact hB a ha) qq fun HZ lZ kZ rZ=>?_
   have eN:ppN p L R k i++[gen k fun l=>pvF p (L.getD i []) R l R.length]=ppN p L R k (i+1):=ppN_next.symm
   rw[eN] at rZ ⊢
   have lq:=q.lt
   ((try simp (maxSteps:=3000000) (dsimp:=false) (disch:=first|omega|simp only[lnx];omega) only[↓ypre,ypost,↓reduceIte,reduceEqDiff,reduceAdd,reduceSub,reduceLeDiff,zz0,ynew,f0,f2,f7,f9,f10,f15,f16,f17,f27,f28,wrap64_in]);try simp only[yback])
   have hB2:∀ a,a<i+1→(if a<(ppN p L R k i).length then B a else K1.length)<HZ.length:=fun a ha=>by
    rw[ei]
    split
    ·rename_i h
     have:=hB a h
     omega
    ·omega
   refine InvQ_go (L.length-(i+1)) (by omega) ⟨(i+1),(K2.length+1),false,_,_,rfl,by omega,(by first|rfl|exact f0|(simp only[upd_apply];rfl)|(show I64 _=_;congr 1;omega)),(by first|rfl|exact f2|(simp only[upd_apply];rfl)|(show I64 _=_;congr 1;omega)),(by show sl _ _=sl _ _;rw[ppN_len]),(by first|rfl|exact f15|(simp only[upd_apply];rfl)|(show I64 _=_;congr 1;omega)),(by first|rfl|exact f16|(simp only[upd_apply];rfl)|(show I64 _=_;congr 1;omega)),(by first|rfl|exact f17|(simp only[upd_apply];rfl)|(show I64 _=_;congr 1;omega)),(kZ.pre pp rlow),rZ,hB2⟩
 ·have ei:i=L.length:=by omega
  ((try simp (maxSteps:=3000000) (dsimp:=false) (disch:=first|omega|simp only[lnx];omega) only[↓ypre,ypost,↓reduceIte,reduceEqDiff,reduceAdd,reduceSub,reduceLeDiff,zz0,ynew,f0,f2,f7,f15,f16,f17,decide_eq_false hli]);try simp only[yback])
  have rr:=r.rows
  rw[ppN_len] at rr
  refine hQ _ _ pp ?_
  have e:ppN p L R k i=ppF p L R k:=by rw[ei];rfl
  rw[←e]
  exact rr
theorem i_PlainProduct {u z:Value} {p:Int} {L R:List (List Int)} {h:AH} {Q:Value→AH→Prop} (hu:Rows h u L) (sL:SmallM L) (hz:Rows h z R) (sR:SmallM R)
  (hQ:∀ v' h',h<+:h'→Rows h' v' (ppR p L R).1→Q (.tuple #[v',I64 (ppR p L R).2]) h'):WF S 22 [I64 p,u,z] h Q:=by
 refine WF_fn (fn:=c22) rfl rfl ?_
 dsimp only[c22,oO,oM,oS,oG,oK,oE,oL,oF,oX,oN]
 have lu:=hu.len
 have lz:=hz.len
 have no:∀ H,h<+:H→ppOK p L R≠true→Q (.tuple #[.slice none 0 0,I64 2]) H:=fun H p hh=>by
  have:=hQ (.slice none 0 0) H p
  unfold ppR at this
  rw[if_neg hh] at this
  exact this ⟨[],.inl ⟨rfl,0,by omega,rfl⟩,rfl,fun i hi=>by simp at hi⟩
 have un:ppOK p L R=(isP p&&(decide (1≤L.length∧L.length≤3)&&(decide (1≤R.length∧R.length≤3)&&(decide (1≤(R.getD 0 []).length∧(R.getD 0 []).length≤3)&&(isMat p R.length L&&isMat p (R.getD 0 []).length R))))):=rfl
 ((try simp (maxSteps:=3000000) (dsimp:=false) (disch:=first|omega|simp only[lnx];omega) only[↓ypre,ypost,↓reduceIte,reduceEqDiff,reduceAdd,reduceSub,reduceLeDiff,zz0,ynew,lu,lz]);try simp only[yback])
 refine i_isPrime ?_
 cases h1:isP p with
 | false=>
  ((try simp (maxSteps:=3000000) (dsimp:=false) (disch:=first|omega|simp only[lnx];omega) only[↓ypre,ypost,↓reduceIte,reduceEqDiff,reduceAdd,reduceSub,reduceLeDiff,zz0,ynew]);try simp only[yback])
  exact no _ (List.prefix_refl _) (by rw[un,h1];simp)
 | true=>
 ((try simp (maxSteps:=3000000) (dsimp:=false) (disch:=first|omega|simp only[lnx];omega) only[↓ypre,ypost,↓reduceIte,reduceEqDiff,reduceAdd,reduceSub,reduceLeDiff,zz0,ynew,fillL,zrep]);try simp only[yback])
 generalize hH1:AH.new h _=H1
 obtain⟨g1,p1,n1⟩:=new_facts hH1
 refine i_isSize (ns:=[(L.length:Int),(R.length:Int)]) (Ints.own g1 rfl) (by simp) ?_
 by_cases h2:([(L.length:Int),(R.length:Int)]:List Int).all sz=true
 case neg=>
  ((try simp (maxSteps:=3000000) (dsimp:=false) (disch:=first|omega|simp only[lnx];omega) only[↓ypre,ypost,↓reduceIte,reduceEqDiff,reduceAdd,reduceSub,reduceLeDiff,zz0,ynew,h2]);try simp only[yback])
  refine no _ p1 ?_
  intro hh
  have pm:=ppOK_iff.1 hh
  have a:=pm.bn
  have b:=pm.bm
  refine h2 ?_
  simp only[List.all_cons,List.all_nil,Bool.and_true,Bool.and_eq_true]
  unfold sz
  exact⟨decide_eq_true (by omega),decide_eq_true (by omega)⟩
 have h2':=h2
 simp only[List.all_cons,List.all_nil,Bool.and_true,Bool.and_eq_true] at h2'
 unfold sz at h2'
 rw[decide_eq_true_eq,decide_eq_true_eq] at h2'
 have hz1:=hz.pre p1
 obtain⟨m0,q0,y0,ix0,rd0,iy0⟩:=hz1.row (i:=0) (by omega)
 have ix0:ixsV 1 z (I64 0)=some (.pointer (some ⟨m0,q0,none⟩)):=ix0 .i64
 have l0:=iy0.len
 ((try simp (maxSteps:=3000000) (dsimp:=false) (disch:=first|omega|simp only[lnx];omega) only[↓ypre,ypost,↓reduceIte,reduceEqDiff,reduceAdd,reduceSub,reduceLeDiff,zz0,ynew,h2,ix0,rd0,l0,fillL,zrep]);try simp only[yback])
 generalize hH2:AH.new H1 _=H2
 obtain⟨g2,p2,n2⟩:=new_facts hH2
 refine i_isSize (ns:=[((R.getD 0 []).length:Int)]) (Ints.own g2 rfl) (by simp) ?_
 have p12:=p1.trans p2
 by_cases h3:([((R.getD 0 []).length:Int)]:List Int).all sz=true
 case neg=>
  ((try simp (maxSteps:=3000000) (dsimp:=false) (disch:=first|omega|simp only[lnx];omega) only[↓ypre,ypost,↓reduceIte,reduceEqDiff,reduceAdd,reduceSub,reduceLeDiff,zz0,ynew,h3]);try simp only[yback])
  refine no _ p12 ?_
  intro hh
  have a:=(ppOK_iff.1 hh).bk
  refine h3 ?_
  simp only[List.all_cons,List.all_nil,Bool.and_true]
  unfold sz
  exact decide_eq_true (by omega)
 have h3':=h3
 simp only[List.all_cons,List.all_nil,Bool.and_true] at h3'
 unfold sz at h3'
 rw[decide_eq_true_eq] at h3'
 ((try simp (maxSteps:=3000000) (dsimp:=false) (disch:=first|omega|simp only[lnx];omega) only[↓ypre,ypost,↓reduceIte,reduceEqDiff,reduceAdd,reduceSub,reduceLeDiff,zz0,ynew,h3]);try simp only[yback])
 refine i_isMatrix (hu.pre p12) (by omega) (fun i hi=>by have:=sL.2.1 i hi;omega) ?_
 rw[decide_eq_true rfl,Bool.and_true]
 cases h7:isMat p (R.length:Int) L with
 | false=>
  ((try simp (maxSteps:=3000000) (dsimp:=false) (disch:=first|omega|simp only[lnx];omega) only[↓ypre,ypost,↓reduceIte,reduceEqDiff,reduceAdd,reduceSub,reduceLeDiff,zz0,ynew]);try simp only[yback])
  exact no _ p12 (by rw[un,h7];simp)
 | true=>
 ((try simp (maxSteps:=3000000) (dsimp:=false) (disch:=first|omega|simp only[lnx];omega) only[↓ypre,ypost,↓reduceIte,reduceEqDiff,reduceAdd,reduceSub,reduceLeDiff,zz0,ynew]);try simp only[yback])
 refine i_isMatrix (hz.pre p12) (by omega) (fun i hi=>by have:=sR.2.1 i hi;omega) ?_
 rw[decide_eq_true rfl,Bool.and_true]
 cases h8:isMat p ((R.getD 0 []).length:Int) R with
 | false=>
  ((try simp (maxSteps:=3000000) (dsimp:=false) (disch:=first|omega|simp only[lnx];omega) only[↓ypre,ypost,↓reduceIte,reduceEqDiff,reduceAdd,reduceSub,reduceLeDiff,zz0,ynew]);try simp only[yback])
  exact no _ p12 (by rw[un,h8];simp)
 | true=>
 have ok:ppOK p L R=true:=by rw[un,h1,h7,h8,decide_eq_true (show 1≤L.length∧L.length≤3 by omega),decide_eq_true (show 1≤R.length∧R.length≤3 by omega),decide_eq_true (show 1≤(R.getD 0 []).length∧(R.getD 0 []).length≤3 by omega)];rfl
 ((try simp (maxSteps:=3000000) (dsimp:=false) (disch:=first|omega|simp only[lnx];omega) only[↓ypre,ypost,↓reduceIte,reduceEqDiff,reduceAdd,reduceSub,reduceLeDiff,zz0,ynew]);try simp only[yback])
 refine i_multiply (hu.pre p12) (hz.pre p12) (ppOK_iff.1 ok) fun v' h' p' r'=>?_
 have e:ppR p L R=(ppF p L R (R.getD 0 []).length,0):=if_pos ok
 rw[e] at hQ
 ((try simp (maxSteps:=3000000) (dsimp:=false) (disch:=first|omega|simp only[lnx];omega) only[↓ypre,ypost,↓reduceIte,reduceEqDiff,reduceAdd,reduceSub,reduceLeDiff,zz0,ynew]);try simp only[yback])
 exact hQ _ _ (p12.trans p') r'
theorem pv_sm {p:Int} {row:List Int} {R:List (List Int)} {l:Nat}:∀ {j:Nat},Cg p (pvF p row R l j) (sm j fun a=>row.getD a 0*(R.getD a []).getD l 0)
 | 0=>Cg.rfl'
 | j+1=>(cg_md _ _).trans (pv_sm.add Cg.rfl')
end Go.Proofs.Ytapafdpnmakekaa.X

set_option linter.unusedVariables false
set_option linter.unusedSimpArgs false
set_option maxRecDepth 20000
set_option maxHeartbeats 4000000
namespace Go.Proofs.Ytapafdpnmakekaa.X
open Go Go.RowKit
section
variable {bs:List Nat} {n k:Nat} {g g':Nat→Nat→Int}
end
theorem parts_gen {n k:Nat} {F:Nat→Int}:parts (gen (n*k) F) k n=(List.range n).map fun a=>gen k fun b=>F (a*k+b):=by
 unfold parts
 refine List.map_congr_left fun a ha=>?_
 have hm:=mul_row (w:=k) (List.mem_range.1 ha)
 refine gen_ext (by rw[List.length_take,List.length_drop,gen_len];omega) fun b hb=>?_
 rw[List.getD_eq_getElem?_getD,List.getElem?_take,if_pos hb,List.getElem?_drop,←List.getD_eq_getElem?_getD,gen_get (by omega)]
theorem mpR_small (x:Sch) (L R:List (List Int)):SmallM (mpR x L R).1:=by
 unfold mpR
 by_cases hc:mcX x L R=0
 ·rw[if_pos hc]
  obtain⟨n,m,k,mf⟩:=mf_of hc
  have b:=mf.b
  have eF:mpF x L R=parts (gen (n*k) (stM x.p L.flatten R.flatten x.ps x.ps.length)) k n:=by
   unfold mpF
   rw[mf.en,mf.ek,←Int.natCast_mul,Int.toNat_natCast,Int.toNat_natCast,Int.toNat_natCast]
  have hlen:(mpF x L R).length=n:=by rw[eF,parts_len]
  have hrow:∀ i,i<n→((mpF x L R).getD i []).length=k:=fun i hi=>by
   rw[eF,parts_get hi,List.length_take,List.length_drop,gen_len]
   have:=mul_row (w:=k) hi
   omega
  show SmallM (mpF x L R)
  exact smallM_of2 (A:=3) (B:=3) (by omega) (fun i hi=>by rw[hrow i (by omega)];omega) (by omega)
 ·rw[if_neg hc]
  exact⟨by simp,by simp,by simp[tot]⟩
theorem smT_sm {g:Nat→Int}:∀ {n:Nat},smT g n=sm n g
 | 0=>rfl
 | n+1=>by rw[smT,sm,smT_sm]
theorem sm_nn {g:Nat→Int}:∀ {n:Nat},(∀ i,i<n→0≤g i)→0≤sm n g
 | 0,_=>Int.le_refl _
 | n+1,h=>by
  have a:=sm_nn (n:=n) fun i hi=>h i (by omega)
  have b:=h n (by omega)
  simp only[sm]
  omega
theorem wrX_sum {x:Sch} {n m k:Nat} (z:SZ x) (en:x.n=n) (em:x.m=m) (ek:x.k=k) (hw:wrX x=[]) {a b c:Nat} (ha:a<n*m) (hb:b<m*k) (hc:c<n*k) :
  Cg x.p (Sx x.ps x.ps.length a b c) (wn m k a b c):=by
 obtain⟨I,J,K,eI,eJ,eK,bI,bJ,bK,eW⟩:=sz_nat z
 rw[en,em] at eI
 rw[em,ek] at eJ
 rw[en,ek] at eK
 have eI:I=n*m:=by rw[←Int.natCast_mul] at eI;exact (Int.ofNat.inj eI).symm
 have eJ:J=m*k:=by rw[←Int.natCast_mul] at eJ;exact (Int.ofNat.inj eJ).symm
 have eK:K=n*k:=by rw[←Int.natCast_mul] at eK;exact (Int.ofNat.inj eK).symm
 rw[eW] at hw
 have lt:a*(J*K)+b*K+c<I*(J*K):=by
  have h2:b*K+c<J*K:=by
   have:=Nat.mul_le_mul_right K (show b+1≤J by omega)
   rw[Nat.add_mul,Nat.one_mul] at this
   omega
  have h3:=Nat.mul_le_mul_right (J*K) (show a+1≤I by omega)
  rw[Nat.add_mul,Nat.one_mul] at h3
  omega
 have bad:=wrS_nil hw _ lt
 obtain⟨d1,d2,d3⟩:=eDec (e:=a*(J*K)+b*K+c) rfl (show b<J by omega) (show c<K by omega)
 unfold badE at bad
 rw[d1,d2,d3] at bad
 have e:lsX x a b c=wnX x a b c:=by simpa using bad
 have ew:wnX x a b c=wn m k a b c:=by unfold wnX;rw[em,ek];rfl
 rw[←ew,←e]
 unfold lsX lsS
 rw[smT_sm]
 exact (cg_md _ _).symm
theorem mp_pp {h:AH} {v:Value} {x:Sch} {L R:List (List Int)} (hv:Prods h v x.ps) (hx:isX x=true) (hc:mcX x L R=0) (hw:wrX x=[]):ppR x.p L R=(mpF x L R,0):=by
 obtain⟨z,hP,hl30,-⟩:=isX_facts hx
 have hp:=isP_in hP
 obtain⟨n,m,k,mf⟩:=mf_of hc
 obtain⟨en,em,ek,b,nk,wL,wR,lL,lR,fL,fR,aL,aR,hm,hr⟩:=id mf
 have hk0:(R.getD 0 []).length=k:=wR _ (by
  rw[List.getD_eq_getElem?_getD,List.getElem?_eq_getElem (show 0<R.length by omega)]
  exact List.getElem_mem _)
 have zn:=z.n
 have zm:=z.m
 have zk:=z.k
 have pm:PM x.p L R (R.getD 0 []).length:=by
  rw[hk0]
  exact⟨hP,by omega,by omega,by omega,by rw[lR];exact hm,hr,hk0⟩
 have ok:=ppOK_iff.2 pm
 rw[hk0] at pm
 unfold ppR
 rw[if_pos ok,hk0]
 congr 1
 rw[mp_plain hp hv.1.widL hv.2 mf (fun a b c ha hb hc=>wrX_sum z en em ek hw ha hb hc),parts_gen]
 unfold ppF
 rw[lL]
 refine List.map_congr_left fun i hi=>?_
 have hi:=List.mem_range.1 hi
 refine gen_congr fun l hl=>?_
 have a:=pv_in pm (i:=i) (l:=l) (by omega) hl (j:=R.length) (Nat.le_refl _)
 unfold ppG
 rw[(dm hl).1,(dm hl).2]
 have nn:0≤sm m fun j=>L.flatten.getD (i*m+j) 0*R.flatten.getD (j*k+l) 0:=sm_nn fun j hj=>by
  rw[flat_at wL (by omega) hj,flat_at wR (by omega) hl]
  have:=pv_step pm (i:=i) (l:=l) (j:=j) (by omega) hl (by omega)
  exact this.2.2.1.1
 refine cg_eq a (tmod_nn nn (by omega)) (pv_sm.trans (Cg.trans (Cg.of ?_) (cg_md _ _).symm))
 rw[lR]
 refine sm_ext fun j hj=>?_
 rw[flat_at wL (by omega) hj,flat_at wR (by omega) hl]
def sT:List (List Int)→Nat→Nat→Nat→Int
 | [],_,_,_=>0
 | q::L,a,b,c=>tm q a b c+sT L a b c
section
variable {L R:List (List Int)} {q r:List Int} {a b c i k f:Nat} {p s:Int}
theorem sT_app:sT (L++R) a b c=sT L a b c+sT R a b c:=by
 induction L with
 | nil=>simp[sT]
 | cons q L ih=>
  rw[List.cons_append,sT,sT,ih]
  omega
theorem sT_set:∀ {L:List (List Int)} {i:Nat},i<L.length→sT (L.set i q) a b c+tm (L.getD i []) a b c=sT L a b c+tm q a b c
 | [],i,h=>by simp at h
 | r::L,0,h=>by
  rw[List.set_cons_zero,List.getD_cons_zero,sT,sT]
  omega
 | r::L,i+1,h=>by
  have:=sT_set (L:=L) (i:=i) (by simpa using h)
  rw[List.set_cons_succ,List.getD_cons_succ,sT,sT]
  omega
theorem lsS_sT:∀ {i:Nat},i≤L.length→lsS L a b c i=sT (L.take i) a b c
 | 0,_=>by simp[lsS,smT,sT]
 | i+1,h=>by
  have ih:=lsS_sT (i:=i) (by omega)
  unfold lsS at ih ⊢
  rw[smT,ih,takeD (by omega),sT_app]
  simp[sT]
theorem lsS_all:lsS L a b c L.length=sT L a b c:=by rw[lsS_sT (Nat.le_refl _),List.take_length]
theorem Sx_sT:Sx L L.length a b c=sT L a b c:=by
 rw[←lsS_all]
 unfold Sx lsS
 rw[smT_sm]
theorem tm_seg (ha:a<9) (hb:b<9) (hc:c<9):tm q a b c=(seg q 0).getD a 0*(seg q 1).getD b 0*(seg q 2).getD c 0:=by
 unfold tm
 rw[seg_at ha,seg_at hb,seg_at hc,Nat.zero_mul,Nat.zero_add,Nat.one_mul]
theorem isZ_at (hz:isZ q=true):q.getD a 0=0:=by
 have e:q=z9:=by simpa [isZ] using hz
 subst e
 unfold z9
 have:a=0∨a=1∨a=2∨a=3∨a=4∨a=5∨a=6∨a=7∨a=8∨9≤a:=by omega
 rcases this with rfl|rfl|rfl|rfl|rfl|rfl|rfl|rfl|rfl|h
 all_goals first|rfl|(rw[List.getD_eq_getElem?_getD,List.getElem?_eq_none (by simpa using h)];rfl)
theorem tm_zero (ha:a<9) (hb:b<9) (hc:c<9) (hz:hasZ q=true):tm q a b c=0:=by
 rw[tm_seg ha hb hc]
 unfold hasZ at hz
 rw[Bool.or_eq_true,Bool.or_eq_true] at hz
 rcases hz with (h|h)|h
 ·rw[isZ_at h,Int.zero_mul,Int.zero_mul]
 ·rw[isZ_at h,Int.mul_zero,Int.zero_mul]
 ·rw[isZ_at h,Int.mul_zero]
theorem sT_told (ha:a<9) (hb:b<9) (hc:c<9):sT (toldL L) a b c=sT L a b c:=by
 induction L with
 | nil=>rfl
 | cons q L ih=>
  unfold toldL at ih ⊢
  rw[List.filter_cons]
  cases hz:hasZ q with
  | true=>
   rw[if_neg (by simp),ih,sT,tm_zero ha hb hc hz]
   omega
  | false=>
   rw[if_pos (by simp),sT,sT,ih]
theorem seg_wth {j:Nat} (hq:q.length=27) (hr:r.length=9) (hf:f<3) (hj:j<3):seg (wth q f r) j=if j=f then r else seg q j:=by
 have lt:(q.take (f*9)).length=f*9:=by rw[List.length_take,hq];omega
 unfold wth seg
 split
 ·rename_i e
  subst e
  rw[List.append_assoc,List.drop_append_of_le_length (by omega),List.drop_of_length_le (by omega),List.nil_append,List.take_append_of_le_length (by omega),List.take_of_length_le (by omega)]
 ·rename_i e
  by_cases h:j<f
  ·rw[List.append_assoc,List.drop_append_of_le_length (by omega),List.take_append_of_le_length (by rw[List.length_drop];omega),List.drop_take,List.take_take,Nat.min_eq_left (by omega)]
  ·have:(q.take (f*9)++r).length=f*9+9:=by rw[List.length_append,lt,hr]
   rw[List.drop_append,List.drop_of_length_le (by omega),List.nil_append,this,List.drop_drop,show f*9+9+(j*9-(f*9+9))=j*9 by omega]
theorem md_cg {x:Int}:Cg p (md p x) x:=Cg.symm (md_dvd p x)
theorem addF_get {x y:List Int} {j:Nat} (hj:j<9):(addF p x y s 9).getD j 0=md p (x.getD j 0+s*y.getD j 0):=by
 unfold addF
 rw[getD_app_l (by rw[gen_len];exact hj),gen_get hj]
theorem flG_lt:flG' f<3:=Nat.mod_lt _ (by omega)
theorem flH_lt:flH' f<3:=Nat.mod_lt _ (by omega)
theorem flip_tm {A B:List Int} (hA:A.length=27) (hB:B.length=27) (hf:f<3) (e:seg A f=seg B f) (ha:a<9) (hb:b<9) (hc:c<9):Cg p (tm (flOne p A B f s) a b c+tm (flTwo p A B f s) a b c) (tm A a b c+tm B a b c):=by
 have lA:∀ j,j<3→(seg A j).length=9:=fun j hj=>seg_n9 hA hj
 have lB:∀ j,j<3→(seg B j).length=9:=fun j hj=>seg_n9 hB hj
 have s1:∀ j,j<3→seg (flOne p A B f s) j=if j=flG' f then addF p (seg A (flG' f)) (seg B (flG' f)) s 9 else seg A j:=fun j hj=>seg_wth hA (addF_len (lA _ flG_lt) (Nat.le_refl _)) flG_lt hj
 have s2:∀ j,j<3→seg (flTwo p A B f s) j=if j=flH' f then addF p (seg B (flH' f)) (seg A (flH' f)) (-s) 9 else seg B j:=fun j hj=>seg_wth hB (addF_len (lB _ flH_lt) (Nat.le_refl _)) flH_lt hj
 rw[tm_seg ha hb hc,tm_seg ha hb hc,tm_seg ha hb hc,tm_seg ha hb hc,s1 0 (by omega),s1 1 (by omega),s1 2 (by omega),s2 0 (by omega),s2 1 (by omega),s2 2 (by omega)]
 have h:f=0∨f=1∨f=2:=by omega
 rcases h with rfl|rfl|rfl
 ·rw[show flG' 0=1 from rfl,show flH' 0=2 from rfl,if_neg (by decide),if_pos rfl,if_neg (by decide),if_neg (by decide),if_neg (by decide),if_pos rfl,addF_get hb,addF_get hc,e]
  obtain⟨w,hw⟩:=md_cg (p:=p) (x:=(seg A 1).getD b 0+s*(seg B 1).getD b 0)
  obtain⟨v,hv⟩:=md_cg (p:=p) (x:=(seg B 2).getD c 0 + -s*(seg A 2).getD c 0)
  generalize md p _=M1 at hw ⊢
  generalize md p _=M2 at hv ⊢
  generalize (seg A 1).getD b 0=a1 at *
  generalize (seg B 1).getD b 0=b1 at *
  generalize (seg A 2).getD c 0=a2 at *
  generalize (seg B 2).getD c 0=b2 at *
  generalize (seg B 0).getD a 0=b0 at *
  exact⟨b0*w*a2+b0*b1*v,by grind⟩
 ·rw[show flG' 1=2 from rfl,show flH' 1=0 from rfl,if_neg (by decide),if_neg (by decide),if_pos rfl,if_pos rfl,if_neg (by decide),if_neg (by decide),addF_get hc,addF_get ha,e]
  obtain⟨w,hw⟩:=md_cg (p:=p) (x:=(seg A 2).getD c 0+s*(seg B 2).getD c 0)
  obtain⟨v,hv⟩:=md_cg (p:=p) (x:=(seg B 0).getD a 0 + -s*(seg A 0).getD a 0)
  generalize md p _=M1 at hw ⊢
  generalize md p _=M2 at hv ⊢
  generalize (seg A 2).getD c 0=a1 at *
  generalize (seg B 2).getD c 0=b1 at *
  generalize (seg A 0).getD a 0=a2 at *
  generalize (seg B 0).getD a 0=b2 at *
  generalize (seg B 1).getD b 0=b0 at *
  exact⟨b0*w*a2+b0*b1*v,by grind⟩
 ·rw[show flG' 2=0 from rfl,show flH' 2=1 from rfl,if_pos rfl,if_neg (by decide),if_neg (by decide),if_neg (by decide),if_pos rfl,if_neg (by decide),addF_get ha,addF_get hb,e]
  obtain⟨w,hw⟩:=md_cg (p:=p) (x:=(seg A 0).getD a 0+s*(seg B 0).getD a 0)
  obtain⟨v,hv⟩:=md_cg (p:=p) (x:=(seg B 1).getD b 0 + -s*(seg A 1).getD b 0)
  generalize md p _=M1 at hw ⊢
  generalize md p _=M2 at hv ⊢
  generalize (seg A 0).getD a 0=a1 at *
  generalize (seg B 0).getD a 0=b1 at *
  generalize (seg A 1).getD b 0=a2 at *
  generalize (seg B 1).getD b 0=b2 at *
  generalize (seg B 2).getD c 0=b0 at *
  exact⟨b0*w*a2+b0*b1*v,by grind⟩
theorem getD_setne {l:List (List Int)} {x:List Int} (h:i≠k):(l.set i x).getD k []=l.getD k []:=by
 rw[List.getD_eq_getElem?_getD,List.getElem?_set_ne h,←List.getD_eq_getElem?_getD]
theorem getD_len27 (hw:Wid 27 L) (hi:i<L.length):(L.getD i []).length=27:=by
 refine hw _ ?_
 rw[List.getD_eq_getElem?_getD,List.getElem?_eq_getElem hi]
 exact List.getElem_mem hi
theorem getD_by (hw:Wid 27 L) (hb:Byt 27 L) (hi:i<L.length):By 27 (L.getD i []):=⟨getD_len27 hw hi,fun j hj=>hb i hi j hj⟩
theorem flip_sT (hw:Wid 27 L) (hi:i<L.length) (hk:k<L.length) (hik:i≠k) (hf:f<3) (e:seg (L.getD i []) f=seg (L.getD k []) f) (ha:a<9) (hb:b<9) (hc:c<9):Cg p (sT (flipL p L i k f s) a b c) (sT L a b c):=by
 have h1:=sT_set (q:=flOne p (L.getD i []) (L.getD k []) f s) (a:=a) (b:=b) (c:=c) hi
 have h2:=sT_set (L:=L.set i (flOne p (L.getD i []) (L.getD k []) f s)) (i:=k) (q:=flTwo p (L.getD i []) (L.getD k []) f s) (a:=a) (b:=b) (c:=c) (by rw[List.length_set];exact hk)
 rw[getD_setne hik] at h2
 obtain⟨w,hw'⟩:=flip_tm (p:=p) (s:=s) (getD_len27 hw hi) (getD_len27 hw hk) hf e ha hb hc
 refine⟨w,?_⟩
 show sT (flipL p L i k f s) a b c-_=_
 unfold flipL
 omega
theorem okForm_gt {n:Int} {q:List Int} {j:Nat} (h:okForm p n q=true) (hj:j<9):q.getD j 0<p∧(n≤(j:Int)→q.getD j 0=0):=by
 unfold okForm at h
 rw[List.all_eq_true] at h
 exact of_decide_eq_true (h j (List.mem_range.2 hj))
theorem okForm_add {n:Int} {x y:List Int} (hp:2≤p) (hx:okForm p n x=true) (hy:okForm p n y=true):okForm p n (addF p x y s 9)=true:=by
 refine okForm_t fun j hj=>?_
 have h1:=okForm_gt hx hj
 have h2:=okForm_gt hy hj
 unfold okAt
 rw[addF_get hj]
 refine decide_eq_true ⟨(md_in hp).2,fun hn=>?_⟩
 rw[h1.2 hn,h2.2 hn,Int.mul_zero,Int.add_zero]
 exact md_small (by omega)
theorem okProd_iff {x:Sch}:okProd x q=true↔(∀ j,j<3→okForm x.p (pl x j) (seg q j)=true)∧hasZ q=false:=by
 unfold okProd
 simp only[Bool.and_eq_true,Bool.not_eq_true']
 constructor
 ·rintro⟨⟨⟨h0,h1⟩,h2⟩,h3⟩
  refine⟨fun j hj=>?_,h3⟩
  have:j=0∨j=1∨j=2:=by omega
  rcases this with rfl|rfl|rfl
  ·exact h0
  ·exact h1
  ·exact h2
 ·rintro⟨h,h3⟩
  exact⟨⟨⟨h 0 (by omega),h 1 (by omega)⟩,h 2 (by omega)⟩,h3⟩
def okL (x:Sch) (L:List (List Int)):Prop:=∀ q∈L,∀ j,j<3→okForm x.p (pl x j) (seg q j)=true
abbrev wps (x:Sch) (L:List (List Int)):Sch:=⟨x.p,x.n,x.m,x.k,L⟩
theorem okL_of {x:Sch} (hx:isX x=true):okL x x.ps:=fun q hq=>by
 obtain⟨_,_,_,h⟩:=isX_facts hx
 exact (okProd_iff.1 (List.all_eq_true.1 (by unfold isX at hx;exact (Bool.and_eq_true _ _▸hx).2) q hq)).1
theorem told_id {x:Sch} (hx:isX x=true):toldL x.ps=x.ps:=by
 unfold toldL
 rw[List.filter_eq_self]
 intro q hq
 have h:=List.all_eq_true.1 (by unfold isX at hx;exact (Bool.and_eq_true _ _▸hx).2) q hq
 rw[(okProd_iff.1 h).2]
 rfl
theorem isX_told {x:Sch} (hx:isX x=true) (hl:L.length≤30) (ok:okL x L):isX (wps x (toldL L))=true:=by
 have h1:szX x=true:=by
  unfold isX at hx
  simp only[Bool.and_eq_true] at hx
  exact hx.1.1
 unfold isX
 have tl:=toldL_len (L:=L)
 simp only[Bool.and_eq_true]
 refine⟨⟨h1,decide_eq_true (by show (toldL L).length≤30;omega)⟩,List.all_eq_true.2 fun q hq=>?_⟩
 have hm:=List.mem_filter.1 hq
 exact okProd_iff.2 ⟨ok q hm.1,by simpa using hm.2⟩
theorem flip_okL {x:Sch} (hp:2≤x.p) (hw:Wid 27 L) (ok:okL x L) (hi:i<L.length) (hk:k<L.length) (hf:f<3):okL x (flipL x.p L i k f s):=by
 have gm:∀ {i},i<L.length→L.getD i []∈L:=fun {i} hi=>by
  rw[List.getD_eq_getElem?_getD,List.getElem?_eq_getElem hi]
  exact List.getElem_mem hi
 have lA:∀ j,j<3→(seg (L.getD i []) j).length=9:=fun j hj=>seg_n9 (getD_len27 hw hi) hj
 have lB:∀ j,j<3→(seg (L.getD k []) j).length=9:=fun j hj=>seg_n9 (getD_len27 hw hk) hj
 intro q hq j hj
 unfold flipL at hq
 rcases List.mem_or_eq_of_mem_set hq with hq|rfl
 ·rcases List.mem_or_eq_of_mem_set hq with hq|rfl
  ·exact ok q hq j hj
  ·unfold flOne
   rw[seg_wth (getD_len27 hw hi) (addF_len (lA _ flG_lt) (Nat.le_refl _)) flG_lt hj]
   split
   ·rename_i e
    rw[e]
    exact okForm_add hp (ok _ (gm hi) _ flG_lt) (ok _ (gm hk) _ flG_lt)
   ·exact ok _ (gm hi) j hj
 ·unfold flTwo
  rw[seg_wth (getD_len27 hw hk) (addF_len (lB _ flH_lt) (Nat.le_refl _)) flH_lt hj]
  split
  ·rename_i e
   rw[e]
   exact okForm_add hp (ok _ (gm hk) _ flH_lt) (ok _ (gm hi) _ flH_lt)
  ·exact ok _ (gm hk) j hj
theorem flipL_len:(flipL p L i k f s).length=L.length:=by unfold flipL;rw[List.length_set,List.length_set]
theorem told_wid (hw:Wid 27 L):Wid 27 (toldL L):=fun q hq=>hw q (List.mem_filter.1 hq).1
theorem byt_iff (hw:Wid 27 L):Byt 27 L↔∀ q∈L,By 27 q:=by
 constructor
 ·intro hb q hq
  obtain⟨i,hi,rfl⟩:=List.getElem_of_mem hq
  have:=getD_by hw hb hi
  rwa [List.getD_eq_getElem?_getD,List.getElem?_eq_getElem hi] at this
 ·intro h i hi j hj
  refine (h _ ?_).2 j hj
  rw[List.getD_eq_getElem?_getD,List.getElem?_eq_getElem hi]
  exact List.getElem_mem hi
theorem told_byt (hw:Wid 27 L) (hb:Byt 27 L):Byt 27 (toldL L):=(byt_iff (told_wid hw)).2 fun q hq=>(byt_iff hw).1 hb q (List.mem_filter.1 hq).1
theorem flip_wb (hp:2≤p∧p≤5) (hw:Wid 27 L) (hb:Byt 27 L) (hi:i<L.length) (hk:k<L.length) (hf:f<3):Wid 27 (flipL p L i k f s)∧Byt 27 (flipL p L i k f s):=by
 have byi:=getD_by hw hb hi
 have byk:=getD_by hw hb hk
 have b1:By 27 (flOne p (L.getD i []) (L.getD k []) f s):=wth_by byi (addF_by hp (seg_by byi flG_lt) (Nat.le_refl _)) flG_lt
 have b2:By 27 (flTwo p (L.getD i []) (L.getD k []) f s):=wth_by byk (addF_by hp (seg_by byk flH_lt) (Nat.le_refl _)) flH_lt
 exact⟨wid_set (wid_set hw b1.1) b2.1,byt_setq (byt_setq hb b1) b2⟩
theorem flF_mem {l:List Int}:∀ {r:Nat},l∈flF L i k r→∃ u:Nat,u<r∧l=[(i:Int),k,u]∧seg (L.getD i []) u=seg (L.getD k []) u
 | 0,h=>by simp[flF] at h
 | r+1,h=>by
  unfold flF at h
  rcases List.mem_append.1 h with h|h
  ·obtain⟨u,h1,h2⟩:=flF_mem h
   exact⟨u,by omega,h2⟩
  ·split at h
   ·rename_i e
    exact⟨r,by omega,List.mem_singleton.1 h,e⟩
   ·simp at h
theorem flK_mem {l:List Int}:∀ {K:Nat},l∈flK L i K→∃ k u:Nat,k<K∧i≠k∧u<3∧l=[(i:Int),k,u]∧seg (L.getD i []) u=seg (L.getD k []) u
 | 0,h=>by simp[flK] at h
 | K+1,h=>by
  unfold flK at h
  rcases List.mem_append.1 h with h|h
  ·obtain⟨k,u,h1,h2⟩:=flK_mem h
   exact⟨k,u,by omega,h2⟩
  ·split at h
   ·simp at h
   ·rename_i e
    obtain⟨u,h1,h2,h3⟩:=flF_mem h
    exact⟨K,u,by omega,e,h1,h2,h3⟩
theorem flI_mem {l:List Int}:∀ {I:Nat},l∈flI L I→∃ i k u:Nat,i<I∧k<L.length∧i≠k∧u<3∧l=[(i:Int),k,u]∧seg (L.getD i []) u=seg (L.getD k []) u
 | 0,h=>by simp[flI] at h
 | I+1,h=>by
  unfold flI at h
  rcases List.mem_append.1 h with h|h
  ·obtain⟨i,k,u,h1,h2⟩:=flI_mem h
   exact⟨i,k,u,by omega,h2⟩
  ·obtain⟨k,u,h1,h2⟩:=flK_mem h
   exact⟨I,k,u,by omega,h1,h2⟩
abbrev flA (L:List (List Int)):List (List Int):=flI L L.length
def pickF (L:List (List Int)) (n:Int):List Int:=(flA L).getD (n.tmod ((flA L).length:Int)).toNat []
def stepW (p:Int) (L:List (List Int)) (n:Int):List (List Int):=
 if flA L=[] then L else toldL (flipL p L ((pickF L n).getD 0 0).toNat ((pickF L n).getD 1 0).toNat ((pickF L n).getD 2 0).toNat 1)
def walkL (p:Int) (L:List (List Int)) (ns:List Int):List (List Int):=ns.foldl (stepW p) L
theorem pickF_of {n:Int} (hn:0≤n) (h:flA L≠[]):∃ i k u:Nat,i<L.length∧k<L.length∧i≠k∧u<3∧pickF L n=[(i:Int),k,u]∧seg (L.getD i []) u=seg (L.getD k []) u∧(n.tmod ((flA L).length:Int)).toNat<(flA L).length:=by
 have hl:0<(flA L).length:=List.length_pos_iff.2 h
 have h1:0≤n.tmod ((flA L).length:Int):=Int.tmod_nonneg _ hn
 have h2:n.tmod ((flA L).length:Int)<(flA L).length:=Int.tmod_lt_of_pos _ (by omega)
 have h3:(n.tmod ((flA L).length:Int)).toNat<(flA L).length:=by omega
 have hm:pickF L n∈flA L:=by
  unfold pickF
  rw[List.getD_eq_getElem?_getD,List.getElem?_eq_getElem h3]
  exact List.getElem_mem h3
 obtain⟨i,k,u,g1,g2,g3,g4,g5,g6⟩:=flI_mem hm
 exact⟨i,k,u,g1,g2,g3,g4,g5,g6,h3⟩
structure GX (x:Sch):Prop where
 ok:isX x=true
 w:Wid 27 x.ps
 b:Byt 27 x.ps
structure EqS (x y:Sch):Prop where
 l:like x y
 s:∀ a b c,a<9→b<9→c<9→Cg x.p (sT x.ps a b c) (sT y.ps a b c)
theorem EqS.rfl' {x:Sch}:EqS x x:=⟨⟨rfl,rfl,rfl,rfl⟩,fun _ _ _ _ _ _=>Cg.rfl'⟩
theorem EqS.trans {x y z:Sch} (h:EqS x y) (g:EqS y z):EqS x z:=⟨⟨h.l.1.trans g.l.1,h.l.2.1.trans g.l.2.1,h.l.2.2.1.trans g.l.2.2.1,h.l.2.2.2.trans g.l.2.2.2⟩,fun a b c ha hb hc=>(h.s a b c ha hb hc).trans (by rw[h.l.1];exact g.s a b c ha hb hc)⟩
theorem flip_GX {x:Sch} (g:GX x) (hi:i<x.ps.length) (hk:k<x.ps.length) (hf:f<3):GX (wps x (toldL (flipL x.p x.ps i k f s))):=by
 obtain⟨z,h30⟩:=isX_sz g.ok
 have zp:=z.p
 obtain⟨w,b⟩:=flip_wb (s:=s) zp g.w g.b hi hk hf
 exact⟨isX_told g.ok (by rw[flipL_len];exact h30) (flip_okL zp.1 g.w (okL_of g.ok) hi hk hf),told_wid w,told_byt w b⟩
theorem flip_EqS {x:Sch} (g:GX x) (hi:i<x.ps.length) (hk:k<x.ps.length) (hik:i≠k) (hf:f<3) (e:seg (x.ps.getD i []) f=seg (x.ps.getD k []) f):EqS x (wps x (toldL (flipL x.p x.ps i k f s))):=
 ⟨⟨rfl,rfl,rfl,rfl⟩,fun a b c ha hb hc=>by
  show Cg x.p _ (sT (toldL (flipL x.p x.ps i k f s)) a b c)
  rw[sT_told ha hb hc]
  exact (flip_sT g.w hi hk hik hf e ha hb hc).symm⟩
theorem step_ok {x:Sch} {n:Int} (g:GX x) (hn:0≤n):GX (wps x (stepW x.p x.ps n))∧EqS x (wps x (stepW x.p x.ps n)):=by
 unfold stepW
 by_cases h:flA x.ps=[]
 ·rw[if_pos h]
  exact⟨g,.rfl'⟩
 ·rw[if_neg h]
  obtain⟨i,k,u,h1,h2,h3,h4,h5,h6,-⟩:=pickF_of hn h
  rw[h5]
  simp only[List.getD_cons_zero,List.getD_cons_succ,Int.toNat_natCast]
  exact⟨flip_GX g h1 h2 h4,flip_EqS g h1 h2 h3 h4 h6⟩
theorem walk_ok {x:Sch} (g:GX x) {ns:List Int} (hn:∀ n∈ns,0≤n):GX (wps x (walkL x.p x.ps ns))∧EqS x (wps x (walkL x.p x.ps ns)):=by
 induction ns generalizing x with
 | nil=>exact⟨g,.rfl'⟩
 | cons n ns ih=>
  obtain⟨h1,h2⟩:=step_ok g (hn n (by simp))
  obtain⟨h3,h4⟩:=ih h1 (fun m hm=>hn m (by simp[hm]))
  exact⟨h3,h2.trans h4⟩
theorem walk_stop (h:flA L=[]) {ns:List Int}:walkL p L ns=L:=by
 induction ns with
 | nil=>rfl
 | cons n ns ih=>
  unfold walkL at ih ⊢
  rw[List.foldl_cons,show stepW p L n=L from if_pos h]
  exact ih
theorem lsX_eq {x y:Sch} (gx:GX x) (gy:GX y) (e:EqS x y) (ha:a<9) (hb:b<9) (hc:c<9):lsX x a b c=lsX y a b c:=by
 have nn:∀ {x:Sch},GX x→0≤sT x.ps a b c:=fun {x} g=>by
  rw[←lsS_all]
  exact (smT_in (b:=16581375) fun j hj=>(tm_in (getD_by g.w g.b hj) ha hb hc).2).1
 have h1:=nn gx
 have h2:=nn gy
 have zp:=(isX_sz gx.ok).1.p
 unfold lsX
 rw[lsS_all,lsS_all,←e.l.1]
 exact dvd_eq (((Cg.tmod _ _).trans (e.s a b c ha hb hc)).trans (Cg.tmod _ _).symm) ⟨Int.tmod_nonneg _ h1,Int.tmod_lt_of_pos _ (by omega)⟩ ⟨Int.tmod_nonneg _ h2,Int.tmod_lt_of_pos _ (by omega)⟩
end
end Go.Proofs.Ytapafdpnmakekaa.X
