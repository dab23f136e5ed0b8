/- Texts of one claim, put together by merge.py: XN2, XP7, XM5, XN3, XDI. -/
import Derived.Test.YtapafdpnmakekaaEQ9
import Derived.Test.YtapafdpnmakekaaEQ8
import Derived.Test.YtapafdpnmakekaaEQ7
set_option linter.unusedVariables false
set_option linter.unusedSimpArgs false
set_option maxRecDepth 20000
set_option maxHeartbeats 4000000
namespace Go.Proofs.Ytapafdpnmakekaa.X
open Go Go.RowKit
open Nat (reduceEqDiff reduceAdd reduceSub reduceLeDiff)
section
variable (x:Sch) (J K:Nat)
def badE (e:Nat):Bool:=decide (lsX x (e / K / J) (e / K%J) (e%K)≠wnX x (e / K / J) (e / K%J) (e%K))
def plE (e:Nat):List Int:=[((e / K / J:Nat):Int),((e / K%J:Nat):Int),((e%K:Nat):Int)]
def wrS:Nat→List (List Int)
 | 0=>[]
 | e+1=>if badE x J K e=true then wrS e++[plE J K e] else wrS e
end
def wrX (x:Sch):List (List Int):=wrS x (x.m*x.k).toNat (x.n*x.k).toNat ((x.n*x.m).toNat*((x.m*x.k).toNat*(x.n*x.k).toNat))
theorem wrS_le {x:Sch} {J K:Nat}:∀ {e:Nat},(wrS x J K e).length≤e
 | 0=>Nat.le_refl _
 | e+1=>by
  have:=wrS_le (x:=x) (J:=J) (K:=K) (e:=e)
  unfold wrS
  split
  ·simp;omega
  ·omega
theorem wrS_mem {x:Sch} {J K:Nat} {q:List Int}:∀ {e:Nat},q∈wrS x J K e→∃ e',e'<e∧badE x J K e'=true∧q=plE J K e'
 | 0,h=>by simp[wrS] at h
 | e+1,h=>by
  unfold wrS at h
  split at h
  ·rename_i hb
   rcases List.mem_append.1 h with h|h
   ·obtain⟨e',h1,h2⟩:=wrS_mem h
    exact⟨e',by omega,h2⟩
   ·exact⟨e,by omega,hb,List.mem_singleton.1 h⟩
  ·obtain⟨e',h1,h2⟩:=wrS_mem h
   exact⟨e',by omega,h2⟩
theorem wrS_nil {x:Sch} {J K:Nat}:∀ {e:Nat},wrS x J K e=[]→∀ e',e'<e→badE x J K e'=false
 | 0,h,e',he=>by omega
 | e+1,h,e',he=>by
  unfold wrS at h
  split at h
  ·simp at h
  ·rename_i hb
   by_cases h1:e'=e
   ·subst h1
    simpa using hb
   ·exact wrS_nil h e' (by omega)
theorem eDec {J K a b c e:Nat} (he:e=a*(J*K)+b*K+c) (hb:b<J) (hc:c<K):e / K / J=a∧e / K%J=b∧e%K=c:=by
 have e1:e=(a*J+b)*K+c:=by rw[he,Nat.add_mul,Nat.mul_assoc]
 rw[e1,(dm hc).1,(dm hc).2,(dm hb).1,(dm hb).2]
 exact⟨rfl,rfl,rfl⟩
theorem wrS_next {x:Sch} {J K a b c e:Nat} (he:e=a*(J*K)+b*K+c) (hb:b<J) (hc:c<K):wrS x J K (e+1)=if lsX x a b c=wnX x a b c then wrS x J K e else wrS x J K e++[[(a:Int),b,c]]:=by
 obtain⟨h1,h2,h3⟩:=eDec he hb hc
 unfold wrS badE plE
 rw[h1,h2,h3]
 by_cases h:lsX x a b c=wnX x a b c
 ·rw[if_pos h,if_neg (by simpa using h)]
  cases e<;>rfl
 ·rw[if_neg h,if_pos (by simpa using h)]
  cases e<;>rfl
theorem sz_nat {x:Sch} (z:SZ x):∃ I J K:Nat,x.n*x.m=I∧x.m*x.k=J∧x.n*x.k=K∧(1≤I∧I≤9)∧(1≤J∧J≤9)∧(1≤K∧K≤9)∧wrX x=wrS x J K (I*(J*K)):=by
 have zn:=z.nm
 have zm:=z.mk2
 have zk:=z.nk
 refine⟨(x.n*x.m).toNat,(x.m*x.k).toNat,(x.n*x.k).toNat,by omega,by omega,by omega,by omega,by omega,by omega,rfl⟩
theorem e_lt {I J K e:Nat} (hI:I≤9) (hJ:J≤9) (hK:K≤9) (h:e≤I*(J*K)):e≤729:=by
 have h1:J*K≤9*9:=Nat.mul_le_mul hJ hK
 have h2:I*(J*K)≤9*(9*9):=Nat.mul_le_mul hI h1
 omega
theorem first3 {H:AH} {kb:Nat} {fu ro fz:Bool} {a b c:Int} {e':TypeId} (q:Lst H kb [] fu) {Q:Value→AH→Prop}
  (hQ:∀ H':AH,H'.length=H.length+2→Kp kb H H'→Lst H' (H.length+1) [a,b,c] false→Q (sl (H.length+1) 3) H') :
  OQ (appV 2 1 8 (sl kb 0) (.slice (some ⟨H.length,0,none⟩) 3 1) (H.new ⟨[I64 a,I64 b,I64 c],e',ro,fz⟩)) Q:=by
 have hk:(H.new ⟨[I64 a,I64 b,I64 c],e',ro,fz⟩).get kb=some ⟨[],2,false,fu⟩:=get_new_any q
 have hkb:=q.lt
 unfold sl
 rw[app_zero hk (show AH.rdn (H.new ⟨[I64 a,I64 b,I64 c],e',ro,fz⟩) H.length 0 3=some [I64 a,I64 b,I64 c] by rw[rdn_new_same];rfl) (by omega) (by omega),OQ_some,len_new]
 refine hQ _ (by rw[len_new,len_kill,len_new]) ⟨by rw[len_new,len_kill,len_new];omega,fun j hj hne=>?_⟩ ?_
 ·rw[show ∀ bb,(((H.new ⟨[I64 a,I64 b,I64 c],e',ro,fz⟩).kill kb).new bb).get j=((H.new ⟨[I64 a,I64 b,I64 c],e',ro,fz⟩).kill kb).get j from fun bb=>prefix_get (pre_new (List.prefix_refl _)) (by rw[len_kill,len_new];omega),get_kill_ne (Ne.symm hne)]
  exact prefix_get (pre_new (List.prefix_refl _)) hj
 ·unfold Lst
  rw[get_new_eq (by rw[len_kill,len_new])]
  rfl
theorem s_l01Wrong {v:Value} {x:Sch} {h:AH} {Q:Value→AH→Prop} (hv:Prods h v x.ps) (hx:isX x=true)
  (hQ:∀ kb fu h',h<+:h'→Lst h' kb ((wrX x).headD []) fu→Q (.tuple #[sl kb ((wrX x).headD []).length,I64 ((wrX x).length:Int)]) h'):WF S 216 [schV x v] h Q:=by
 refine WF_fn (fn:=c216) rfl rfl ?_
 dsimp only[c216,oO,oM,oS,oG,oK,oE,oL,oF,oX,oN]
 have o1:=hv.one
 obtain⟨z,hP,hl30,-⟩:=isX_facts hx
 obtain⟨I,J,K,eI,eJ,eK,bI,bJ,bK,eW⟩:=sz_nat z
 rw[eW] at hQ
 ((try simp (maxSteps:=3000000) (dsimp:=false) (disch:=first|omega|simp only[lnx];omega) only[↓ypre,ypost,↓reduceIte,reduceEqDiff,reduceAdd,reduceSub,reduceLeDiff,zz0,ynew,schV,o1]);try simp only[yback])
 generalize hH1:AH.new h _=H1
 obtain⟨hb1,p1,n1⟩:=new_facts hH1
 ((try simp (maxSteps:=3000000) (dsimp:=false) (disch:=first|omega|simp only[lnx];omega) only[↓ypre,ypost,↓reduceIte,reduceEqDiff,reduceAdd,reduceSub,reduceLeDiff,zz0,ynew,rdn_of hb1]);try simp only[yback])
 refine s_l01Lengths (x:=x) o1 z fun H2 p2=>?_
 rw[eI,eJ,eK]
 have hb1:=pre_get p2 hb1
 refine WO_cut (fun f:Fr=>f 1=.pointer (some ⟨h.length,0,none⟩)∧f 14=.tuple #[I64 I,I64 J,I64 K]∧True) ⟨(by first|rfl|simp[upd_apply]),(by first|rfl|simp[upd_apply]),trivial⟩ ?_
 rintro f ⟨f1,f14,-⟩
 ((try simp (maxSteps:=3000000) (dsimp:=false) (disch:=first|omega|simp only[lnx];omega) only[↓ypre,ypost,↓reduceIte,reduceEqDiff,reduceAdd,reduceSub,reduceLeDiff,zz0,ynew,f1,f14,fillL,zrep]);try simp only[yback])
 generalize hH3:AH.new H2 _=H3
 obtain⟨hb3,p3,n3⟩:=new_facts hH3
 refine WC_loop_inv (fun m f K1=>∃ (a:Nat) (e:Nat) (kb:Nat) (fu:Bool),m=I-a∧a≤I∧f 1=.pointer (some ⟨h.length,0,none⟩)∧f 4=I64 I∧f 5=I64 J∧f 6=I64 K∧f 7=sl kb ((wrS x J K e).headD []).length∧f 8=I64 ((wrS x J K e).length:Int)∧f 9=I64 a∧(H2<+:K1)∧(Lst K1 kb ((wrS x J K e).headD []) fu)∧(H2.length≤kb)∧(e=a*(J*K))) ?_ (I-0) _ _ ⟨0,0,H2.length,true,rfl,by omega,(by first|rfl|exact f1|(simp[upd_apply];done)),(by first|rfl|simp[upd_apply]),(by first|rfl|simp[upd_apply]),(by first|rfl|simp[upd_apply]),(by first|rfl|simp[upd_apply]),(by first|rfl|simp[upd_apply]),(by first|rfl|simp[upd_apply]),p3,hb3,Nat.le_refl _,(by simp)⟩
 rintro m f K1 ⟨a,e,kb,fu,rfl,ha,f1,f4,f5,f6,f7,f8,f9,pp,q,hk,he⟩
 by_cases hla:(a:Int)<I
 ·((try simp (maxSteps:=3000000) (dsimp:=false) (disch:=first|omega|simp only[lnx];omega) only[↓ypre,ypost,↓reduceIte,reduceEqDiff,reduceAdd,reduceSub,reduceLeDiff,zz0,ynew,f1,f4,f5,f6,f7,f8,f9,decide_eq_true hla]);try simp only[yback])
  refine WC_loop_inv (fun m f K2=>∃ (b:Nat) (e:Nat) (kb:Nat) (fu:Bool),m=J-b∧b≤J∧f 1=.pointer (some ⟨h.length,0,none⟩)∧f 4=I64 I∧f 5=I64 J∧f 6=I64 K∧f 7=sl kb ((wrS x J K e).headD []).length∧f 8=I64 ((wrS x J K e).length:Int)∧f 9=I64 a∧f 10=I64 b∧(H2<+:K2)∧(Lst K2 kb ((wrS x J K e).headD []) fu)∧(H2.length≤kb)∧(e=a*(J*K)+b*K)) ?_ (J-0) _ _ ⟨0,e,kb,fu,rfl,by omega,(by first|rfl|exact f1|(simp[upd_apply];done)),(by first|rfl|exact f4|(simp[upd_apply];done)),(by first|rfl|exact f5|(simp[upd_apply];done)),(by first|rfl|exact f6|(simp[upd_apply];done)),(by first|rfl|exact f7|(simp[upd_apply];done)),(by first|rfl|exact f8|(simp[upd_apply];done)),(by first|rfl|exact f9|(simp[upd_apply];done)),(by first|rfl|simp[upd_apply]),pp,q,hk,(by rw[he];simp)⟩
  rintro m f K2 ⟨b,e,kb,fu,rfl,hb,f1,f4,f5,f6,f7,f8,f9,f10,pp,q,hk,he⟩
  by_cases hlb:(b:Int)<J
  ·((try simp (maxSteps:=3000000) (dsimp:=false) (disch:=first|omega|simp only[lnx];omega) only[↓ypre,ypost,↓reduceIte,reduceEqDiff,reduceAdd,reduceSub,reduceLeDiff,zz0,ynew,f1,f4,f5,f6,f7,f8,f9,f10,decide_eq_true hlb]);try simp only[yback])
   refine WC_loop_inv (fun m f K3=>∃ (c:Nat) (e:Nat) (kb:Nat) (fu:Bool),m=K-c∧c≤K∧f 1=.pointer (some ⟨h.length,0,none⟩)∧f 4=I64 I∧f 5=I64 J∧f 6=I64 K∧f 7=sl kb ((wrS x J K e).headD []).length∧f 8=I64 ((wrS x J K e).length:Int)∧f 9=I64 a∧f 10=I64 b∧f 11=I64 c∧(H2<+:K3)∧(Lst K3 kb ((wrS x J K e).headD []) fu)∧(H2.length≤kb)∧(e=a*(J*K)+b*K+c)) ?_ (K-0) _ _ ⟨0,e,kb,fu,rfl,by omega,(by first|rfl|exact f1|(simp[upd_apply];done)),(by first|rfl|exact f4|(simp[upd_apply];done)),(by first|rfl|exact f5|(simp[upd_apply];done)),(by first|rfl|exact f6|(simp[upd_apply];done)),(by first|rfl|exact f7|(simp[upd_apply];done)),(by first|rfl|exact f8|(simp[upd_apply];done)),(by first|rfl|exact f9|(simp[upd_apply];done)),(by first|rfl|exact f10|(simp[upd_apply];done)),(by first|rfl|simp[upd_apply]),pp,q,hk,(by rw[he];simp)⟩
   rintro m f K3 ⟨c,e,kb,fu,rfl,hc,f1,f4,f5,f6,f7,f8,f9,f10,f11,pp,q,hk,he⟩
   by_cases hlc:(c:Int)<K
   ·have hb1:=pre_get pp hb1
    have hvK:=hv.pre (p1.trans (p2.trans pp))
    have nx:=wrS_next (x:=x) he (show b<J by omega) (show c<K by omega)
    have eb:e≤729:=by
     have h1:a*(J*K)+b*K+c<(a+1)*(J*K):=by
      have h2:b*K+c<J*K:=by
       have:=Nat.mul_le_mul_right K (show b+1≤J by omega)
       rw[Nat.add_mul,Nat.one_mul] at this
       omega
      rw[Nat.add_mul,Nat.one_mul]
      omega
     have h3:=Nat.mul_le_mul_right (J*K) (show a+1≤I by omega)
     exact e_lt bI.2 bJ.2 bK.2 (by omega)
    have ll:=wrS_le (x:=x) (J:=J) (K:=K) (e:=e)
    ((try simp (maxSteps:=3000000) (dsimp:=false) (disch:=first|omega|simp only[lnx];omega) only[↓ypre,ypost,↓reduceIte,reduceEqDiff,reduceAdd,reduceSub,reduceLeDiff,zz0,ynew,f1,f4,f5,f6,f7,f8,f9,f10,f11,decide_eq_true hlc,rdn_of hb1]);try simp only[yback])
    refine s_l01Sum (x:=x) hvK z hl30 (by omega) (by omega) (by omega) fun H4 p4=>?_
    refine⟨p4,?_⟩
    have hb1:=pre_get p4 hb1
    refine WO_cut (fun f:Fr=>f 1=.pointer (some ⟨h.length,0,none⟩)∧f 4=I64 I∧f 5=I64 J∧f 6=I64 K∧f 7=sl kb ((wrS x J K e).headD []).length∧f 8=I64 ((wrS x J K e).length:Int)∧f 9=I64 a∧f 10=I64 b∧f 11=I64 c∧f 38=I64 (lsX x a b c)∧True) ⟨(by first|rfl|exact f1|simp[upd_apply,f1]),(by first|rfl|exact f4|simp[upd_apply,f4]),(by first|rfl|exact f5|simp[upd_apply,f5]),(by first|rfl|exact f6|simp[upd_apply,f6]),(by first|rfl|exact f7|simp[upd_apply,f7]),(by first|rfl|exact f8|simp[upd_apply,f8]),(by first|rfl|exact f9|simp[upd_apply,f9]),(by first|rfl|exact f10|simp[upd_apply,f10]),(by first|rfl|exact f11|simp[upd_apply,f11]),(by first|rfl|simp[upd_apply]),trivial⟩ ?_
    rintro f ⟨f1,f4,f5,f6,f7,f8,f9,f10,f11,f38,-⟩
    ((try simp (maxSteps:=3000000) (dsimp:=false) (disch:=first|omega|simp only[lnx];omega) only[↓ypre,ypost,↓reduceIte,reduceEqDiff,reduceAdd,reduceSub,reduceLeDiff,zz0,ynew,f1,f4,f5,f6,f7,f8,f9,f10,f11,f38,rdn_of hb1]);try simp only[yback])
    refine s_l01Want (x:=x) o1 z (by omega) (by omega) (by omega) fun H5 p5=>?_
    have p45:=p4.trans p5
    have q:=q.pre p45
    refine WO_cut (fun f:Fr=>f 1=.pointer (some ⟨h.length,0,none⟩)∧f 4=I64 I∧f 5=I64 J∧f 6=I64 K∧f 7=sl kb ((wrS x J K e).headD []).length∧f 8=I64 ((wrS x J K e).length:Int)∧f 9=I64 a∧f 10=I64 b∧f 11=I64 c∧f 38=I64 (lsX x a b c)∧f 43=I64 (wnX x a b c)∧True) ⟨(by first|rfl|exact f1|simp[upd_apply,f1]),(by first|rfl|exact f4|simp[upd_apply,f4]),(by first|rfl|exact f5|simp[upd_apply,f5]),(by first|rfl|exact f6|simp[upd_apply,f6]),(by first|rfl|exact f7|simp[upd_apply,f7]),(by first|rfl|exact f8|simp[upd_apply,f8]),(by first|rfl|exact f9|simp[upd_apply,f9]),(by first|rfl|exact f10|simp[upd_apply,f10]),(by first|rfl|exact f11|simp[upd_apply,f11]),(by first|rfl|exact f38|simp[upd_apply,f38]),(by first|rfl|simp[upd_apply]),trivial⟩ ?_
    rintro f ⟨f1,f4,f5,f6,f7,f8,f9,f10,f11,f38,f43,-⟩
    by_cases hs:lsX x a b c=wnX x a b c
    ·rw[if_pos hs] at nx
     ((try simp (maxSteps:=3000000) (dsimp:=false) (disch:=first|omega|simp only[lnx];omega) only[↓ypre,ypost,↓reduceIte,reduceEqDiff,reduceAdd,reduceSub,reduceLeDiff,zz0,ynew,f1,f4,f5,f6,f7,f8,f9,f10,f11,f38,f43,decide_eq_true hs,wrap64_in]);try simp only[yback])
     refine InvQ_go (K-(c+1)) (by omega) ⟨(c+1),(e+1),kb,fu,rfl,by omega,(by first|rfl|exact f1|(simp only[upd_apply];rfl)|(show I64 _=_;congr 1;omega)),(by first|rfl|exact f4|(simp only[upd_apply];rfl)|(show I64 _=_;congr 1;omega)),(by first|rfl|exact f5|(simp only[upd_apply];rfl)|(show I64 _=_;congr 1;omega)),(by first|rfl|exact f6|(simp only[upd_apply];rfl)|(show I64 _=_;congr 1;omega)),(by rw[nx];exact f7),(by rw[nx];exact f8),(by first|rfl|exact f9|(simp only[upd_apply];rfl)|(show I64 _=_;congr 1;omega)),(by first|rfl|exact f10|(simp only[upd_apply];rfl)|(show I64 _=_;congr 1;omega)),(by first|rfl|exact f11|(simp only[upd_apply];rfl)|(show I64 _=_;congr 1;omega)),(pp.trans p45),(by rw[nx];exact q),hk,(by omega)⟩
    rw[if_neg hs] at nx
    by_cases h0:wrS x J K e=[]
    ·rw[h0] at nx q f7 f8
     ((try simp (maxSteps:=3000000) (dsimp:=false) (disch:=first|omega|simp only[lnx];omega) only[↓ypre,ypost,↓reduceIte,reduceEqDiff,reduceAdd,reduceSub,reduceLeDiff,zz0,ynew,f1,f4,f5,f6,f7,f8,f9,f10,f11,f38,f43,decide_eq_false hs,List.length_nil,decide_true,Int.natCast_zero,fillL,zrep]);try simp only[yback])
     refine first3 q fun H6 l6 k6 q6=>?_
     ((try simp (maxSteps:=3000000) (dsimp:=false) (disch:=first|omega|simp only[lnx];omega) only[↓ypre,ypost,↓reduceIte,reduceEqDiff,reduceAdd,reduceSub,reduceLeDiff,zz0,ynew,f1,f4,f5,f6,f7,f8,f9,f10,f11,f38,f43,wrap64_in]);try simp only[yback])
     refine InvQ_go (K-(c+1)) (by omega) ⟨(c+1),(e+1),(H5.length+1),false,rfl,by omega,(by first|rfl|exact f1|(simp only[upd_apply];rfl)|(show I64 _=_;congr 1;omega)),(by first|rfl|exact f4|(simp only[upd_apply];rfl)|(show I64 _=_;congr 1;omega)),(by first|rfl|exact f5|(simp only[upd_apply];rfl)|(show I64 _=_;congr 1;omega)),(by first|rfl|exact f6|(simp only[upd_apply];rfl)|(show I64 _=_;congr 1;omega)),(by rw[nx];rfl),(by rw[nx];rfl),(by first|rfl|exact f9|(simp only[upd_apply];rfl)|(show I64 _=_;congr 1;omega)),(by first|rfl|exact f10|(simp only[upd_apply];rfl)|(show I64 _=_;congr 1;omega)),(by first|rfl|exact f11|(simp only[upd_apply];rfl)|(show I64 _=_;congr 1;omega)),(k6.pre (pp.trans p45) hk),(by rw[nx];exact q6),(by have:=(pp.trans p45).length_le;omega),(by omega)⟩
    ·have l1:0<(wrS x J K e).length:=List.length_pos_iff.2 h0
     have hd:(wrS x J K e++[[(a:Int),b,c]]).headD []=(wrS x J K e).headD []:=by
      cases hw:wrS x J K e with
      | nil=>exact absurd hw h0
      | cons y ys=>rfl
     have hl:((wrS x J K e++[[(a:Int),b,c]]).length:Int)=(wrS x J K e).length+1:=by simp
     ((try simp (maxSteps:=3000000) (dsimp:=false) (disch:=first|omega|simp only[lnx];omega) only[↓ypre,ypost,↓reduceIte,reduceEqDiff,reduceAdd,reduceSub,reduceLeDiff,zz0,ynew,f1,f4,f5,f6,f7,f8,f9,f10,f11,f38,f43,decide_eq_false hs,decide_eq_false (show ¬ ((wrS x J K e).length:Int)=0 by omega),wrap64_in]);try simp only[yback])
     refine InvQ_go (K-(c+1)) (by omega) ⟨(c+1),(e+1),kb,fu,rfl,by omega,(by first|rfl|exact f1|(simp only[upd_apply];rfl)|(show I64 _=_;congr 1;omega)),(by first|rfl|exact f4|(simp only[upd_apply];rfl)|(show I64 _=_;congr 1;omega)),(by first|rfl|exact f5|(simp only[upd_apply];rfl)|(show I64 _=_;congr 1;omega)),(by first|rfl|exact f6|(simp only[upd_apply];rfl)|(show I64 _=_;congr 1;omega)),(by rw[nx,hd];exact f7),(by rw[nx,hl];rfl),(by first|rfl|exact f9|(simp only[upd_apply];rfl)|(show I64 _=_;congr 1;omega)),(by first|rfl|exact f10|(simp only[upd_apply];rfl)|(show I64 _=_;congr 1;omega)),(by first|rfl|exact f11|(simp only[upd_apply];rfl)|(show I64 _=_;congr 1;omega)),(pp.trans p45),(by rw[nx,hd];exact q),hk,(by omega)⟩
   ·have ec:c=K:=by omega
    ((try simp (maxSteps:=3000000) (dsimp:=false) (disch:=first|omega|simp only[lnx];omega) only[↓ypre,ypost,↓reduceIte,reduceEqDiff,reduceAdd,reduceSub,reduceLeDiff,zz0,ynew,f1,f4,f5,f6,f7,f8,f9,f10,f11,decide_eq_false hlc,wrap64_in]);try simp only[yback])
    refine InvQ_go (J-(b+1)) (by omega) ⟨(b+1),e,kb,fu,rfl,by omega,(by first|rfl|exact f1|(simp only[upd_apply];rfl)|(show I64 _=_;congr 1;omega)),(by first|rfl|exact f4|(simp only[upd_apply];rfl)|(show I64 _=_;congr 1;omega)),(by first|rfl|exact f5|(simp only[upd_apply];rfl)|(show I64 _=_;congr 1;omega)),(by first|rfl|exact f6|(simp only[upd_apply];rfl)|(show I64 _=_;congr 1;omega)),(by first|rfl|exact f7|(simp only[upd_apply];rfl)|(show I64 _=_;congr 1;omega)),(by first|rfl|exact f8|(simp only[upd_apply];rfl)|(show I64 _=_;congr 1;omega)),(by first|rfl|exact f9|(simp only[upd_apply];rfl)|(show I64 _=_;congr 1;omega)),(by first|rfl|exact f10|(simp only[upd_apply];rfl)|(show I64 _=_;congr 1;omega)),pp,q,hk,(by rw[he,ec,Nat.add_mul,Nat.one_mul];omega)⟩
  ·have ebJ:b=J:=by omega
   ((try simp (maxSteps:=3000000) (dsimp:=false) (disch:=first|omega|simp only[lnx];omega) only[↓ypre,ypost,↓reduceIte,reduceEqDiff,reduceAdd,reduceSub,reduceLeDiff,zz0,ynew,f1,f4,f5,f6,f7,f8,f9,f10,decide_eq_false hlb,wrap64_in]);try simp only[yback])
   refine InvQ_go (I-(a+1)) (by omega) ⟨(a+1),e,kb,fu,rfl,by omega,(by first|rfl|exact f1|(simp only[upd_apply];rfl)|(show I64 _=_;congr 1;omega)),(by first|rfl|exact f4|(simp only[upd_apply];rfl)|(show I64 _=_;congr 1;omega)),(by first|rfl|exact f5|(simp only[upd_apply];rfl)|(show I64 _=_;congr 1;omega)),(by first|rfl|exact f6|(simp only[upd_apply];rfl)|(show I64 _=_;congr 1;omega)),(by first|rfl|exact f7|(simp only[upd_apply];rfl)|(show I64 _=_;congr 1;omega)),(by first|rfl|exact f8|(simp only[upd_apply];rfl)|(show I64 _=_;congr 1;omega)),(by first|rfl|exact f9|(simp only[upd_apply];rfl)|(show I64 _=_;congr 1;omega)),pp,q,hk,(by rw[he,ebJ,Nat.add_mul,Nat.one_mul])⟩
 ·have eaI:a=I:=by omega
  ((try simp (maxSteps:=3000000) (dsimp:=false) (disch:=first|omega|simp only[lnx];omega) only[↓ypre,ypost,↓reduceIte,reduceEqDiff,reduceAdd,reduceSub,reduceLeDiff,zz0,ynew,f1,f4,f5,f6,f7,f8,f9,decide_eq_false hla]);try simp only[yback])
  rw[he,eaI] at q ⊢
  exact hQ kb fu _ (p1.trans (p2.trans pp)) q
theorem RowD.pre {lo kb:Nat} {H H':AH} {fu:Bool} {rows:List (List Int)} {B:Nat→Nat} {cs:List Value} (r:RowD lo H kb fu rows B cs) (p:H<+:H'):RowD lo H' kb fu rows B cs:=
 ⟨pre_get p r.get,r.len,r.low,fun i hi=>by
  obtain⟨h1,h2,⟨f,h3⟩,h4⟩:=r.row i hi
  exact⟨h1,h2,⟨f,pre_get p h3⟩,h4⟩,r.inc⟩
theorem i_wrong {v:Value} {x:Sch} {h:AH} {Q:Value→AH→Prop} (hv:Prods h v x.ps) (hx:isX x=true)
  (hQ:∀ kb fu B cs h',h<+:h'→RowD h.length h' kb fu (wrX x) B cs→Q (sl kb (wrX x).length) h'):WF S 158 [schV x v] h Q:=by
 refine WF_fn (fn:=c158) rfl rfl ?_
 dsimp only[c158,oO,oM,oS,oG,oK,oE,oL,oF,oX,oN]
 have o1:=hv.one
 obtain⟨z,hP,hl30,-⟩:=isX_facts hx
 obtain⟨I,J,K,eI,eJ,eK,bI,bJ,bK,eW⟩:=sz_nat z
 rw[eW] at hQ
 ((try simp (maxSteps:=3000000) (dsimp:=false) (disch:=first|omega|simp only[lnx];omega) only[↓ypre,ypost,↓reduceIte,reduceEqDiff,reduceAdd,reduceSub,reduceLeDiff,zz0,ynew,schV,o1]);try simp only[yback])
 generalize hH1:AH.new h _=H1
 obtain⟨hb1,p1,n1⟩:=new_facts hH1
 ((try simp (maxSteps:=3000000) (dsimp:=false) (disch:=first|omega|simp only[lnx];omega) only[↓ypre,ypost,↓reduceIte,reduceEqDiff,reduceAdd,reduceSub,reduceLeDiff,zz0,ynew,rdn_of hb1,fillL,zrep]);try simp only[yback])
 generalize hH2:AH.new H1 _=H2
 obtain⟨hb2,p2,n2⟩:=new_facts hH2
 ((try simp (maxSteps:=3000000) (dsimp:=false) (disch:=first|omega|simp only[lnx];omega) only[↓ypre,ypost,↓reduceIte,reduceEqDiff,reduceAdd,reduceSub,reduceLeDiff,zz0,ynew,rdn_of (pre_get p2 hb1)]);try simp only[yback])
 refine i_placesOf (x:=x) o1 z fun H3 p3=>?_
 rw[eI,eJ,eK]
 have hb1:=pre_get (p2.trans p3) hb1
 have hb2:=pre_get p3 hb2
 refine WO_cut (fun f:Fr=>f 1=.pointer (some ⟨h.length,0,none⟩)∧f 8=.slice (some ⟨H1.length,0,none⟩) 0 1∧f 10=.agg #[I64 I,I64 J,I64 K]∧True) ⟨(by first|rfl|simp[upd_apply]),(by first|rfl|simp[upd_apply]),(by first|rfl|simp[upd_apply]),trivial⟩ ?_
 rintro f ⟨f1,f8,f10,-⟩
 ((try simp (maxSteps:=3000000) (dsimp:=false) (disch:=first|omega|simp only[lnx];omega) only[↓ypre,ypost,↓reduceIte,reduceEqDiff,reduceAdd,reduceSub,reduceLeDiff,zz0,ynew,f1,f8,f10]);try simp only[yback])
 generalize hH4:AH.new H3 _=H4
 obtain⟨g4,p4,n4⟩:=new_facts hH4
 have ix0:ixaV 3 1 (.pointer (some ⟨H3.length,0,none⟩)) (I64 0)=some (.pointer (some ⟨H3.length,0,none⟩)):=rfl
 have ix1:ixaV 3 1 (.pointer (some ⟨H3.length,0,none⟩)) (I64 1)=some (.pointer (some ⟨H3.length,1,none⟩)):=rfl
 have ix2:ixaV 3 1 (.pointer (some ⟨H3.length,0,none⟩)) (I64 2)=some (.pointer (some ⟨H3.length,2,none⟩)):=rfl
 have hb1:=pre_get p4 hb1
 have hb2:=pre_get p4 hb2
 have L1:=pre_len p2
 have L2:=pre_len p3
 ((try simp (maxSteps:=3000000) (dsimp:=false) (disch:=first|omega|simp only[lnx];omega) only[↓ypre,ypost,↓reduceIte,reduceEqDiff,reduceAdd,reduceSub,reduceLeDiff,zz0,ynew,f1,f8,f10,rd1_of g4,ix0]);try simp only[yback])
 have r0:RowD h.length H4 H1.length true [] (fun _=>0) []:=⟨hb2,rfl,by omega,fun i hi=>by simp at hi,fun i j _ hj=>by simp at hj⟩
 have pr:=p1.trans (p2.trans (p3.trans p4))
 refine WC_loop_inv (fun m f K1=>∃ (a:Nat) (e:Nat) (kb:Nat) (fu:Bool) (B:(Nat→Nat)) (cs:List Value),m=I-a∧a≤I∧f 1=.pointer (some ⟨h.length,0,none⟩)∧f 3=sl kb (wrS x J K e).length∧f 4=.pointer (some ⟨H3.length,0,none⟩)∧f 12=I64 I∧f 13=I64 a∧(h<+:K1)∧(K1.get h.length=some ⟨[I64 x.p,I64 x.n,I64 x.m,I64 x.k,v],26,false,true⟩)∧(K1.get H3.length=some ⟨[I64 I,I64 J,I64 K],158,false,true⟩)∧(RowD h.length K1 kb fu (wrS x J K e) B cs)∧(∀ j,j<(wrS x J K e).length→B j<K1.length)∧(e=a*(J*K))) ?_ (I-0) _ _ ⟨0,0,H1.length,true,(fun _=>0),[],rfl,by omega,(by first|rfl|exact f1|(simp[upd_apply];done)),(by first|rfl|simp[upd_apply]),(by first|rfl|simp[upd_apply]),(by first|rfl|simp[upd_apply]),(by first|rfl|simp[upd_apply]),pr,hb1,g4,r0,(fun j hj=>by simp[wrS] at hj),(by simp)⟩
 rintro m f K1 ⟨a,e,kb,fu,B,cs,rfl,ha,f1,f3,f4,f12,f13,pp,hp,g4,r,hB,he⟩
 by_cases hla:(a:Int)<I
 ·((try simp (maxSteps:=3000000) (dsimp:=false) (disch:=first|omega|simp only[lnx];omega) only[↓ypre,ypost,↓reduceIte,reduceEqDiff,reduceAdd,reduceSub,reduceLeDiff,zz0,ynew,f1,f3,f4,f12,f13,decide_eq_true hla,rd1_of g4,ix1]);try simp only[yback])
  refine WC_loop_inv (fun m f K2=>∃ (b:Nat) (e:Nat) (kb:Nat) (fu:Bool) (B:(Nat→Nat)) (cs:List Value),m=J-b∧b≤J∧f 1=.pointer (some ⟨h.length,0,none⟩)∧f 3=sl kb (wrS x J K e).length∧f 4=.pointer (some ⟨H3.length,0,none⟩)∧f 5=I64 a∧f 12=I64 I∧f 13=I64 a∧f 17=I64 J∧f 18=I64 b∧(h<+:K2)∧(K2.get h.length=some ⟨[I64 x.p,I64 x.n,I64 x.m,I64 x.k,v],26,false,true⟩)∧(K2.get H3.length=some ⟨[I64 I,I64 J,I64 K],158,false,true⟩)∧(RowD h.length K2 kb fu (wrS x J K e) B cs)∧(∀ j,j<(wrS x J K e).length→B j<K2.length)∧(e=a*(J*K)+b*K)) ?_ (J-0) _ _ ⟨0,e,kb,fu,B,cs,rfl,by omega,(by first|rfl|exact f1|(simp[upd_apply];done)),(by first|rfl|exact f3|(simp[upd_apply];done)),(by first|rfl|exact f4|(simp[upd_apply];done)),(by first|rfl|simp[upd_apply]),(by first|rfl|exact f12|(simp[upd_apply];done)),(by first|rfl|exact f13|(simp[upd_apply];done)),(by first|rfl|simp[upd_apply]),(by first|rfl|simp[upd_apply]),pp,hp,g4,r,hB,(by rw[he];simp)⟩
  rintro m f K2 ⟨b,e,kb,fu,B,cs,rfl,hb,f1,f3,f4,f5,f12,f13,f17,f18,pp,hp,g4,r,hB,he⟩
  by_cases hlb:(b:Int)<J
  ·((try simp (maxSteps:=3000000) (dsimp:=false) (disch:=first|omega|simp only[lnx];omega) only[↓ypre,ypost,↓reduceIte,reduceEqDiff,reduceAdd,reduceSub,reduceLeDiff,zz0,ynew,f1,f3,f4,f5,f12,f13,f17,f18,decide_eq_true hlb,rd1_of g4,ix2]);try simp only[yback])
   refine WC_loop_inv (fun m f K3=>∃ (c:Nat) (e:Nat) (kb:Nat) (fu:Bool) (B:(Nat→Nat)) (cs:List Value),m=K-c∧c≤K∧f 1=.pointer (some ⟨h.length,0,none⟩)∧f 3=sl kb (wrS x J K e).length∧f 4=.pointer (some ⟨H3.length,0,none⟩)∧f 5=I64 a∧f 6=I64 b∧f 12=I64 I∧f 13=I64 a∧f 17=I64 J∧f 18=I64 b∧f 22=I64 K∧f 23=I64 c∧(h<+:K3)∧(K3.get h.length=some ⟨[I64 x.p,I64 x.n,I64 x.m,I64 x.k,v],26,false,true⟩)∧(K3.get H3.length=some ⟨[I64 I,I64 J,I64 K],158,false,true⟩)∧(RowD h.length K3 kb fu (wrS x J K e) B cs)∧(∀ j,j<(wrS x J K e).length→B j<K3.length)∧(e=a*(J*K)+b*K+c)) ?_ (K-0) _ _ ⟨0,e,kb,fu,B,cs,rfl,by omega,(by first|rfl|exact f1|(simp[upd_apply];done)),(by first|rfl|exact f3|(simp[upd_apply];done)),(by first|rfl|exact f4|(simp[upd_apply];done)),(by first|rfl|exact f5|(simp[upd_apply];done)),(by first|rfl|simp[upd_apply]),(by first|rfl|exact f12|(simp[upd_apply];done)),(by first|rfl|exact f13|(simp[upd_apply];done)),(by first|rfl|exact f17|(simp[upd_apply];done)),(by first|rfl|exact f18|(simp[upd_apply];done)),(by first|rfl|simp[upd_apply]),(by first|rfl|simp[upd_apply]),pp,hp,g4,r,hB,(by rw[he];simp)⟩
   rintro m f K3 ⟨c,e,kb,fu,B,cs,rfl,hc,f1,f3,f4,f5,f6,f12,f13,f17,f18,f22,f23,pp,hp,g4,r,hB,he⟩
   by_cases hlc:(c:Int)<K
   ·have hvK:=hv.pre pp
    have nx:=wrS_next (x:=x) he (show b<J by omega) (show c<K by omega)
    have eb:e≤729:=by
     have h1:a*(J*K)+b*K+c<(a+1)*(J*K):=by
      have h2:b*K+c<J*K:=by
       have:=Nat.mul_le_mul_right K (show b+1≤J by omega)
       rw[Nat.add_mul,Nat.one_mul] at this
       omega
      rw[Nat.add_mul,Nat.one_mul]
      omega
     have h3:=Nat.mul_le_mul_right (J*K) (show a+1≤I by omega)
     exact e_lt bI.2 bJ.2 bK.2 (by omega)
    have ll:=wrS_le (x:=x) (J:=J) (K:=K) (e:=e)
    ((try simp (maxSteps:=3000000) (dsimp:=false) (disch:=first|omega|simp only[lnx];omega) only[↓ypre,ypost,↓reduceIte,reduceEqDiff,reduceAdd,reduceSub,reduceLeDiff,zz0,ynew,f1,f3,f4,f5,f6,f12,f13,f17,f18,f22,f23,decide_eq_true hlc,rdn_of hp]);try simp only[yback])
    refine i_leftSide (x:=x) hvK z hl30 (by omega) (by omega) (by omega) fun H5 p5=>?_
    refine⟨p5,?_⟩
    have hp:=pre_get p5 hp
    refine WO_cut (fun f:Fr=>f 1=.pointer (some ⟨h.length,0,none⟩)∧f 3=sl kb (wrS x J K e).length∧f 4=.pointer (some ⟨H3.length,0,none⟩)∧f 5=I64 a∧f 6=I64 b∧f 7=I64 c∧f 12=I64 I∧f 13=I64 a∧f 17=I64 J∧f 18=I64 b∧f 22=I64 K∧f 23=I64 c∧f 30=I64 (lsX x a b c)∧True) ⟨(by first|rfl|exact f1|simp[upd_apply,f1]),(by first|rfl|exact f3|simp[upd_apply,f3]),(by first|rfl|exact f4|simp[upd_apply,f4]),(by first|rfl|exact f5|simp[upd_apply,f5]),(by first|rfl|exact f6|simp[upd_apply,f6]),(by first|rfl|simp[upd_apply]),(by first|rfl|exact f12|simp[upd_apply,f12]),(by first|rfl|exact f13|simp[upd_apply,f13]),(by first|rfl|exact f17|simp[upd_apply,f17]),(by first|rfl|exact f18|simp[upd_apply,f18]),(by first|rfl|exact f22|simp[upd_apply,f22]),(by first|rfl|exact f23|simp[upd_apply,f23]),(by first|rfl|simp[upd_apply]),trivial⟩ ?_
    rintro f ⟨f1,f3,f4,f5,f6,f7,f12,f13,f17,f18,f22,f23,f30,-⟩
    ((try simp (maxSteps:=3000000) (dsimp:=false) (disch:=first|omega|simp only[lnx];omega) only[↓ypre,ypost,↓reduceIte,reduceEqDiff,reduceAdd,reduceSub,reduceLeDiff,zz0,ynew,f1,f3,f4,f5,f6,f7,f12,f13,f17,f18,f22,f23,f30,rdn_of hp]);try simp only[yback])
    refine i_rightSide (x:=x) o1 z (by omega) (by omega) (by omega) fun H6 p6=>?_
    have p56:=p5.trans p6
    have hp:=pre_get p6 hp
    have g4:=pre_get p56 g4
    have r:=r.pre p56
    have l56:=p56.length_le
    have rlow:=r.low
    refine WO_cut (fun f:Fr=>f 1=.pointer (some ⟨h.length,0,none⟩)∧f 3=sl kb (wrS x J K e).length∧f 4=.pointer (some ⟨H3.length,0,none⟩)∧f 5=I64 a∧f 6=I64 b∧f 7=I64 c∧f 12=I64 I∧f 13=I64 a∧f 17=I64 J∧f 18=I64 b∧f 22=I64 K∧f 23=I64 c∧f 30=I64 (lsX x a b c)∧f 35=I64 (wnX x a b c)∧True) ⟨(by first|rfl|exact f1|simp[upd_apply,f1]),(by first|rfl|exact f3|simp[upd_apply,f3]),(by first|rfl|exact f4|simp[upd_apply,f4]),(by first|rfl|exact f5|simp[upd_apply,f5]),(by first|rfl|exact f6|simp[upd_apply,f6]),(by first|rfl|exact f7|simp[upd_apply,f7]),(by first|rfl|exact f12|simp[upd_apply,f12]),(by first|rfl|exact f13|simp[upd_apply,f13]),(by first|rfl|exact f17|simp[upd_apply,f17]),(by first|rfl|exact f18|simp[upd_apply,f18]),(by first|rfl|exact f22|simp[upd_apply,f22]),(by first|rfl|exact f23|simp[upd_apply,f23]),(by first|rfl|exact f30|simp[upd_apply,f30]),(by first|rfl|simp[upd_apply]),trivial⟩ ?_
    rintro f ⟨f1,f3,f4,f5,f6,f7,f12,f13,f17,f18,f22,f23,f30,f35,-⟩
    by_cases hs:lsX x a b c=wnX x a b c
    ·rw[if_pos hs] at nx
     ((try simp (maxSteps:=3000000) (dsimp:=false) (disch:=first|omega|simp only[lnx];omega) only[↓ypre,ypost,↓reduceIte,reduceEqDiff,reduceAdd,reduceSub,reduceLeDiff,zz0,ynew,f1,f3,f4,f5,f6,f7,f12,f13,f17,f18,f22,f23,f30,f35,decide_eq_false (show ¬ lsX x a b c≠wnX x a b c from fun h=>h hs),wrap64_in]);try simp only[yback])
     refine InvQ_go (K-(c+1)) (by omega) ⟨(c+1),(e+1),kb,fu,B,cs,rfl,by omega,(by first|rfl|exact f1|(simp only[upd_apply];rfl)|(show I64 _=_;congr 1;omega)),(by rw[nx];exact f3),(by first|rfl|exact f4|(simp only[upd_apply];rfl)|(show I64 _=_;congr 1;omega)),(by first|rfl|exact f5|(simp only[upd_apply];rfl)|(show I64 _=_;congr 1;omega)),(by first|rfl|exact f6|(simp only[upd_apply];rfl)|(show I64 _=_;congr 1;omega)),(by first|rfl|exact f12|(simp only[upd_apply];rfl)|(show I64 _=_;congr 1;omega)),(by first|rfl|exact f13|(simp only[upd_apply];rfl)|(show I64 _=_;congr 1;omega)),(by first|rfl|exact f17|(simp only[upd_apply];rfl)|(show I64 _=_;congr 1;omega)),(by first|rfl|exact f18|(simp only[upd_apply];rfl)|(show I64 _=_;congr 1;omega)),(by first|rfl|exact f22|(simp only[upd_apply];rfl)|(show I64 _=_;congr 1;omega)),(by first|rfl|exact f23|(simp only[upd_apply];rfl)|(show I64 _=_;congr 1;omega)),(pp.trans p56),hp,g4,(by rw[nx];exact r),(by rw[nx];exact fun j hj=>Nat.lt_of_lt_of_le (hB j hj) l56),(by omega)⟩
    rw[if_neg hs] at nx
    ((try simp (maxSteps:=3000000) (dsimp:=false) (disch:=first|omega|simp only[lnx];omega) only[↓ypre,ypost,↓reduceIte,reduceEqDiff,reduceAdd,reduceSub,reduceLeDiff,zz0,ynew,f1,f3,f4,f5,f6,f7,f12,f13,f17,f18,f22,f23,f30,f35,decide_eq_true (show lsX x a b c≠wnX x a b c from hs),fillL,zrep,wrap64_in]);try simp only[yback])
    generalize hH7:AH.new H6 _=H7
    obtain⟨g7,p7,n7⟩:=new_facts hH7
    have rk:=get_lt r.get
    have q7:Lst H7 H6.length [(a:Int),b,c] true:=g7
    refine rowd_app (r.pre p7) (by omega) (by have:=pp.length_le;omega) (by omega) (fun j hj=>by have:=hB j hj;omega) q7 fun HZ lZ kZ rZ=>?_
    have hne:∀ m bl,H7.get m=some bl→bl.e≠27→m≠kb:=fun m bl g hb=>by
     rintro rfl
     have:=pre_get p7 r.get
     rw[this] at g
     cases g
     exact hb rfl
    have hp:=kZ.get (hne _ _ (pre_get p7 hp) (by simp)) (pre_get p7 hp)
    have g4:=kZ.get (hne _ _ (pre_get p7 g4) (by simp)) (pre_get p7 g4)
    have ppZ:=kZ.pre (pp.trans (p56.trans p7)) rlow
    have hB2:∀ j,j<(wrS x J K e++[[(a:Int),b,c]]).length→(if j<(wrS x J K e).length then B j else H6.length)<HZ.length:=fun j hj=>by
     split
     ·rename_i hjr
      have:=hB j hjr
      omega
     ·omega
    ((try simp (maxSteps:=3000000) (dsimp:=false) (disch:=first|omega|simp only[lnx];omega) only[↓ypre,ypost,↓reduceIte,reduceEqDiff,reduceAdd,reduceSub,reduceLeDiff,zz0,ynew,f1,f3,f4,f5,f6,f7,f12,f13,f17,f18,f22,f23,f30,f35,wrap64_in]);try simp only[yback])
    refine InvQ_go (K-(c+1)) (by omega) ⟨(c+1),(e+1),(H7.length+1),false,_,_,rfl,by omega,(by first|rfl|exact f1|(simp only[upd_apply];rfl)|(show I64 _=_;congr 1;omega)),(by rw[nx];rfl),(by first|rfl|exact f4|(simp only[upd_apply];rfl)|(show I64 _=_;congr 1;omega)),(by first|rfl|exact f5|(simp only[upd_apply];rfl)|(show I64 _=_;congr 1;omega)),(by first|rfl|exact f6|(simp only[upd_apply];rfl)|(show I64 _=_;congr 1;omega)),(by first|rfl|exact f12|(simp only[upd_apply];rfl)|(show I64 _=_;congr 1;omega)),(by first|rfl|exact f13|(simp only[upd_apply];rfl)|(show I64 _=_;congr 1;omega)),(by first|rfl|exact f17|(simp only[upd_apply];rfl)|(show I64 _=_;congr 1;omega)),(by first|rfl|exact f18|(simp only[upd_apply];rfl)|(show I64 _=_;congr 1;omega)),(by first|rfl|exact f22|(simp only[upd_apply];rfl)|(show I64 _=_;congr 1;omega)),(by first|rfl|exact f23|(simp only[upd_apply];rfl)|(show I64 _=_;congr 1;omega)),ppZ,hp,g4,(by rw[nx];exact rZ),(by rw[nx];exact hB2),(by omega)⟩
   ·have ec:c=K:=by omega
    ((try simp (maxSteps:=3000000) (dsimp:=false) (disch:=first|omega|simp only[lnx];omega) only[↓ypre,ypost,↓reduceIte,reduceEqDiff,reduceAdd,reduceSub,reduceLeDiff,zz0,ynew,f1,f3,f4,f5,f6,f12,f13,f17,f18,f22,f23,decide_eq_false hlc,wrap64_in]);try simp only[yback])
    refine InvQ_go (J-(b+1)) (by omega) ⟨(b+1),e,kb,fu,B,cs,rfl,by omega,(by first|rfl|exact f1|(simp only[upd_apply];rfl)|(show I64 _=_;congr 1;omega)),(by first|rfl|exact f3|(simp only[upd_apply];rfl)|(show I64 _=_;congr 1;omega)),(by first|rfl|exact f4|(simp only[upd_apply];rfl)|(show I64 _=_;congr 1;omega)),(by first|rfl|exact f5|(simp only[upd_apply];rfl)|(show I64 _=_;congr 1;omega)),(by first|rfl|exact f12|(simp only[upd_apply];rfl)|(show I64 _=_;congr 1;omega)),(by first|rfl|exact f13|(simp only[upd_apply];rfl)|(show I64 _=_;congr 1;omega)),(by first|rfl|exact f17|(simp only[upd_apply];rfl)|(show I64 _=_;congr 1;omega)),(by first|rfl|exact f18|(simp only[upd_apply];rfl)|(show I64 _=_;congr 1;omega)),pp,hp,g4,r,hB,(by rw[he,ec,Nat.add_mul,Nat.one_mul];omega)⟩
  ·have ebJ:b=J:=by omega
   ((try simp (maxSteps:=3000000) (dsimp:=false) (disch:=first|omega|simp only[lnx];omega) only[↓ypre,ypost,↓reduceIte,reduceEqDiff,reduceAdd,reduceSub,reduceLeDiff,zz0,ynew,f1,f3,f4,f5,f12,f13,f17,f18,decide_eq_false hlb,wrap64_in]);try simp only[yback])
   refine InvQ_go (I-(a+1)) (by omega) ⟨(a+1),e,kb,fu,B,cs,rfl,by omega,(by first|rfl|exact f1|(simp only[upd_apply];rfl)|(show I64 _=_;congr 1;omega)),(by first|rfl|exact f3|(simp only[upd_apply];rfl)|(show I64 _=_;congr 1;omega)),(by first|rfl|exact f4|(simp only[upd_apply];rfl)|(show I64 _=_;congr 1;omega)),(by first|rfl|exact f12|(simp only[upd_apply];rfl)|(show I64 _=_;congr 1;omega)),(by first|rfl|exact f13|(simp only[upd_apply];rfl)|(show I64 _=_;congr 1;omega)),pp,hp,g4,r,hB,(by rw[he,ebJ,Nat.add_mul,Nat.one_mul])⟩
 ·have eaI:a=I:=by omega
  ((try simp (maxSteps:=3000000) (dsimp:=false) (disch:=first|omega|simp only[lnx];omega) only[↓ypre,ypost,↓reduceIte,reduceEqDiff,reduceAdd,reduceSub,reduceLeDiff,zz0,ynew,f1,f3,f4,f12,f13,decide_eq_false hla]);try simp only[yback])
  rw[he,eaI] at r ⊢
  exact hQ kb fu B cs _ pp r
end Go.Proofs.Ytapafdpnmakekaa.X

set_option linter.unusedVariables false
set_option linter.unusedSimpArgs false
set_option maxRecDepth 20000
set_option maxHeartbeats 4000000
namespace Go.Proofs.Ytapafdpnmakekaa.X
open Go Go.RowKit
theorem smallM_of2 {rows:List (List Int)} {A B:Nat} (h1:rows.length≤A) (h2:∀ i,i<rows.length→(rows.getD i []).length≤B) (hAB:A≤1000∧B≤1000):SmallM rows:=by
 have ht:∀ i,i≤rows.length→tot rows i≤i*1000:=fun i=>by
  induction i with
  | zero=>intro _;simp
  | succ i ih=>
   intro hi
   have e:=tot_succ (rows:=rows) (i:=i) (by omega)
   have:=ih (by omega)
   have:=h2 i (by omega)
   omega
 have:=ht rows.length (Nat.le_refl _)
 exact⟨by omega,fun i hi=>by have:=h2 i hi;omega,by omega⟩
theorem TabS.get {h0 h:AH} {nb i:Nat} {full:Bool} {L:List (Nat×List Int)} (s:TabS h0 h nb full L) (hi:i<L.length):h.rd1 nb i=some (sl (L[i]).1 (L[i]).2.length):=by
 rw[rd1_of s.g]
 simp[hi,rowV,sl]
theorem cg_md (x p:Int):Cg p (x.tmod p) x:=by
 have h:=Int.tmod_add_tdiv_mul x p
 exact⟨-(x.tdiv p),by rw[Int.mul_neg,Int.mul_comm p];omega⟩
theorem cg_eq {p a b:Int} (ha:0≤a∧a<p) (hb:0≤b∧b<p) (h:Cg p a b):a=b:=by
 obtain⟨k,hk⟩:=h
 have:k=0:=by
  by_cases h0:0<k
  ·have:=Int.mul_le_mul_of_nonneg_left (show 1≤k by omega) (show 0≤p by omega)
   omega
  ·by_cases h1:k<0
   ·have:=Int.mul_le_mul_of_nonneg_left (show k ≤ -1 by omega) (show 0≤p by omega)
    omega
   ·omega
 subst this
 omega
end Go.Proofs.Ytapafdpnmakekaa.X

set_option linter.unusedVariables false
set_option linter.unusedSimpArgs false
set_option maxRecDepth 20000
set_option maxHeartbeats 4000000
namespace Go.Proofs.Ytapafdpnmakekaa.X
open Go Go.RowKit
open Nat (reduceEqDiff reduceAdd reduceSub reduceLeDiff)
theorem RowD.put {lo kb m:Nat} {H:AH} {fu:Bool} {rows:List (List Int)} {B:Nat→Nat} {cs:List Value} {b:Blk} (r:RowD lo H kb fu rows B cs) (hm:m≠kb) (hB:∀ i,i<rows.length→B i<m):RowD lo (H.put m b) kb fu rows B cs:=
 ⟨by rw[get_put_ne hm];exact r.get,r.len,r.low,fun i hi=>by
  obtain⟨h1,h2,⟨f,h3⟩,h4⟩:=r.row i hi
  have:=hB i hi
  exact⟨h1,h2,⟨f,by unfold Lst;rw[get_put_ne (by omega)];exact h3⟩,h4⟩,r.inc⟩
theorem len_slN {n I:Nat}:lenV (sl n I)=some (.int .i64 I):=rfl
def crR (x:Sch):Bool×Int:=if isX x=true then (decide (wrX x=[]),0) else (false,1)
def fwR (x:Sch):List Int×Int:=if isX x=true then (if wrX x=[] then ([],4) else ((wrX x).headD [],0)) else ([],1)
def cwR (x:Sch):Int×Int:=if isX x=true then (((wrX x).length:Int),0) else (0,1)
theorem wr_dec {x:Sch}:decide (((wrX x).length:Int)=0)=decide (wrX x=[]):=by
 by_cases h:wrX x=[]
 ·rw[decide_eq_true h,h]
  rfl
 ·have:0<(wrX x).length:=List.length_pos_iff.2 h
  rw[decide_eq_false h,decide_eq_false (by omega)]
theorem s_l01Correct {v:Value} {x:Sch} {h:AH} {Q:Value→AH→Prop} (hv:Prods h v x.ps) (hx:isX x=true)
  (hQ:∀ h',h<+:h'→Q (.bool (decide (wrX x=[]))) h'):WF S 226 [schV x v] h Q:=by
 refine WF_fn (fn:=c226) rfl rfl ?_
 dsimp only[c226,oO,oM,oS,oG,oK,oE,oL,oF,oX,oN]
 have o1:=hv.one
 ((try simp (maxSteps:=3000000) (dsimp:=false) (disch:=first|omega|simp only[lnx];omega) only[↓ypre,ypost,↓reduceIte,reduceEqDiff,reduceAdd,reduceSub,reduceLeDiff,zz0,ynew,schV,o1]);try simp only[yback])
 generalize hH1:AH.new h _=H1
 obtain⟨hb1,p1,n1⟩:=new_facts hH1
 ((try simp (maxSteps:=3000000) (dsimp:=false) (disch:=first|omega|simp only[lnx];omega) only[↓ypre,ypost,↓reduceIte,reduceEqDiff,reduceAdd,reduceSub,reduceLeDiff,zz0,ynew,rdn_of hb1]);try simp only[yback])
 refine s_l01Wrong (x:=x) (hv.pre p1) hx fun kb fu H2 p2 q=>?_
 ((try simp (maxSteps:=3000000) (dsimp:=false) (disch:=first|omega|simp only[lnx];omega) only[↓ypre,ypost,↓reduceIte,reduceEqDiff,reduceAdd,reduceSub,reduceLeDiff,zz0,ynew,wr_dec]);try simp only[yback])
 exact hQ _ (p1.trans p2)
theorem s_IsCorrect {v:Value} {x:Sch} {h:AH} {Q:Value→AH→Prop} (hv:Prods h v x.ps) (hl:SmallX x.ps)
  (hQ:∀ h',h<+:h'→Q (.tuple #[.bool (crR x).1,I64 (crR x).2]) h'):WF S 85 [schV x v] h Q:=by
 refine WF_fn (fn:=c85) rfl rfl ?_
 dsimp only[c85,oO,oM,oS,oG,oK,oE,oL,oF,oX,oN]
 have o1:=hv.one
 ((try simp (maxSteps:=3000000) (dsimp:=false) (disch:=first|omega|simp only[lnx];omega) only[↓ypre,ypost,↓reduceIte,reduceEqDiff,reduceAdd,reduceSub,reduceLeDiff,zz0,ynew,schV,o1]);try simp only[yback])
 generalize hH1:AH.new h _=H1
 obtain⟨hb1,p1,n1⟩:=new_facts hH1
 ((try simp (maxSteps:=3000000) (dsimp:=false) (disch:=first|omega|simp only[lnx];omega) only[↓ypre,ypost,↓reduceIte,reduceEqDiff,reduceAdd,reduceSub,reduceLeDiff,zz0,ynew,rdn_of hb1]);try simp only[yback])
 refine s_l01Is (x:=x) (hv.pre p1) hl fun H2 p2=>?_
 have g2:=pre_get p2 hb1
 by_cases hx:isX x=true
 case neg=>
  ((try simp (maxSteps:=3000000) (dsimp:=false) (disch:=first|omega|simp only[lnx];omega) only[↓ypre,ypost,↓reduceIte,reduceEqDiff,reduceAdd,reduceSub,reduceLeDiff,zz0,ynew,hx]);try simp only[yback])
  have e:crR x=(false,1):=if_neg hx
  rw[e] at hQ
  exact hQ _ (p1.trans p2)
 have e:crR x=(decide (wrX x=[]),0):=if_pos hx
 rw[e] at hQ
 ((try simp (maxSteps:=3000000) (dsimp:=false) (disch:=first|omega|simp only[lnx];omega) only[↓ypre,ypost,↓reduceIte,reduceEqDiff,reduceAdd,reduceSub,reduceLeDiff,zz0,ynew,hx,rdn_of g2]);try simp only[yback])
 refine s_l01Correct (x:=x) (hv.pre (p1.trans p2)) hx fun H3 p3=>?_
 ((try simp (maxSteps:=3000000) (dsimp:=false) (disch:=first|omega|simp only[lnx];omega) only[↓ypre,ypost,↓reduceIte,reduceEqDiff,reduceAdd,reduceSub,reduceLeDiff,zz0,ynew]);try simp only[yback])
 exact hQ _ (p1.trans (p2.trans p3))
theorem i_IsCorrect {v:Value} {x:Sch} {h:AH} {Q:Value→AH→Prop} (hv:Prods h v x.ps) (hl:SmallX x.ps)
  (hQ:∀ h',h<+:h'→Q (.tuple #[.bool (crR x).1,I64 (crR x).2]) h'):WF S 17 [schV x v] h Q:=by
 refine WF_fn (fn:=c17) rfl rfl ?_
 dsimp only[c17,oO,oM,oS,oG,oK,oE,oL,oF,oX,oN]
 have o1:=hv.one
 ((try simp (maxSteps:=3000000) (dsimp:=false) (disch:=first|omega|simp only[lnx];omega) only[↓ypre,ypost,↓reduceIte,reduceEqDiff,reduceAdd,reduceSub,reduceLeDiff,zz0,ynew,schV,o1]);try simp only[yback])
 generalize hH1:AH.new h _=H1
 obtain⟨hb1,p1,n1⟩:=new_facts hH1
 ((try simp (maxSteps:=3000000) (dsimp:=false) (disch:=first|omega|simp only[lnx];omega) only[↓ypre,ypost,↓reduceIte,reduceEqDiff,reduceAdd,reduceSub,reduceLeDiff,zz0,ynew,rdn_of hb1]);try simp only[yback])
 refine i_IsScheme (x:=x) (hv.pre p1) hl fun H2 p2=>?_
 have g2:=pre_get p2 hb1
 by_cases hx:isX x=true
 case neg=>
  ((try simp (maxSteps:=3000000) (dsimp:=false) (disch:=first|omega|simp only[lnx];omega) only[↓ypre,ypost,↓reduceIte,reduceEqDiff,reduceAdd,reduceSub,reduceLeDiff,zz0,ynew,hx]);try simp only[yback])
  have e:crR x=(false,1):=if_neg hx
  rw[e] at hQ
  exact hQ _ (p1.trans p2)
 have e:crR x=(decide (wrX x=[]),0):=if_pos hx
 rw[e] at hQ
 ((try simp (maxSteps:=3000000) (dsimp:=false) (disch:=first|omega|simp only[lnx];omega) only[↓ypre,ypost,↓reduceIte,reduceEqDiff,reduceAdd,reduceSub,reduceLeDiff,zz0,ynew,hx,rdn_of g2]);try simp only[yback])
 refine i_wrong (x:=x) (hv.pre (p1.trans p2)) hx fun kb fu B cs H3 p3 r=>?_
 ((try simp (maxSteps:=3000000) (dsimp:=false) (disch:=first|omega|simp only[lnx];omega) only[↓ypre,ypost,↓reduceIte,reduceEqDiff,reduceAdd,reduceSub,reduceLeDiff,zz0,ynew,len_slN,wr_dec]);try simp only[yback])
 exact hQ _ (p1.trans (p2.trans p3))
theorem s_FirstWrong {v:Value} {x:Sch} {h:AH} {Q:Value→AH→Prop} (hv:Prods h v x.ps) (hl:SmallX x.ps)
  (hQ:∀ v' h',h<+:h'→Ints h' v' (fwR x).1→Q (.tuple #[v',I64 (fwR x).2]) h'):WF S 71 [schV x v] h Q:=by
 refine WF_fn (fn:=c71) rfl rfl ?_
 dsimp only[c71,oO,oM,oS,oG,oK,oE,oL,oF,oX,oN]
 have o1:=hv.one
 ((try simp (maxSteps:=3000000) (dsimp:=false) (disch:=first|omega|simp only[lnx];omega) only[↓ypre,ypost,↓reduceIte,reduceEqDiff,reduceAdd,reduceSub,reduceLeDiff,zz0,ynew,schV,o1]);try simp only[yback])
 generalize hH1:AH.new h _=H1
 obtain⟨hb1,p1,n1⟩:=new_facts hH1
 ((try simp (maxSteps:=3000000) (dsimp:=false) (disch:=first|omega|simp only[lnx];omega) only[↓ypre,ypost,↓reduceIte,reduceEqDiff,reduceAdd,reduceSub,reduceLeDiff,zz0,ynew,rdn_of hb1]);try simp only[yback])
 refine s_l01Is (x:=x) (hv.pre p1) hl fun H2 p2=>?_
 have g2:=pre_get p2 hb1
 by_cases hx:isX x=true
 case neg=>
  ((try simp (maxSteps:=3000000) (dsimp:=false) (disch:=first|omega|simp only[lnx];omega) only[↓ypre,ypost,↓reduceIte,reduceEqDiff,reduceAdd,reduceSub,reduceLeDiff,zz0,ynew,hx]);try simp only[yback])
  have e:fwR x=([],1):=if_neg hx
  rw[e] at hQ
  exact hQ _ _ (p1.trans p2) (.inl ⟨rfl,0,by omega,rfl⟩)
 have e:fwR x=if wrX x=[] then ([],4) else ((wrX x).headD [],0):=if_pos hx
 rw[e] at hQ
 ((try simp (maxSteps:=3000000) (dsimp:=false) (disch:=first|omega|simp only[lnx];omega) only[↓ypre,ypost,↓reduceIte,reduceEqDiff,reduceAdd,reduceSub,reduceLeDiff,zz0,ynew,hx,rdn_of g2]);try simp only[yback])
 refine s_l01Wrong (x:=x) (hv.pre (p1.trans p2)) hx fun kb fu H3 p3 q=>?_
 have pp:=p1.trans (p2.trans p3)
 by_cases hw:wrX x=[]
 ·rw[if_pos hw] at hQ
  ((try simp (maxSteps:=3000000) (dsimp:=false) (disch:=first|omega|simp only[lnx];omega) only[↓ypre,ypost,↓reduceIte,reduceEqDiff,reduceAdd,reduceSub,reduceLeDiff,zz0,ynew,wr_dec,decide_eq_true hw]);try simp only[yback])
  exact hQ _ _ pp (.inl ⟨rfl,0,by omega,rfl⟩)
 ·rw[if_neg hw] at hQ
  ((try simp (maxSteps:=3000000) (dsimp:=false) (disch:=first|omega|simp only[lnx];omega) only[↓ypre,ypost,↓reduceIte,reduceEqDiff,reduceAdd,reduceSub,reduceLeDiff,zz0,ynew,wr_dec,decide_eq_false hw]);try simp only[yback])
  exact hQ _ _ pp q.ints
theorem i_FirstWrong {v:Value} {x:Sch} {h:AH} {Q:Value→AH→Prop} (hv:Prods h v x.ps) (hl:SmallX x.ps)
  (hQ:∀ v' h',h<+:h'→Ints h' v' (fwR x).1→Q (.tuple #[v',I64 (fwR x).2]) h'):WF S 70 [schV x v] h Q:=by
 refine WF_fn (fn:=c70) rfl rfl ?_
 dsimp only[c70,oO,oM,oS,oG,oK,oE,oL,oF,oX,oN]
 have o1:=hv.one
 ((try simp (maxSteps:=3000000) (dsimp:=false) (disch:=first|omega|simp only[lnx];omega) only[↓ypre,ypost,↓reduceIte,reduceEqDiff,reduceAdd,reduceSub,reduceLeDiff,zz0,ynew,schV,o1]);try simp only[yback])
 generalize hH1:AH.new h _=H1
 obtain⟨hb1,p1,n1⟩:=new_facts hH1
 ((try simp (maxSteps:=3000000) (dsimp:=false) (disch:=first|omega|simp only[lnx];omega) only[↓ypre,ypost,↓reduceIte,reduceEqDiff,reduceAdd,reduceSub,reduceLeDiff,zz0,ynew,rdn_of hb1]);try simp only[yback])
 refine i_IsScheme (x:=x) (hv.pre p1) hl fun H2 p2=>?_
 have g2:=pre_get p2 hb1
 by_cases hx:isX x=true
 case neg=>
  ((try simp (maxSteps:=3000000) (dsimp:=false) (disch:=first|omega|simp only[lnx];omega) only[↓ypre,ypost,↓reduceIte,reduceEqDiff,reduceAdd,reduceSub,reduceLeDiff,zz0,ynew,hx]);try simp only[yback])
  have e:fwR x=([],1):=if_neg hx
  rw[e] at hQ
  exact hQ _ _ (p1.trans p2) (.inl ⟨rfl,0,by omega,rfl⟩)
 have e:fwR x=if wrX x=[] then ([],4) else ((wrX x).headD [],0):=if_pos hx
 rw[e] at hQ
 ((try simp (maxSteps:=3000000) (dsimp:=false) (disch:=first|omega|simp only[lnx];omega) only[↓ypre,ypost,↓reduceIte,reduceEqDiff,reduceAdd,reduceSub,reduceLeDiff,zz0,ynew,hx,rdn_of g2]);try simp only[yback])
 refine i_wrong (x:=x) (hv.pre (p1.trans p2)) hx fun kb fu B cs H3 p3 r=>?_
 have pp:=p1.trans (p2.trans p3)
 by_cases hw:wrX x=[]
 ·rw[if_pos hw] at hQ
  ((try simp (maxSteps:=3000000) (dsimp:=false) (disch:=first|omega|simp only[lnx];omega) only[↓ypre,ypost,↓reduceIte,reduceEqDiff,reduceAdd,reduceSub,reduceLeDiff,zz0,ynew,len_slN,wr_dec,decide_eq_true hw]);try simp only[yback])
  exact hQ _ _ pp (.inl ⟨rfl,0,by omega,rfl⟩)
 ·rw[if_neg hw] at hQ
  have l1:0<(wrX x).length:=List.length_pos_iff.2 hw
  obtain⟨m,q,y,ix,rd,iy⟩:=r.rows.row (i:=0) l1
  have ix:ixsV 1 (sl kb (wrX x).length) (I64 0)=some (.pointer (some ⟨m,q,none⟩)):=ix .i64
  ((try simp (maxSteps:=3000000) (dsimp:=false) (disch:=first|omega|simp only[lnx];omega) only[↓ypre,ypost,↓reduceIte,reduceEqDiff,reduceAdd,reduceSub,reduceLeDiff,zz0,ynew,len_slN,wr_dec,decide_eq_false hw,ix,rd]);try simp only[yback])
  refine hQ _ _ pp ?_
  have:(wrX x).headD []=(wrX x).getD 0 []:=by
   cases wrX x<;>rfl
  rw[this]
  exact iy
theorem s_CountWrong {v:Value} {x:Sch} {h:AH} {Q:Value→AH→Prop} (hv:Prods h v x.ps) (hl:SmallX x.ps)
  (hQ:∀ h',h<+:h'→Q (.tuple #[I64 (cwR x).1,I64 (cwR x).2]) h'):WF S 83 [schV x v] h Q:=by
 refine WF_fn (fn:=c83) rfl rfl ?_
 dsimp only[c83,oO,oM,oS,oG,oK,oE,oL,oF,oX,oN]
 have o1:=hv.one
 ((try simp (maxSteps:=3000000) (dsimp:=false) (disch:=first|omega|simp only[lnx];omega) only[↓ypre,ypost,↓reduceIte,reduceEqDiff,reduceAdd,reduceSub,reduceLeDiff,zz0,ynew,schV,o1]);try simp only[yback])
 generalize hH1:AH.new h _=H1
 obtain⟨hb1,p1,n1⟩:=new_facts hH1
 ((try simp (maxSteps:=3000000) (dsimp:=false) (disch:=first|omega|simp only[lnx];omega) only[↓ypre,ypost,↓reduceIte,reduceEqDiff,reduceAdd,reduceSub,reduceLeDiff,zz0,ynew,rdn_of hb1]);try simp only[yback])
 refine s_l01Is (x:=x) (hv.pre p1) hl fun H2 p2=>?_
 have g2:=pre_get p2 hb1
 by_cases hx:isX x=true
 case neg=>
  ((try simp (maxSteps:=3000000) (dsimp:=false) (disch:=first|omega|simp only[lnx];omega) only[↓ypre,ypost,↓reduceIte,reduceEqDiff,reduceAdd,reduceSub,reduceLeDiff,zz0,ynew,hx]);try simp only[yback])
  have e:cwR x=(0,1):=if_neg hx
  rw[e] at hQ
  exact hQ _ (p1.trans p2)
 have e:cwR x=(((wrX x).length:Int),0):=if_pos hx
 rw[e] at hQ
 ((try simp (maxSteps:=3000000) (dsimp:=false) (disch:=first|omega|simp only[lnx];omega) only[↓ypre,ypost,↓reduceIte,reduceEqDiff,reduceAdd,reduceSub,reduceLeDiff,zz0,ynew,hx,rdn_of g2]);try simp only[yback])
 refine s_l01Wrong (x:=x) (hv.pre (p1.trans p2)) hx fun kb fu H3 p3 q=>?_
 ((try simp (maxSteps:=3000000) (dsimp:=false) (disch:=first|omega|simp only[lnx];omega) only[↓ypre,ypost,↓reduceIte,reduceEqDiff,reduceAdd,reduceSub,reduceLeDiff,zz0,ynew]);try simp only[yback])
 exact hQ _ (p1.trans (p2.trans p3))
theorem i_CountWrong {v:Value} {x:Sch} {h:AH} {Q:Value→AH→Prop} (hv:Prods h v x.ps) (hl:SmallX x.ps)
  (hQ:∀ h',h<+:h'→Q (.tuple #[I64 (cwR x).1,I64 (cwR x).2]) h'):WF S 73 [schV x v] h Q:=by
 refine WF_fn (fn:=c73) rfl rfl ?_
 dsimp only[c73,oO,oM,oS,oG,oK,oE,oL,oF,oX,oN]
 have o1:=hv.one
 ((try simp (maxSteps:=3000000) (dsimp:=false) (disch:=first|omega|simp only[lnx];omega) only[↓ypre,ypost,↓reduceIte,reduceEqDiff,reduceAdd,reduceSub,reduceLeDiff,zz0,ynew,schV,o1]);try simp only[yback])
 generalize hH1:AH.new h _=H1
 obtain⟨hb1,p1,n1⟩:=new_facts hH1
 ((try simp (maxSteps:=3000000) (dsimp:=false) (disch:=first|omega|simp only[lnx];omega) only[↓ypre,ypost,↓reduceIte,reduceEqDiff,reduceAdd,reduceSub,reduceLeDiff,zz0,ynew,rdn_of hb1]);try simp only[yback])
 refine i_IsScheme (x:=x) (hv.pre p1) hl fun H2 p2=>?_
 have g2:=pre_get p2 hb1
 by_cases hx:isX x=true
 case neg=>
  ((try simp (maxSteps:=3000000) (dsimp:=false) (disch:=first|omega|simp only[lnx];omega) only[↓ypre,ypost,↓reduceIte,reduceEqDiff,reduceAdd,reduceSub,reduceLeDiff,zz0,ynew,hx]);try simp only[yback])
  have e:cwR x=(0,1):=if_neg hx
  rw[e] at hQ
  exact hQ _ (p1.trans p2)
 have e:cwR x=(((wrX x).length:Int),0):=if_pos hx
 rw[e] at hQ
 ((try simp (maxSteps:=3000000) (dsimp:=false) (disch:=first|omega|simp only[lnx];omega) only[↓ypre,ypost,↓reduceIte,reduceEqDiff,reduceAdd,reduceSub,reduceLeDiff,zz0,ynew,hx,rdn_of g2]);try simp only[yback])
 refine i_wrong (x:=x) (hv.pre (p1.trans p2)) hx fun kb fu B cs H3 p3 r=>?_
 ((try simp (maxSteps:=3000000) (dsimp:=false) (disch:=first|omega|simp only[lnx];omega) only[↓ypre,ypost,↓reduceIte,reduceEqDiff,reduceAdd,reduceSub,reduceLeDiff,zz0,ynew,len_slN]);try simp only[yback])
 exact hQ _ (p1.trans (p2.trans p3))
def pvF (p:Int) (row:List Int) (R:List (List Int)) (l:Nat):Nat→Int
 | 0=>0
 | j+1=>(pvF p row R l j+row.getD j 0*(R.getD j []).getD l 0).tmod p
def ppF (p:Int) (L R:List (List Int)) (k:Nat):List (List Int):=(List.range L.length).map fun i=>gen k fun l=>pvF p (L.getD i []) R l R.length
def ppN (p:Int) (L R:List (List Int)) (k:Nat) (i:Nat):List (List Int):=(List.range i).map fun i=>gen k fun l=>pvF p (L.getD i []) R l R.length
theorem ppN_len {p:Int} {L R:List (List Int)} {k i:Nat}:(ppN p L R k i).length=i:=by simp[ppN]
theorem ppN_next {p:Int} {L R:List (List Int)} {k i:Nat}:ppN p L R k (i+1)=ppN p L R k i++[gen k fun l=>pvF p (L.getD i []) R l R.length]:=by
 simp[ppN,List.range_succ]
structure PM (p:Int) (L R:List (List Int)) (k:Nat):Prop where
 pr:isP p=true
 bn:1≤L.length∧L.length≤3
 bm:1≤R.length∧R.length≤3
 bk:1≤k∧k≤3
 hL:isMat p R.length L=true
 hR:isMat p k R=true
 k0:(R.getD 0 []).length=k
def ppOK (p:Int) (L R:List (List Int)):Bool:=isP p&&(decide (1≤L.length∧L.length≤3)&&(decide (1≤R.length∧R.length≤3)&&(decide (1≤(R.getD 0 []).length∧(R.getD 0 []).length≤3)&&(isMat p R.length L&&isMat p (R.getD 0 []).length R))))
theorem ppOK_iff {p:Int} {L R:List (List Int)}:ppOK p L R=true↔PM p L R (R.getD 0 []).length:=by
 unfold ppOK
 simp only[Bool.and_eq_true,decide_eq_true_eq]
 constructor
 ·rintro⟨h1,h2,h3,h4,h5,h6⟩
  exact⟨h1,h2,h3,h4,h5,h6,rfl⟩
 ·rintro⟨h1,h2,h3,h4,h5,h6,_⟩
  exact⟨h1,h2,h3,h4,h5,h6⟩
def ppR (p:Int) (L R:List (List Int)):List (List Int)×Int:=if ppOK p L R=true then (ppF p L R (R.getD 0 []).length,0) else ([],2)
theorem pv_in {p:Int} {L R:List (List Int)} {k i l:Nat} (pm:PM p L R k) (hi:i<L.length) (hl:l<k):∀ {j:Nat},j≤R.length→0≤pvF p (L.getD i []) R l j∧pvF p (L.getD i []) R l j<p
 | 0,_=>by
  have:=isP_in pm.pr
  unfold pvF
  omega
 | j+1,hj=>by
  have hp:=isP_in pm.pr
  have ih:=pv_in pm hi hl (j:=j) (by omega)
  obtain⟨m1,m2⟩:=isMat_iff.1 pm.hL i hi
  obtain⟨r1,r2⟩:=isMat_iff.1 pm.hR j (by omega)
  have a:=allIn_iff.1 m2 j (by omega)
  have b:=allIn_iff.1 r2 l (by omega)
  have m:=mul_in (A:=4) (B:=4) (a:=(L.getD i []).getD j 0) (b:=(R.getD j []).getD l 0) (by omega) (by omega)
  unfold pvF
  exact tmod_nn (by omega) (by omega)
theorem pv_step {p:Int} {L R:List (List Int)} {k i l j:Nat} (pm:PM p L R k) (hi:i<L.length) (hl:l<k) (hj:j<R.length) :
  (0≤(L.getD i []).getD j 0∧(L.getD i []).getD j 0≤4)∧(0≤(R.getD j []).getD l 0∧(R.getD j []).getD l 0≤4)∧(0≤(L.getD i []).getD j 0*(R.getD j []).getD l 0∧(L.getD i []).getD j 0*(R.getD j []).getD l 0≤4*4)∧(0≤pvF p (L.getD i []) R l j∧pvF p (L.getD i []) R l j≤4)∧(L.getD i []).length=R.length∧(R.getD j []).length=k:=by
 have hp:=isP_in pm.pr
 have ih:=pv_in pm hi hl (j:=j) (by omega)
 obtain⟨m1,m2⟩:=isMat_iff.1 pm.hL i hi
 obtain⟨r1,r2⟩:=isMat_iff.1 pm.hR j (by omega)
 have a:=allIn_iff.1 m2 j (by omega)
 have b:=allIn_iff.1 r2 l (by omega)
 have m:=mul_in (A:=4) (B:=4) (a:=(L.getD i []).getD j 0) (b:=(R.getD j []).getD l 0) (by omega) (by omega)
 refine⟨by omega,by omega,m,by omega,by omega,by omega⟩
theorem s_l01Plain {u z:Value} {p:Int} {L R:List (List Int)} {k:Nat} {h:AH} {Q:Value→AH→Prop} (hu:Rows h u L) (hz:Rows h z R) (pm:PM p L R k)
  (hQ:∀ v' h',h<+:h'→Rows h' v' (ppF p L R k)→Q v' h'):WF S 225 [I64 p,u,z] h Q:=by
 refine WF_fn (fn:=c225) rfl rfl ?_
 dsimp only[c225,oO,oM,oS,oG,oK,oE,oL,oF,oX,oN]
 have hp:=isP_in pm.pr
 have bn:=pm.bn
 have bm:=pm.bm
 have bk:=pm.bk
 ((try simp (maxSteps:=3000000) (dsimp:=false) (disch:=first|omega|simp only[lnx];omega) only[↓ypre,ypost,↓reduceIte,reduceEqDiff,reduceAdd,reduceSub,reduceLeDiff,zz0,ynew,fillL,zrep]);try simp only[yback])
 generalize hH1:AH.new h _=H1
 obtain⟨hb1,p1,n1⟩:=new_facts hH1
 have r0:RowD h.length H1 h.length true (ppN p L R k 0) (fun _=>0) []:=⟨hb1,rfl,Nat.le_refl _,fun i hi=>by simp[ppN] at hi,fun i j _ hj=>by simp[ppN] at hj⟩
 refine WC_loop_inv (fun m f K1=>∃ (i:Nat) (kb:Nat) (fu:Bool) (B:(Nat→Nat)) (cs:List Value),m=L.length-i∧i≤L.length∧f 0=I64 p∧f 1=u∧f 2=z∧f 7=sl kb i∧f 8=I64 i∧(h<+:K1)∧(RowD h.length K1 kb fu (ppN p L R k i) B cs)∧(∀ j,j<i→B j<K1.length)) ?_ (L.length-0) _ _ ⟨0,h.length,true,(fun _=>0),[],rfl,by omega,(by first|rfl|simp[upd_apply]),(by first|rfl|simp[upd_apply]),(by first|rfl|simp[upd_apply]),(by first|rfl|simp[upd_apply]),(by first|rfl|simp[upd_apply]),p1,r0,(fun j hj=>by omega)⟩
 rintro m f K1 ⟨i,kb,fu,B,cs,rfl,hi,f0,f1,f2,f7,f8,pp,r,hB⟩
 have hu1:=hu.pre pp
 have hz1:=hz.pre pp
 have lu:=hu1.len
 have lz:=hz1.len
 by_cases hli:(i:Int)<L.length
 ·obtain⟨m0,q0,y0,ix0,rd0,iy0⟩:=hz1.row (i:=0) (by omega)
  have ix0:ixsV 1 z (I64 0)=some (.pointer (some ⟨m0,q0,none⟩)):=ix0 .i64
  have l0:=iy0.len
  rw[pm.k0] at l0
  ((try simp (maxSteps:=3000000) (dsimp:=false) (disch:=first|omega|simp only[lnx];omega) only[↓ypre,ypost,↓reduceIte,reduceEqDiff,reduceAdd,reduceSub,reduceLeDiff,zz0,ynew,f0,f1,f2,f7,f8,lu,decide_eq_true hli,ix0,rd0,l0,mks_gen (N:=k) (h:=K1) (by omega)]);try simp only[yback])
  generalize hH2:AH.new K1 _=H2
  obtain⟨g2,p2,n2⟩:=new_facts hH2
  have q2:Lst H2 K1.length (gen k fun l=>pvF p (L.getD i []) R l 0) true:=g2
  have rlow:=r.low
  have rlt:=get_lt r.get
  refine WC_loop_inv (fun m f K2=>∃ (j:Nat),m=R.length-j∧j≤R.length∧f 0=I64 p∧f 1=u∧f 2=z∧f 7=sl kb i∧f 8=I64 i∧f 9=sl K1.length k∧f 10=I64 j∧(h<+:K2)∧(RowD h.length K2 kb fu (ppN p L R k i) B cs)∧(Lst K2 K1.length (gen k fun l=>pvF p (L.getD i []) R l j) true)) ?_ (R.length-0) _ _ ⟨0,rfl,by omega,(by first|rfl|exact f0|(simp[upd_apply];done)),(by first|rfl|exact f1|(simp[upd_apply];done)),(by first|rfl|exact f2|(simp[upd_apply];done)),(by first|rfl|exact f7|(simp[upd_apply];done)),(by first|rfl|exact f8|(simp[upd_apply];done)),(by first|rfl|simp[upd_apply]),(by first|rfl|simp[upd_apply]),pp.trans p2,r.pre p2,q2⟩
  rintro m f K2 ⟨j,rfl,hj,f0,f1,f2,f7,f8,f9,f10,pp,r,q⟩
  have hu2:=hu.pre pp
  have hz2:=hz.pre pp
  have lz2:=hz2.len
  by_cases hlj:(j:Int)<R.length
  ·((try simp (maxSteps:=3000000) (dsimp:=false) (disch:=first|omega|simp only[lnx];omega) only[↓ypre,ypost,↓reduceIte,reduceEqDiff,reduceAdd,reduceSub,reduceLeDiff,zz0,ynew,f0,f1,f2,f7,f8,f9,f10,lz2,decide_eq_true hlj]);try simp only[yback])
   have q0:Lst K2 K1.length (gen k fun l=>if l<0 then pvF p (L.getD i []) R l (j+1) else pvF p (L.getD i []) R l j) true:=by
    have e:(gen k fun l=>if l<0 then pvF p (L.getD i []) R l (j+1) else pvF p (L.getD i []) R l j)=gen k fun l=>pvF p (L.getD i []) R l j:=gen_congr fun c hc=>if_neg (by omega)
    rw[e]
    exact q
   refine WC_loop_inv (fun m f K3=>∃ (l:Nat),m=k-l∧l≤k∧f 0=I64 p∧f 1=u∧f 2=z∧f 7=sl kb i∧f 8=I64 i∧f 9=sl K1.length k∧f 10=I64 j∧f 11=I64 l∧(h<+:K3)∧(RowD h.length K3 kb fu (ppN p L R k i) B cs)∧(Lst K3 K1.length (gen k fun l'=>if l'<l then pvF p (L.getD i []) R l' (j+1) else pvF p (L.getD i []) R l' j) true)) ?_ (k-0) _ _ ⟨0,rfl,by omega,(by first|rfl|exact f0|(simp[upd_apply];done)),(by first|rfl|exact f1|(simp[upd_apply];done)),(by first|rfl|exact f2|(simp[upd_apply];done)),(by first|rfl|exact f7|(simp[upd_apply];done)),(by first|rfl|exact f8|(simp[upd_apply];done)),(by first|rfl|exact f9|(simp[upd_apply];done)),(by first|rfl|exact f10|(simp[upd_apply];done)),(by first|rfl|simp[upd_apply]),pp,r,q0⟩
   rintro m f K3 ⟨l,rfl,hl,f0,f1,f2,f7,f8,f9,f10,f11,pp,r,q⟩
   have hu3:=hu.pre pp
   have hz3:=hz.pre pp
   by_cases hll:(l:Int)<k
   ·obtain⟨b1,b2,b3,b4,e1,e2⟩:=pv_step pm (i:=i) (l:=l) (j:=j) (by omega) (by omega) (by omega)
    obtain⟨m1,q1,y1,ix1,rd1,iy1⟩:=hu3.row (i:=i) (by omega)
    obtain⟨m2,q2',y2,ix2,rd2,iy2⟩:=hz3.row (i:=j) (by omega)
    obtain⟨m3,q3,ix3,rd3⟩:=iy1.cell (j:=j) (by omega)
    obtain⟨m4,q4,ix4,rd4⟩:=iy2.cell (j:=l) (by omega)
    have ixn:ixsV 1 (sl K1.length k) (I64 l)=some (.pointer (some ⟨K1.length,l,none⟩)):=Lst.ix (j:=(l:Int)) ⟨by omega,by omega⟩
    have rdn:=q.rd (j:=l) (by rw[gen_len];omega)
    rw[gen_get (by omega),if_neg (by omega)] at rdn
    obtain⟨H5,w5,e5,q5⟩:=q.wr (j:=l) (x:=pvF p (L.getD i []) R l (j+1)) (by rw[gen_len];omega)
    rw[gen_set (by omega) _ rfl] at q5
    have ev:(pvF p (L.getD i []) R l j+(L.getD i []).getD j 0*(R.getD j []).getD l 0).tmod p=pvF p (L.getD i []) R l (j+1):=rfl
    have pp5:h<+:H5:=e5▸pre_put pp (by omega)
    have r5:RowD h.length H5 kb fu (ppN p L R k i) B cs:=e5▸r.put (by omega) (fun a ha=>by rw[ppN_len] at ha;exact hB a ha)
    ((try simp (maxSteps:=3000000) (dsimp:=false) (disch:=first|omega|simp only[lnx];omega) only[↓ypre,ypost,↓reduceIte,reduceEqDiff,reduceAdd,reduceSub,reduceLeDiff,zz0,ynew,f0,f1,f2,f7,f8,f9,f10,f11,len_slN,decide_eq_true hll,ixn,rdn,ix1,rd1,ix2,rd2,ix3,rd3,ix4,rd4,wrap64_in,bin_rem (show p≠0 by omega),ev,w5]);try simp only[yback])
    refine InvQ_go (k-(l+1)) (by omega) ⟨(l+1),rfl,by omega,(by first|rfl|exact f0|(simp only[upd_apply];rfl)|(show I64 _=_;congr 1;omega)),(by first|rfl|exact f1|(simp only[upd_apply];rfl)|(show I64 _=_;congr 1;omega)),(by first|rfl|exact f2|(simp only[upd_apply];rfl)|(show I64 _=_;congr 1;omega)),(by first|rfl|exact f7|(simp only[upd_apply];rfl)|(show I64 _=_;congr 1;omega)),(by first|rfl|exact f8|(simp only[upd_apply];rfl)|(show I64 _=_;congr 1;omega)),(by first|rfl|exact f9|(simp only[upd_apply];rfl)|(show I64 _=_;congr 1;omega)),(by first|rfl|exact f10|(simp only[upd_apply];rfl)|(show I64 _=_;congr 1;omega)),(by first|rfl|exact f11|(simp only[upd_apply];rfl)|(show I64 _=_;congr 1;omega)),pp5,r5,q5⟩
   ·have el:l=k:=by omega
    ((try simp (maxSteps:=3000000) (dsimp:=false) (disch:=first|omega|simp only[lnx];omega) only[↓ypre,ypost,↓reduceIte,reduceEqDiff,reduceAdd,reduceSub,reduceLeDiff,zz0,ynew,f0,f1,f2,f7,f8,f9,f10,f11,len_slN,decide_eq_false hll,wrap64_in]);try simp only[yback])
    have qq:Lst K3 K1.length (gen k fun l=>pvF p (L.getD i []) R l (j+1)) true:=by
     have e:(gen k fun l'=>if l'<l then pvF p (L.getD i []) R l' (j+1) else pvF p (L.getD i []) R l' j)=gen k fun l=>pvF p (L.getD i []) R l (j+1):=gen_congr fun c hc=>if_pos (by omega)
     rw[←e]
     exact q
    refine InvQ_go (R.length-(j+1)) (by omega) ⟨(j+1),rfl,by omega,(by first|rfl|exact f0|(simp only[upd_apply];rfl)|(show I64 _=_;congr 1;omega)),(by first|rfl|exact f1|(simp only[upd_apply];rfl)|(show I64 _=_;congr 1;omega)),(by first|rfl|exact f2|(simp only[upd_apply];rfl)|(show I64 _=_;congr 1;omega)),(by first|rfl|exact f7|(simp only[upd_apply];rfl)|(show I64 _=_;congr 1;omega)),(by first|rfl|exact f8|(simp only[upd_apply];rfl)|(show I64 _=_;congr 1;omega)),(by first|rfl|exact f9|(simp only[upd_apply];rfl)|(show I64 _=_;congr 1;omega)),(by first|rfl|exact f10|(simp only[upd_apply];rfl)|(show I64 _=_;congr 1;omega)),pp,r,qq⟩
  ·have ej:j=R.length:=by omega
   ((try simp (maxSteps:=3000000) (dsimp:=false) (disch:=first|omega|simp only[lnx];omega) only[↓ypre,ypost,↓reduceIte,reduceEqDiff,reduceAdd,reduceSub,reduceLeDiff,zz0,ynew,f0,f1,f2,f7,f8,f9,f10,lz2,decide_eq_false hlj,fillL,zrep,sl_cells,sl_one]);try simp only[yback])
   have ei:(ppN p L R k i).length=i:=ppN_len
   have e2:(gen k fun l=>pvF p (L.getD i []) R l j).length=k:=gen_len
   rw[show sl kb i=sl kb (ppN p L R k i).length by rw[ei],show sl K1.length k=sl K1.length (gen k fun l=>pvF p (L.getD i []) R l j).length by rw[e2]]
   refine rowd_app r (by omega) (by have:=pp.length_le;have:=p1.length_le;omega) (by omega) (fun a ha=>by rw[ei] at ha;exact hB a ha) q fun HZ lZ kZ rZ=>?_
   have eN:ppN p L R k i++[gen k fun l=>pvF p (L.getD i []) R l j]=ppN p L R k (i+1):=by rw[ppN_next,ej]
   rw[eN] at rZ ⊢
   have lq:=q.lt
   ((try simp (maxSteps:=3000000) (dsimp:=false) (disch:=first|omega|simp only[lnx];omega) only[↓ypre,ypost,↓reduceIte,reduceEqDiff,reduceAdd,reduceSub,reduceLeDiff,zz0,ynew,f0,f1,f2,f7,f8,f9,f10,wrap64_in]);try simp only[yback])
   have hB2:∀ a,a<i+1→(if a<(ppN p L R k i).length then B a else K1.length)<HZ.length:=fun a ha=>by
    rw[ei]
    split
    ·rename_i h
     have:=hB a h
     omega
    ·omega
   refine InvQ_go (L.length-(i+1)) (by omega) ⟨(i+1),(K2.length+1),false,_,_,rfl,by omega,(by first|rfl|exact f0|(simp only[upd_apply];rfl)|(show I64 _=_;congr 1;omega)),(by first|rfl|exact f1|(simp only[upd_apply];rfl)|(show I64 _=_;congr 1;omega)),(by first|rfl|exact f2|(simp only[upd_apply];rfl)|(show I64 _=_;congr 1;omega)),(by show sl _ _=sl _ _;rw[ppN_len]),(by first|rfl|exact f8|(simp only[upd_apply];rfl)|(show I64 _=_;congr 1;omega)),(kZ.pre pp rlow),rZ,hB2⟩
 ·have ei:i=L.length:=by omega
  ((try simp (maxSteps:=3000000) (dsimp:=false) (disch:=first|omega|simp only[lnx];omega) only[↓ypre,ypost,↓reduceIte,reduceEqDiff,reduceAdd,reduceSub,reduceLeDiff,zz0,ynew,f0,f1,f2,f7,f8,lu,decide_eq_false hli]);try simp only[yback])
  have rr:=r.rows
  rw[ppN_len] at rr
  refine hQ _ _ pp ?_
  have e:ppN p L R k i=ppF p L R k:=by rw[ei];rfl
  rw[←e]
  exact rr
theorem rd1_pre {h h':AH} {n o:Nat} {v:Value} (p:h<+:h') (e:h.rd1 n o=some v):h'.rd1 n o=some v:=by
 unfold AH.rd1 at e ⊢
 obtain⟨b,hb,hc⟩:=Option.bind_eq_some_iff.1 e
 rw[pre_get p hb]
 exact hc
theorem i_multiply {u z:Value} {p:Int} {L R:List (List Int)} {k:Nat} {h:AH} {Q:Value→AH→Prop} (hu:Rows h u L) (hz:Rows h z R) (pm:PM p L R k)
  (hQ:∀ v' h',h<+:h'→Rows h' v' (ppF p L R k)→Q v' h'):WF S 169 [I64 p,u,z] h Q:=by
 refine WF_fn (fn:=c169) rfl rfl ?_
 dsimp only[c169,oO,oM,oS,oG,oK,oE,oL,oF,oX,oN]
 have hp:=isP_in pm.pr
 have bn:=pm.bn
 have bm:=pm.bm
 have bk:=pm.bk
 ((try simp (maxSteps:=3000000) (dsimp:=false) (disch:=first|omega|simp only[lnx];omega) only[↓ypre,ypost,↓reduceIte,reduceEqDiff,reduceAdd,reduceSub,reduceLeDiff,zz0,ynew,hu.len,fillL,zrep]);try simp only[yback])
 generalize hH1:AH.new h _=H1
 obtain⟨hb1,p1,n1⟩:=new_facts hH1
 have r0:RowD h.length H1 h.length true (ppN p L R k 0) (fun _=>0) []:=⟨hb1,rfl,Nat.le_refl _,fun i hi=>by simp[ppN] at hi,fun i j _ hj=>by simp[ppN] at hj⟩
 ((try simp (maxSteps:=3000000) (dsimp:=false) (disch:=first|omega|simp only[lnx];omega) only[↓ypre,ypost,↓reduceIte,reduceEqDiff,reduceAdd,reduceSub,reduceLeDiff,zz0,ynew,hu.len]);try simp only[yback])
 refine WC_loop_inv (fun m f K1=>∃ (i:Nat) (kb:Nat) (fu:Bool) (B:(Nat→Nat)) (cs:List Value),m=L.length-i∧i≤L.length∧f 0=I64 p∧f 2=z∧f 7=sl kb i∧f 15=u∧f 16=I64 L.length∧f 17=I64 i∧(h<+:K1)∧(RowD h.length K1 kb fu (ppN p L R k i) B cs)∧(∀ j,j<i→B j<K1.length)) ?_ (L.length-0) _ _ ⟨0,h.length,true,(fun _=>0),[],rfl,by omega,(by first|rfl|simp[upd_apply]),(by first|rfl|simp[upd_apply]),(by first|rfl|simp[upd_apply]),(by first|rfl|simp[upd_apply]),(by first|rfl|simp[upd_apply]),(by first|rfl|simp[upd_apply]),p1,r0,(fun j hj=>by omega)⟩
 rintro m f K1 ⟨i,kb,fu,B,cs,rfl,hi,f0,f2,f7,f15,f16,f17,pp,r,hB⟩
 have hu1:=hu.pre pp
 have hz1:=hz.pre pp
 by_cases hli:(i:Int)<L.length
 ·obtain⟨m0,q0,y0,ix0,rd0,iy0⟩:=hz1.row (i:=0) (by omega)
  have ix0:ixsV 1 z (I64 0)=some (.pointer (some ⟨m0,q0,none⟩)):=ix0 .i64
  have l0:=iy0.len
  rw[pm.k0] at l0
  obtain⟨m1,q1,y1,ix1,rd1,iy1⟩:=hu.row (i:=i) (by omega)
  have rd1:=rd1_pre pp rd1
  ((try simp (maxSteps:=3000000) (dsimp:=false) (disch:=first|omega|simp only[lnx];omega) only[↓ypre,ypost,↓reduceIte,reduceEqDiff,reduceAdd,reduceSub,reduceLeDiff,zz0,ynew,f0,f2,f7,f15,f16,f17,decide_eq_true hli,ix1,rd1,ix0,rd0,l0,mks_gen (N:=k) (h:=K1) (by omega)]);try simp only[yback])
  generalize hH2:AH.new K1 _=H2
  obtain⟨g2,p2,n2⟩:=new_facts hH2
  have q2:Lst H2 K1.length (gen k fun l=>if l<0 then pvF p (L.getD i []) R l R.length else 0) true:=by
   have e:(gen k fun l=>if l<0 then pvF p (L.getD i []) R l R.length else 0)=gen k fun _=>0:=gen_congr fun c hc=>if_neg (by omega)
   rw[e]
   exact g2
  have rlow:=r.low
  have rlt:=get_lt r.get
  have iyL:=iy1.pre (pp.trans p2)
  ((try simp (maxSteps:=3000000) (dsimp:=false) (disch:=first|omega|simp only[lnx];omega) only[↓ypre,ypost,↓reduceIte,reduceEqDiff,reduceAdd,reduceSub,reduceLeDiff,zz0,ynew,f0,f2,f7,f15,f16,f17,len_slN]);try simp only[yback])
  refine WC_loop_inv (fun m f K2=>∃ (l:Nat),m=k-l∧l≤k∧f 0=I64 p∧f 2=z∧f 7=sl kb i∧f 9=y1∧f 10=sl K1.length k∧f 15=u∧f 16=I64 L.length∧f 17=I64 i∧f 27=I64 k∧f 28=I64 l∧(h<+:K2)∧(RowD h.length K2 kb fu (ppN p L R k i) B cs)∧(Ints K2 y1 (L.getD i []))∧(Lst K2 K1.length (gen k fun l'=>if l'<l then pvF p (L.getD i []) R l' R.length else 0) true)) ?_ (k-0) _ _ ⟨0,rfl,by omega,(by first|rfl|exact f0|(simp[upd_apply];done)),(by first|rfl|exact f2|(simp[upd_apply];done)),(by first|rfl|exact f7|(simp[upd_apply];done)),(by first|rfl|simp[upd_apply]),(by first|rfl|simp[upd_apply]),(by first|rfl|exact f15|(simp[upd_apply];done)),(by first|rfl|exact f16|(simp[upd_apply];done)),(by first|rfl|exact f17|(simp[upd_apply];done)),(by first|rfl|simp[upd_apply]),(by first|rfl|simp[upd_apply]),pp.trans p2,r.pre p2,iyL,q2⟩
  rintro m f K2 ⟨l,rfl,hl,f0,f2,f7,f9,f10,f15,f16,f17,f27,f28,pp,r,iy,q⟩
  by_cases hll:(l:Int)<k
  ·have el:=(pv_step pm (i:=i) (l:=l) (j:=0) (by omega) (by omega) (by omega)).2.2.2.2.1
   have ly:=iy.len
   rw[el] at ly
   ((try simp (maxSteps:=3000000) (dsimp:=false) (disch:=first|omega|simp only[lnx];omega) only[↓ypre,ypost,↓reduceIte,reduceEqDiff,reduceAdd,reduceSub,reduceLeDiff,zz0,ynew,f0,f2,f7,f9,f10,f15,f16,f17,f27,f28,decide_eq_true hll,ly]);try simp only[yback])
   have q0:Lst K2 K1.length ((gen k fun l'=>if l'<l then pvF p (L.getD i []) R l' R.length else 0).set l (pvF p (L.getD i []) R l 0)) true:=by
    have e:(gen k fun l'=>if l'<l then pvF p (L.getD i []) R l' R.length else 0).set l (pvF p (L.getD i []) R l 0)=gen k fun l'=>if l'<l then pvF p (L.getD i []) R l' R.length else 0:=by
     refine gen_ext (by rw[List.length_set,gen_len]) fun c hc=>?_
     rw[set_getD (by rw[gen_len];omega)]
     split
     ·rename_i h
      rw[h,if_neg (by omega)]
      rfl
     ·rw[gen_get hc]
    rw[e]
    exact q
   refine WC_loop_inv (fun m f K3=>∃ (j:Nat),m=R.length-j∧j≤R.length∧f 0=I64 p∧f 2=z∧f 7=sl kb i∧f 9=y1∧f 10=sl K1.length k∧f 11=I64 l∧f 15=u∧f 16=I64 L.length∧f 17=I64 i∧f 27=I64 k∧f 28=I64 l∧f 31=y1∧f 32=I64 R.length∧f 33=I64 j∧(h<+:K3)∧(RowD h.length K3 kb fu (ppN p L R k i) B cs)∧(Ints K3 y1 (L.getD i []))∧(Lst K3 K1.length ((gen k fun l'=>if l'<l then pvF p (L.getD i []) R l' R.length else 0).set l (pvF p (L.getD i []) R l j)) true)) ?_ (R.length-0) _ _ ⟨0,rfl,by omega,(by first|rfl|exact f0|(simp[upd_apply];done)),(by first|rfl|exact f2|(simp[upd_apply];done)),(by first|rfl|exact f7|(simp[upd_apply];done)),(by first|rfl|exact f9|(simp[upd_apply];done)),(by first|rfl|exact f10|(simp[upd_apply];done)),(by first|rfl|simp[upd_apply]),(by first|rfl|exact f15|(simp[upd_apply];done)),(by first|rfl|exact f16|(simp[upd_apply];done)),(by first|rfl|exact f17|(simp[upd_apply];done)),(by first|rfl|exact f27|(simp[upd_apply];done)),(by first|rfl|exact f28|(simp[upd_apply];done)),(by first|rfl|simp[upd_apply]),(by first|rfl|simp[upd_apply]),(by first|rfl|simp[upd_apply]),pp,r,iy,q0⟩
   rintro m f K3 ⟨j,rfl,hj,f0,f2,f7,f9,f10,f11,f15,f16,f17,f27,f28,f31,f32,f33,pp,r,iy,q⟩
   have hz3:=hz.pre pp
   by_cases hlj:(j:Int)<R.length
   ·obtain⟨b1,b2,b3,b4,e1,e2⟩:=pv_step pm (i:=i) (l:=l) (j:=j) (by omega) (by omega) (by omega)
    obtain⟨m2,q2',y2,ix2,rd2,iy2⟩:=hz3.row (i:=j) (by omega)
    obtain⟨m3,q3,ix3,rd3⟩:=iy.cell (j:=j) (by omega)
    obtain⟨m4,q4,ix4,rd4⟩:=iy2.cell (j:=l) (by omega)
    have ixn:ixsV 1 (sl K1.length k) (I64 l)=some (.pointer (some ⟨K1.length,l,none⟩)):=Lst.ix (j:=(l:Int)) ⟨by omega,by omega⟩
    have rdn:=q.rd (j:=l) (by rw[List.length_set,gen_len];omega)
    rw[set_getD (by rw[gen_len];omega),if_pos rfl] at rdn
    obtain⟨H5,w5,e5,q5⟩:=q.wr (j:=l) (x:=pvF p (L.getD i []) R l (j+1)) (by rw[List.length_set,gen_len];omega)
    rw[List.set_set] at q5
    have ev:(pvF p (L.getD i []) R l j+(L.getD i []).getD j 0*(R.getD j []).getD l 0).tmod p=pvF p (L.getD i []) R l (j+1):=rfl
    have pp5:h<+:H5:=e5▸pre_put pp (by omega)
    have r5:RowD h.length H5 kb fu (ppN p L R k i) B cs:=e5▸r.put (by omega) (fun a ha=>by rw[ppN_len] at ha;exact hB a ha)
    have iy5:Ints H5 y1 (L.getD i []):=iy1.pre pp5
    ((try simp (maxSteps:=3000000) (dsimp:=false) (disch:=first|omega|simp only[lnx];omega) only[↓ypre,ypost,↓reduceIte,reduceEqDiff,reduceAdd,reduceSub,reduceLeDiff,zz0,ynew,f0,f2,f7,f9,f10,f11,f15,f16,f17,f27,f28,f31,f32,f33,decide_eq_true hlj,ixn,rdn,ix2,rd2,ix3,rd3,ix4,rd4,wrap64_in,bin_rem (show p≠0 by omega),ev,w5]);try simp only[yback])
    refine InvQ_go (R.length-(j+1)) (by omega) ⟨(j+1),rfl,by omega,(by first|rfl|exact f0|(simp only[upd_apply];rfl)|(show I64 _=_;congr 1;omega)),(by first|rfl|exact f2|(simp only[upd_apply];rfl)|(show I64 _=_;congr 1;omega)),(by first|rfl|exact f7|(simp only[upd_apply];rfl)|(show I64 _=_;congr 1;omega)),(by first|rfl|exact f9|(simp only[upd_apply];rfl)|(show I64 _=_;congr 1;omega)),(by first|rfl|exact f10|(simp only[upd_apply];rfl)|(show I64 _=_;congr 1;omega)),(by first|rfl|exact f11|(simp only[upd_apply];rfl)|(show I64 _=_;congr 1;omega)),(by first|rfl|exact f15|(simp only[upd_apply];rfl)|(show I64 _=_;congr 1;omega)),(by first|rfl|exact f16|(simp only[upd_apply];rfl)|(show I64 _=_;congr 1;omega)),(by first|rfl|exact f17|(simp only[upd_apply];rfl)|(show I64 _=_;congr 1;omega)),(by first|rfl|exact f27|(simp only[upd_apply];rfl)|(show I64 _=_;congr 1;omega)),(by first|rfl|exact f28|(simp only[upd_apply];rfl)|(show I64 _=_;congr 1;omega)),(by first|rfl|exact f31|(simp only[upd_apply];rfl)|(show I64 _=_;congr 1;omega)),(by first|rfl|exact f32|(simp only[upd_apply];rfl)|(show I64 _=_;congr 1;omega)),(by first|rfl|exact f33|(simp only[upd_apply];rfl)|(show I64 _=_;congr 1;omega)),pp5,r5,iy5,q5⟩
   ·have ej:j=R.length:=by omega
    ((try simp (maxSteps:=3000000) (dsimp:=false) (disch:=first|omega|simp only[lnx];omega) only[↓ypre,ypost,↓reduceIte,reduceEqDiff,reduceAdd,reduceSub,reduceLeDiff,zz0,ynew,f0,f2,f7,f9,f10,f11,f15,f16,f17,f27,f28,f31,f32,f33,decide_eq_false hlj,wrap64_in]);try simp only[yback])
    have qq:Lst K3 K1.length (gen k fun l'=>if l'<l+1 then pvF p (L.getD i []) R l' R.length else 0) true:=by
     have e:=gen_set (N:=k) (c:=l) (f:=fun l'=>pvF p (L.getD i []) R l' R.length) (g:=fun _=>0) (by omega) (pvF p (L.getD i []) R l j) (by rw[ej])
     rw[←e]
     exact q
    refine InvQ_go (k-(l+1)) (by omega) ⟨(l+1),rfl,by omega,(by first|rfl|exact f0|(simp only[upd_apply];rfl)|(show I64 _=_;congr 1;omega)),(by first|rfl|exact f2|(simp only[upd_apply];rfl)|(show I64 _=_;congr 1;omega)),(by first|rfl|exact f7|(simp only[upd_apply];rfl)|(show I64 _=_;congr 1;omega)),(by first|rfl|exact f9|(simp only[upd_apply];rfl)|(show I64 _=_;congr 1;omega)),(by first|rfl|exact f10|(simp only[upd_apply];rfl)|(show I64 _=_;congr 1;omega)),(by first|rfl|exact f15|(simp only[upd_apply];rfl)|(show I64 _=_;congr 1;omega)),(by first|rfl|exact f16|(simp only[upd_apply];rfl)|(show I64 _=_;congr 1;omega)),(by first|rfl|exact f17|(simp only[upd_apply];rfl)|(show I64 _=_;congr 1;omega)),(by first|rfl|exact f27|(simp only[upd_apply];rfl)|(show I64 _=_;congr 1;omega)),(by first|rfl|exact f28|(simp only[upd_apply];rfl)|(show I64 _=_;congr 1;omega)),pp,r,iy,qq⟩
  ·have el:l=k:=by omega
   ((try simp (maxSteps:=3000000) (dsimp:=false) (disch:=first|omega|simp only[lnx];omega) only[↓ypre,ypost,↓reduceIte,reduceEqDiff,reduceAdd,reduceSub,reduceLeDiff,zz0,ynew,f0,f2,f7,f9,f10,f15,f16,f17,f27,f28,decide_eq_false hll,fillL,zrep,sl_cells,sl_one]);try simp only[yback])
   have ei:(ppN p L R k i).length=i:=ppN_len
   have qq:Lst K2 K1.length (gen k fun l=>pvF p (L.getD i []) R l R.length) true:=by
    have e:(gen k fun l'=>if l'<l then pvF p (L.getD i []) R l' R.length else 0)=gen k fun l=>pvF p (L.getD i []) R l R.length:=gen_congr fun c hc=>if_pos (by omega)
    rw[←e]
    exact q
   have e2:(gen k fun l=>pvF p (L.getD i []) R l R.length).length=k:=gen_len
   rw[show sl kb i=sl kb (ppN p L R k i).length by rw[ei],show sl K1.length k=sl K1.length (gen k fun l=>pvF p (L.getD i []) R l R.length).length by rw[e2]]
   refine rowd_app r (by omega) (by have:=pp.length_le;have:=p1.length_le;omega) (by omega) (fun a ha=>by rw[ei] at ha;exact hB a ha) qq fun HZ lZ kZ rZ=>?_
   have eN:ppN p L R k i++[gen k fun l=>pvF p (L.getD i []) R l R.length]=ppN p L R k (i+1):=ppN_next.symm
   rw[eN] at rZ ⊢
   have lq:=q.lt
   ((try simp (maxSteps:=3000000) (dsimp:=false) (disch:=first|omega|simp only[lnx];omega) only[↓ypre,ypost,↓reduceIte,reduceEqDiff,reduceAdd,reduceSub,reduceLeDiff,zz0,ynew,f0,f2,f7,f9,f10,f15,f16,f17,f27,f28,wrap64_in]);try simp only[yback])
   have hB2:∀ a,a<i+1→(if a<(ppN p L R k i).length then B a else K1.length)<HZ.length:=fun a ha=>by
    rw[ei]
    split
    ·rename_i h
     have:=hB a h
     omega
    ·omega
   refine InvQ_go (L.length-(i+1)) (by omega) ⟨(i+1),(K2.length+1),false,_,_,rfl,by omega,(by first|rfl|exact f0|(simp only[upd_apply];rfl)|(show I64 _=_;congr 1;omega)),(by first|rfl|exact f2|(simp only[upd_apply];rfl)|(show I64 _=_;congr 1;omega)),(by show sl _ _=sl _ _;rw[ppN_len]),(by first|rfl|exact f15|(simp only[upd_apply];rfl)|(show I64 _=_;congr 1;omega)),(by first|rfl|exact f16|(simp only[upd_apply];rfl)|(show I64 _=_;congr 1;omega)),(by first|rfl|exact f17|(simp only[upd_apply];rfl)|(show I64 _=_;congr 1;omega)),(kZ.pre pp rlow),rZ,hB2⟩
 ·have ei:i=L.length:=by omega
  ((try simp (maxSteps:=3000000) (dsimp:=false) (disch:=first|omega|simp only[lnx];omega) only[↓ypre,ypost,↓reduceIte,reduceEqDiff,reduceAdd,reduceSub,reduceLeDiff,zz0,ynew,f0,f2,f7,f15,f16,f17,decide_eq_false hli]);try simp only[yback])
  have rr:=r.rows
  rw[ppN_len] at rr
  refine hQ _ _ pp ?_
  have e:ppN p L R k i=ppF p L R k:=by rw[ei];rfl
  rw[←e]
  exact rr
theorem s_PlainProduct {u z:Value} {p:Int} {L R:List (List Int)} {h:AH} {Q:Value→AH→Prop} (hu:Rows h u L) (sL:SmallM L) (hz:Rows h z R) (sR:SmallM R)
  (hQ:∀ v' h',h<+:h'→Rows h' v' (ppR p L R).1→Q (.tuple #[v',I64 (ppR p L R).2]) h'):WF S 81 [I64 p,u,z] h Q:=by
 refine WF_fn (fn:=c81) rfl rfl ?_
 dsimp only[c81,oO,oM,oS,oG,oK,oE,oL,oF,oX,oN]
 have lu:=hu.len
 have lz:=hz.len
 have no:ppOK p L R≠true→Q (.tuple #[.slice none 0 0,I64 2]) h:=fun hh=>by
  have:=hQ (.slice none 0 0) h (List.prefix_refl _)
  unfold ppR at this
  rw[if_neg hh] at this
  exact this ⟨[],.inl ⟨rfl,0,by omega,rfl⟩,rfl,fun i hi=>by simp at hi⟩
 have un:ppOK p L R=(isP p&&(decide (1≤L.length∧L.length≤3)&&(decide (1≤R.length∧R.length≤3)&&(decide (1≤(R.getD 0 []).length∧(R.getD 0 []).length≤3)&&(isMat p R.length L&&isMat p (R.getD 0 []).length R))))):=rfl
 ((try simp (maxSteps:=3000000) (dsimp:=false) (disch:=first|omega|simp only[lnx];omega) only[↓ypre,ypost,↓reduceIte,reduceEqDiff,reduceAdd,reduceSub,reduceLeDiff,zz0,ynew]);try simp only[yback])
 refine s_l01Prime ?_
 cases h1:isP p with
 | false=>
  ((try simp (maxSteps:=3000000) (dsimp:=false) (disch:=first|omega|simp only[lnx];omega) only[↓ypre,ypost,↓reduceIte,reduceEqDiff,reduceAdd,reduceSub,reduceLeDiff,zz0,ynew]);try simp only[yback])
  exact no (by rw[un,h1];simp)
 | true=>
 by_cases h2:(L.length:Int)<1
 ·((try simp (maxSteps:=3000000) (dsimp:=false) (disch:=first|omega|simp only[lnx];omega) only[↓ypre,ypost,↓reduceIte,reduceEqDiff,reduceAdd,reduceSub,reduceLeDiff,zz0,ynew,lu,decide_eq_true h2]);try simp only[yback])
  exact no (by rw[un,decide_eq_false (show ¬ (1≤L.length∧L.length≤3) by omega)];simp)
 by_cases h3:(L.length:Int)>3
 ·((try simp (maxSteps:=3000000) (dsimp:=false) (disch:=first|omega|simp only[lnx];omega) only[↓ypre,ypost,↓reduceIte,reduceEqDiff,reduceAdd,reduceSub,reduceLeDiff,zz0,ynew,lu,decide_eq_false h2,decide_eq_true h3]);try simp only[yback])
  exact no (by rw[un,decide_eq_false (show ¬ (1≤L.length∧L.length≤3) by omega)];simp)
 by_cases h4:(R.length:Int)<1
 ·((try simp (maxSteps:=3000000) (dsimp:=false) (disch:=first|omega|simp only[lnx];omega) only[↓ypre,ypost,↓reduceIte,reduceEqDiff,reduceAdd,reduceSub,reduceLeDiff,zz0,ynew,lu,lz,decide_eq_false h2,decide_eq_false h3,decide_eq_true h4]);try simp only[yback])
  exact no (by rw[un,decide_eq_false (show ¬ (1≤R.length∧R.length≤3) by omega)];simp)
 by_cases h5:(R.length:Int)>3
 ·((try simp (maxSteps:=3000000) (dsimp:=false) (disch:=first|omega|simp only[lnx];omega) only[↓ypre,ypost,↓reduceIte,reduceEqDiff,reduceAdd,reduceSub,reduceLeDiff,zz0,ynew,lu,lz,decide_eq_false h2,decide_eq_false h3,decide_eq_false h4,decide_eq_true h5]);try simp only[yback])
  exact no (by rw[un,decide_eq_false (show ¬ (1≤R.length∧R.length≤3) by omega)];simp)
 obtain⟨m0,q0,y0,ix0,rd0,iy0⟩:=hz.row (i:=0) (by omega)
 have ix0:ixsV 1 z (I64 0)=some (.pointer (some ⟨m0,q0,none⟩)):=ix0 .i64
 have l0:=iy0.len
 ((try simp (maxSteps:=3000000) (dsimp:=false) (disch:=first|omega|simp only[lnx];omega) only[↓ypre,ypost,↓reduceIte,reduceEqDiff,reduceAdd,reduceSub,reduceLeDiff,zz0,ynew,lu,lz,decide_eq_false h2,decide_eq_false h3,decide_eq_false h4,decide_eq_false h5,ix0,rd0,l0]);try simp only[yback])
 refine s_l01In ?_
 by_cases h6:(1:Int)≤((R.getD 0 []).length:Int)∧((R.getD 0 []).length:Int)≤3
 case neg=>
  ((try simp (maxSteps:=3000000) (dsimp:=false) (disch:=first|omega|simp only[lnx];omega) only[↓ypre,ypost,↓reduceIte,reduceEqDiff,reduceAdd,reduceSub,reduceLeDiff,zz0,ynew,decide_eq_false h6]);try simp only[yback])
  exact no (by rw[un,decide_eq_false (show ¬ (1≤(R.getD 0 []).length∧(R.getD 0 []).length≤3) by omega)];simp)
 ((try simp (maxSteps:=3000000) (dsimp:=false) (disch:=first|omega|simp only[lnx];omega) only[↓ypre,ypost,↓reduceIte,reduceEqDiff,reduceAdd,reduceSub,reduceLeDiff,zz0,ynew,decide_eq_true h6]);try simp only[yback])
 refine s_l01Matrix hu sL (isP_in h1) ?_
 rw[decide_eq_true rfl,Bool.and_true]
 cases h7:isMat p (R.length:Int) L with
 | false=>
  ((try simp (maxSteps:=3000000) (dsimp:=false) (disch:=first|omega|simp only[lnx];omega) only[↓ypre,ypost,↓reduceIte,reduceEqDiff,reduceAdd,reduceSub,reduceLeDiff,zz0,ynew]);try simp only[yback])
  exact no (by rw[un,h7];simp)
 | true=>
 ((try simp (maxSteps:=3000000) (dsimp:=false) (disch:=first|omega|simp only[lnx];omega) only[↓ypre,ypost,↓reduceIte,reduceEqDiff,reduceAdd,reduceSub,reduceLeDiff,zz0,ynew]);try simp only[yback])
 refine s_l01Matrix hz sR (isP_in h1) ?_
 rw[decide_eq_true rfl,Bool.and_true]
 cases h8:isMat p ((R.getD 0 []).length:Int) R with
 | false=>
  ((try simp (maxSteps:=3000000) (dsimp:=false) (disch:=first|omega|simp only[lnx];omega) only[↓ypre,ypost,↓reduceIte,reduceEqDiff,reduceAdd,reduceSub,reduceLeDiff,zz0,ynew]);try simp only[yback])
  exact no (by rw[un,h8];simp)
 | true=>
 have ok:ppOK p L R=true:=by rw[un,h1,h7,h8,decide_eq_true (show 1≤L.length∧L.length≤3 by omega),decide_eq_true (show 1≤R.length∧R.length≤3 by omega),decide_eq_true (show 1≤(R.getD 0 []).length∧(R.getD 0 []).length≤3 by omega)];rfl
 ((try simp (maxSteps:=3000000) (dsimp:=false) (disch:=first|omega|simp only[lnx];omega) only[↓ypre,ypost,↓reduceIte,reduceEqDiff,reduceAdd,reduceSub,reduceLeDiff,zz0,ynew]);try simp only[yback])
 refine s_l01Plain hu hz (ppOK_iff.1 ok) fun v' h' p' r'=>?_
 have e:ppR p L R=(ppF p L R (R.getD 0 []).length,0):=if_pos ok
 rw[e] at hQ
 ((try simp (maxSteps:=3000000) (dsimp:=false) (disch:=first|omega|simp only[lnx];omega) only[↓ypre,ypost,↓reduceIte,reduceEqDiff,reduceAdd,reduceSub,reduceLeDiff,zz0,ynew]);try simp only[yback])
 exact hQ _ _ p' r'
theorem i_PlainProduct {u z:Value} {p:Int} {L R:List (List Int)} {h:AH} {Q:Value→AH→Prop} (hu:Rows h u L) (sL:SmallM L) (hz:Rows h z R) (sR:SmallM R)
  (hQ:∀ v' h',h<+:h'→Rows h' v' (ppR p L R).1→Q (.tuple #[v',I64 (ppR p L R).2]) h'):WF S 22 [I64 p,u,z] h Q:=by
 refine WF_fn (fn:=c22) rfl rfl ?_
 dsimp only[c22,oO,oM,oS,oG,oK,oE,oL,oF,oX,oN]
 have lu:=hu.len
 have lz:=hz.len
 have no:∀ H,h<+:H→ppOK p L R≠true→Q (.tuple #[.slice none 0 0,I64 2]) H:=fun H p hh=>by
  have:=hQ (.slice none 0 0) H p
  unfold ppR at this
  rw[if_neg hh] at this
  exact this ⟨[],.inl ⟨rfl,0,by omega,rfl⟩,rfl,fun i hi=>by simp at hi⟩
 have un:ppOK p L R=(isP p&&(decide (1≤L.length∧L.length≤3)&&(decide (1≤R.length∧R.length≤3)&&(decide (1≤(R.getD 0 []).length∧(R.getD 0 []).length≤3)&&(isMat p R.length L&&isMat p (R.getD 0 []).length R))))):=rfl
 ((try simp (maxSteps:=3000000) (dsimp:=false) (disch:=first|omega|simp only[lnx];omega) only[↓ypre,ypost,↓reduceIte,reduceEqDiff,reduceAdd,reduceSub,reduceLeDiff,zz0,ynew,lu,lz]);try simp only[yback])
 refine i_isPrime ?_
 cases h1:isP p with
 | false=>
  ((try simp (maxSteps:=3000000) (dsimp:=false) (disch:=first|omega|simp only[lnx];omega) only[↓ypre,ypost,↓reduceIte,reduceEqDiff,reduceAdd,reduceSub,reduceLeDiff,zz0,ynew]);try simp only[yback])
  exact no _ (List.prefix_refl _) (by rw[un,h1];simp)
 | true=>
 ((try simp (maxSteps:=3000000) (dsimp:=false) (disch:=first|omega|simp only[lnx];omega) only[↓ypre,ypost,↓reduceIte,reduceEqDiff,reduceAdd,reduceSub,reduceLeDiff,zz0,ynew,fillL,zrep]);try simp only[yback])
 generalize hH1:AH.new h _=H1
 obtain⟨g1,p1,n1⟩:=new_facts hH1
 refine i_isSize (ns:=[(L.length:Int),(R.length:Int)]) (Ints.own g1 rfl) (by simp) ?_
 by_cases h2:([(L.length:Int),(R.length:Int)]:List Int).all sz=true
 case neg=>
  ((try simp (maxSteps:=3000000) (dsimp:=false) (disch:=first|omega|simp only[lnx];omega) only[↓ypre,ypost,↓reduceIte,reduceEqDiff,reduceAdd,reduceSub,reduceLeDiff,zz0,ynew,h2]);try simp only[yback])
  refine no _ p1 ?_
  intro hh
  have pm:=ppOK_iff.1 hh
  have a:=pm.bn
  have b:=pm.bm
  refine h2 ?_
  simp only[List.all_cons,List.all_nil,Bool.and_true,Bool.and_eq_true]
  unfold sz
  exact⟨decide_eq_true (by omega),decide_eq_true (by omega)⟩
 have h2':=h2
 simp only[List.all_cons,List.all_nil,Bool.and_true,Bool.and_eq_true] at h2'
 unfold sz at h2'
 rw[decide_eq_true_eq,decide_eq_true_eq] at h2'
 have hz1:=hz.pre p1
 obtain⟨m0,q0,y0,ix0,rd0,iy0⟩:=hz1.row (i:=0) (by omega)
 have ix0:ixsV 1 z (I64 0)=some (.pointer (some ⟨m0,q0,none⟩)):=ix0 .i64
 have l0:=iy0.len
 ((try simp (maxSteps:=3000000) (dsimp:=false) (disch:=first|omega|simp only[lnx];omega) only[↓ypre,ypost,↓reduceIte,reduceEqDiff,reduceAdd,reduceSub,reduceLeDiff,zz0,ynew,h2,ix0,rd0,l0,fillL,zrep]);try simp only[yback])
 generalize hH2:AH.new H1 _=H2
 obtain⟨g2,p2,n2⟩:=new_facts hH2
 refine i_isSize (ns:=[((R.getD 0 []).length:Int)]) (Ints.own g2 rfl) (by simp) ?_
 have p12:=p1.trans p2
 by_cases h3:([((R.getD 0 []).length:Int)]:List Int).all sz=true
 case neg=>
  ((try simp (maxSteps:=3000000) (dsimp:=false) (disch:=first|omega|simp only[lnx];omega) only[↓ypre,ypost,↓reduceIte,reduceEqDiff,reduceAdd,reduceSub,reduceLeDiff,zz0,ynew,h3]);try simp only[yback])
  refine no _ p12 ?_
  intro hh
  have a:=(ppOK_iff.1 hh).bk
  refine h3 ?_
  simp only[List.all_cons,List.all_nil,Bool.and_true]
  unfold sz
  exact decide_eq_true (by omega)
 have h3':=h3
 simp only[List.all_cons,List.all_nil,Bool.and_true] at h3'
 unfold sz at h3'
 rw[decide_eq_true_eq] at h3'
 ((try simp (maxSteps:=3000000) (dsimp:=false) (disch:=first|omega|simp only[lnx];omega) only[↓ypre,ypost,↓reduceIte,reduceEqDiff,reduceAdd,reduceSub,reduceLeDiff,zz0,ynew,h3]);try simp only[yback])
 refine i_isMatrix (hu.pre p12) (by omega) (fun i hi=>by have:=sL.2.1 i hi;omega) ?_
 rw[decide_eq_true rfl,Bool.and_true]
 cases h7:isMat p (R.length:Int) L with
 | false=>
  ((try simp (maxSteps:=3000000) (dsimp:=false) (disch:=first|omega|simp only[lnx];omega) only[↓ypre,ypost,↓reduceIte,reduceEqDiff,reduceAdd,reduceSub,reduceLeDiff,zz0,ynew]);try simp only[yback])
  exact no _ p12 (by rw[un,h7];simp)
 | true=>
 ((try simp (maxSteps:=3000000) (dsimp:=false) (disch:=first|omega|simp only[lnx];omega) only[↓ypre,ypost,↓reduceIte,reduceEqDiff,reduceAdd,reduceSub,reduceLeDiff,zz0,ynew]);try simp only[yback])
 refine i_isMatrix (hz.pre p12) (by omega) (fun i hi=>by have:=sR.2.1 i hi;omega) ?_
 rw[decide_eq_true rfl,Bool.and_true]
 cases h8:isMat p ((R.getD 0 []).length:Int) R with
 | false=>
  ((try simp (maxSteps:=3000000) (dsimp:=false) (disch:=first|omega|simp only[lnx];omega) only[↓ypre,ypost,↓reduceIte,reduceEqDiff,reduceAdd,reduceSub,reduceLeDiff,zz0,ynew]);try simp only[yback])
  exact no _ p12 (by rw[un,h8];simp)
 | true=>
 have ok:ppOK p L R=true:=by rw[un,h1,h7,h8,decide_eq_true (show 1≤L.length∧L.length≤3 by omega),decide_eq_true (show 1≤R.length∧R.length≤3 by omega),decide_eq_true (show 1≤(R.getD 0 []).length∧(R.getD 0 []).length≤3 by omega)];rfl
 ((try simp (maxSteps:=3000000) (dsimp:=false) (disch:=first|omega|simp only[lnx];omega) only[↓ypre,ypost,↓reduceIte,reduceEqDiff,reduceAdd,reduceSub,reduceLeDiff,zz0,ynew]);try simp only[yback])
 refine i_multiply (hu.pre p12) (hz.pre p12) (ppOK_iff.1 ok) fun v' h' p' r'=>?_
 have e:ppR p L R=(ppF p L R (R.getD 0 []).length,0):=if_pos ok
 rw[e] at hQ
 ((try simp (maxSteps:=3000000) (dsimp:=false) (disch:=first|omega|simp only[lnx];omega) only[↓ypre,ypost,↓reduceIte,reduceEqDiff,reduceAdd,reduceSub,reduceLeDiff,zz0,ynew]);try simp only[yback])
 exact hQ _ _ (p12.trans p') r'
theorem ppR_small (p:Int) (L R:List (List Int)):SmallM (ppR p L R).1:=by
 unfold ppR
 split
 ·rename_i h
  have pm:=ppOK_iff.1 h
  have a:=pm.bn
  have b:=pm.bk
  refine smallM_of2 (A:=3) (B:=3) (by simp[ppF];omega) (fun i hi=>?_) (by omega)
  simp only[ppF,List.length_map,List.length_range] at hi
  have e:(ppF p L R (R.getD 0 []).length).getD i []=gen (R.getD 0 []).length fun l=>pvF p (L.getD i []) R l R.length:=by
   simp[ppF,List.getD_eq_getElem?_getD,hi]
  rw[e,gen_len]
  omega
 ·exact smallM_of2 (A:=0) (B:=0) (by simp) (fun i hi=>by simp at hi) (by omega)
theorem pv_sm {p:Int} {row:List Int} {R:List (List Int)} {l:Nat}:∀ {j:Nat},Cg p (pvF p row R l j) (sm j fun a=>row.getD a 0*(R.getD a []).getD l 0)
 | 0=>Cg.rfl'
 | j+1=>(cg_md _ _).trans (pv_sm.add Cg.rfl')
theorem takeD {L:List (List Int)} {m:Nat} (h:m<L.length):L.take (m+1)=L.take m++[L.getD m []]:=by
 rw[List.take_add_one,List.getElem?_eq_getElem h,List.getD_eq_getElem?_getD,List.getElem?_eq_getElem h]
 rfl
theorem Els.rdAll {k:IntKind} {w:Nat} {h:AH} {v:Value} {L:List (List Int)} (e:Els k w h v L) (hl:0<L.length) :
  ∃ b off,v=.slice (some ⟨b,off,none⟩) L.length w∧h.rdn b off (L.length*w)=some (cel k L.flatten):=by
 rcases e with⟨rfl,-⟩|⟨b,off,blk,h1,h2,h3⟩
 ·simp at hl
 refine⟨b,off,h1,?_⟩
 have key:∀ m,m≤L.length→off+m*w≤blk.c.length∨m=0∧True→(blk.c.drop off).take (m*w)=cel k (L.take m).flatten:=by
  intro m hm _
  induction m with
  | zero=>simp[cel]
  | succ m ih=>
   obtain⟨g1,g2⟩:=h3 m (by omega)
   rw[Nat.succ_mul,List.take_add,ih (by omega) (by left;omega),takeD (by omega),List.flatten_append,List.drop_drop,g2]
   simp[cel]
 have hb:=(h3 (L.length-1) (by omega)).1
 have hb':off+L.length*w≤blk.c.length:=by
  have:L.length*w=(L.length-1)*w+w:=by
   rw[←Nat.succ_mul]
   congr 1
   omega
  omega
 rw[rdn_of h2,if_pos hb',key _ (Nat.le_refl _) (Or.inl hb'),List.take_length]
theorem set_flat {w:Nat} {q:List Int} (hq:q.length=w):∀ {L:List (List Int)} {j:Nat},Wid w L→j<L.length→L.flatten.take (j*w)++q++L.flatten.drop (j*w+w)=(L.set j q).flatten
 | [],j,_,h=>by simp at h
 | r::L,0,hw,_=>by
  have:=hw r (by simp)
  simp[←this]
 | r::L,j+1,hw,h=>by
  have hr:=hw r (by simp)
  have ih:=set_flat hq (L:=L) (j:=j) (fun x hx=>hw x (by simp[hx])) (by simpa using h)
  rw[List.set_cons_succ,List.flatten_cons,List.flatten_cons,←ih,Nat.succ_mul]
  rw[List.take_append,List.drop_append,List.take_of_length_le (by omega),List.drop_eq_nil_of_le (by omega),List.nil_append,
   show j*w+w-r.length=j*w by omega,show j*w+w+w-r.length=j*w+w by omega]
  simp only[List.append_assoc]
theorem splice_flat {k:IntKind} {w:Nat} {q:List Int} {L:List (List Int)} {j:Nat} (hq:q.length=w) (hw:Wid w L) (hj:j<L.length):splice (cel k L.flatten) (j*w) (cel k q)=cel k (L.set j q).flatten:=by
 rw[splice_eq,←set_flat hq hw hj]
 simp only[cel,List.map_append,List.map_take,List.map_drop,List.length_map,hq]
structure SchB (x:Sch):Prop where
 p:-1000≤x.p∧x.p≤1000
 n:-1000≤x.n∧x.n≤1000
 m:-1000≤x.m∧x.m≤1000
 k:-1000≤x.k∧x.k≤1000
 l:SmallX x.ps
theorem copy_zero {k:IntKind} {w bytes:Nat} {e:TypeId} {H:AH} {v:Value} {L:List (List Int)} (he:Els k w H v L) (hl:0<L.length) (hs:(L.length:Int)*bytes≤140737488355328∧(L.length:Int)≤9223372036854775807) {Q:Value→AH→Prop}
  (hQ:∀ H':AH,H'.length=H.length+2→H<+:H'→H'.get (H.length+1)=some ⟨cel k L.flatten,e,false,false⟩→Q (.slice (some ⟨H.length+1,0,none⟩) L.length w) H') :
  OQ (appV e w bytes (.slice (some ⟨H.length,0,none⟩) 0 w) v (H.new ⟨[],e,false,true⟩)) Q:=by
 obtain⟨b,off,rfl,hrd⟩:=(he.pre (pre_new (List.prefix_refl _):H<+:H.new ⟨[],e,false,true⟩)).rdAll hl
 rw[app_zeroW (k:=H.length) get_new_same hrd hl hs,OQ_some,len_new]
 have p:H<+:((H.new ⟨[],e,false,true⟩).kill H.length).new ⟨cel k L.flatten,e,false,false⟩:=pre_new (pre_kill (pre_new (List.prefix_refl _)) (Nat.le_refl _))
 exact hQ _ (by rw[len_new,len_kill,len_new]) p (get_new_eq (by rw[len_kill,len_new]))
theorem byt_set {L:List (List Int)} {a e j0:Nat} {d:Int} (b:Byt 27 L) (ha:a<L.length) (he:e<L.length) (hd:0≤d∧d≤255):Byt 27 (L.set e ((L.getD a []).set j0 d)):=by
 intro i hi j hj
 rw[List.length_set] at hi
 by_cases hie:i=e
 ·subst hie
  rw[List.getD_eq_getElem?_getD (l:=L.set i _),List.getElem?_set_self hi,Option.getD_some]
  by_cases hjj:j0=j
  ·subst hjj
   by_cases hl:j0<(L.getD a []).length
   ·rw[List.getD_eq_getElem?_getD,List.getElem?_set_self hl,Option.getD_some]
    exact hd
   ·rw[List.getD_eq_getElem?_getD,List.getElem?_eq_none (by rw[List.length_set];omega),Option.getD_none]
    omega
  ·rw[List.getD_eq_getElem?_getD,List.getElem?_set_ne hjj,←List.getD_eq_getElem?_getD]
   exact b a ha j hj
 ·rw[List.getD_eq_getElem?_getD (l:=L.set e _),List.getElem?_set_ne (Ne.symm hie),←List.getD_eq_getElem?_getD]
  exact b i hi j hj
theorem wid_set {w e:Nat} {L:List (List Int)} {q:List Int} (hw:Wid w L) (hq:q.length=w):Wid w (L.set e q):=by
 intro r hr
 rcases List.mem_or_eq_of_mem_set hr with h|h
 ·exact hw r h
 ·rw[h];exact hq
theorem s_l01Bad {h0 h:AH} {n lo:Nat} {v:Value} {x:Sch} {Q:Value→AH→Prop} (s:Src h0 h n) (xb:SchB x) (hlo:n<lo∧lo≤h.length) (hv:SchD lo h v x) (h9:-100≤x.k∧x.k≤100)
  (hQ:∀ (x':Sch) (v':Value) (h':AH),Kp n h h'→Src h0 h' n→SchD lo h' v' x'→SchB x'→Q (schV x' v') h'):WF S 269 [srcP n,schV x v] h Q:=by
 refine WF_fn (fn:=c269) rfl rfl ?_
 dsimp only[c269,oO,oM,oS,oG,oK,oE,oL,oF,oX,oN]
 have lt:=s.lt
 have l0:=pre_len s.p
 have v1:isOne v=true:=hv.now.one
 obtain⟨b1,b2,b3,b4,b5⟩:=xb
 ((try simp (maxSteps:=3000000) (dsimp:=false) (disch:=first|omega|simp only[lnx];omega) only[↓ypre,ypost,↓reduceIte,reduceEqDiff,reduceAdd,reduceSub,reduceLeDiff,zz0,ynew,schV,v1]);try simp only[yback])
 generalize hH1:AH.new h _=H1
 obtain⟨hb1,p1,n1⟩:=new_facts hH1
 generalize hH2:AH.new H1 _=H2
 obtain⟨hb2,p2,n2⟩:=new_facts hH2
 have old:∀ (x':Sch) (h':AH) (B B':Blk),x'.ps=x.ps→Kp n h h'→Src h0 h' n→SchB x'→Q (schV x' v) ((h'.put H1.length B).put h.length B'):=fun x' h' B B' e kk ss tb=>by
  have kf:Kp n h ((h'.put H1.length B).put h.length B'):=(kk.putb (m:=H1.length) (by omega)).putb (m:=h.length) (by omega)
  exact hQ x' v _ kf ((ss.putb (by omega) (by omega)).putb (by omega) (by omega)) (fun h2 k2 k3=>by rw[e];exact hv.kp kf hlo.1 h2 k2 k3) tb
 refine s_l01Next (s.kp (p1.trans p2)) fun r H3 k3 l3 s3 hr _=>?_
 have g1:=k3.get (by omega) (pre_get p2 hb1)
 have g2:=k3.get (by omega) hb2
 have kk3:Kp n h H3:=(Kp.of (p1.trans p2)).trans k3
 by_cases r0:r=0
 ·((try simp (maxSteps:=3000000) (dsimp:=false) (disch:=first|omega|simp only[lnx];omega) only[↓ypre,ypost,↓reduceIte,reduceEqDiff,reduceAdd,reduceSub,reduceLeDiff,zz0,ynew,decide_eq_true r0,fillL,zrep]);try simp only[yback])
  generalize hH4:AH.new H3 _=H4
  obtain⟨hb4,p4,n4⟩:=new_facts hH4
  have kv:=kp_new (n:=n) (ns:=[0,4,7,3]) hH4 (by omega)
  refine s_l01Pick (s3.kp p4) kv (by simp) (by simp) fun j H5 k5 l5 s5 hj=>?_
  have bp:=pick_in (l:=[0,4,7,3]) (a:=0) (b:=7) (by simp) hj
  generalize ([0,4,7,3]:List Int).getD j 0=p at bp
  have g1:=k5.get (by omega) (pre_get p4 g1)
  have g2:=k5.get (by omega) (pre_get p4 g2)
  have lg1:=get_lt g1
  have lg2:=get_lt g2
  ((try simp (maxSteps:=3000000) (dsimp:=false) (disch:=first|omega|simp only[lnx];omega) only[↓ypre,ypost,↓reduceIte,reduceEqDiff,reduceAdd,reduceSub,reduceLeDiff,zz0,ynew,wr_of g1,v1,wr_of g2,splice_eq,rdn_put_same]);try simp only[yback])
  exact old ⟨p,x.n,x.m,x.k,x.ps⟩ H5 _ _ rfl (kk3.trans ((Kp.of p4).trans k5)) s5 ⟨by show -1000≤p∧p≤1000;omega,b2,b3,b4,b5⟩
 by_cases r1:r=1
 ·((try simp (maxSteps:=3000000) (dsimp:=false) (disch:=first|omega|simp only[lnx];omega) only[↓ypre,ypost,↓reduceIte,reduceEqDiff,reduceAdd,reduceSub,reduceLeDiff,zz0,ynew,decide_eq_false r0,decide_eq_true r1,fillL,zrep]);try simp only[yback])
  generalize hH4:AH.new H3 _=H4
  obtain⟨hb4,p4,n4⟩:=new_facts hH4
  have kv:=kp_new (n:=n) (ns:=[0,4,-1]) hH4 (by omega)
  refine s_l01Pick (s3.kp p4) kv (by simp) (by simp) fun j H5 k5 l5 s5 hj=>?_
  have bp:=pick_in (l:=[0,4,-1]) (a:=-1) (b:=4) (by simp) hj
  generalize ([0,4,-1]:List Int).getD j 0=p at bp
  have g1:=k5.get (by omega) (pre_get p4 g1)
  have g2:=k5.get (by omega) (pre_get p4 g2)
  have lg1:=get_lt g1
  have lg2:=get_lt g2
  ((try simp (maxSteps:=3000000) (dsimp:=false) (disch:=first|omega|simp only[lnx];omega) only[↓ypre,ypost,↓reduceIte,reduceEqDiff,reduceAdd,reduceSub,reduceLeDiff,zz0,ynew,wr_of g1,v1,wr_of g2,splice_eq,rdn_put_same]);try simp only[yback])
  exact old ⟨x.p,p,x.m,x.k,x.ps⟩ H5 _ _ rfl (kk3.trans ((Kp.of p4).trans k5)) s5 ⟨b1,by show -1000≤p∧p≤1000;omega,b3,b4,b5⟩
 by_cases r2:r=2
 ·((try simp (maxSteps:=3000000) (dsimp:=false) (disch:=first|omega|simp only[lnx];omega) only[↓ypre,ypost,↓reduceIte,reduceEqDiff,reduceAdd,reduceSub,reduceLeDiff,zz0,ynew,decide_eq_false r0,decide_eq_false r1,decide_eq_true r2,rd1_of g1,wrap64_in,fillL,zrep]);try simp only[yback])
  generalize hH4:AH.new H3 _=H4
  obtain⟨hb4,p4,n4⟩:=new_facts hH4
  have kv:=kp_new (n:=n) (ns:=[0,4,x.k-1]) hH4 (by omega)
  refine s_l01Pick (s3.kp p4) kv (by simp) (by simp) fun j H5 k5 l5 s5 hj=>?_
  have bp:=pick_in (l:=[0,4,x.k-1]) (a:=-1000) (b:=1000) (by simp;omega) hj
  generalize ([0,4,x.k-1]:List Int).getD j 0=p at bp
  have g1:=k5.get (by omega) (pre_get p4 g1)
  have g2:=k5.get (by omega) (pre_get p4 g2)
  have lg1:=get_lt g1
  have lg2:=get_lt g2
  ((try simp (maxSteps:=3000000) (dsimp:=false) (disch:=first|omega|simp only[lnx];omega) only[↓ypre,ypost,↓reduceIte,reduceEqDiff,reduceAdd,reduceSub,reduceLeDiff,zz0,ynew,wr_of g1,v1,wr_of g2,splice_eq,rdn_put_same]);try simp only[yback])
  exact old ⟨x.p,x.n,x.m,p,x.ps⟩ H5 _ _ rfl (kk3.trans ((Kp.of p4).trans k5)) s5 ⟨b1,b2,b3,bp,b5⟩
 have lg1:=get_lt g1
 have lg2:=get_lt g2
 have e3:=(hv.kp kk3 hlo.1).now
 have hl:=e3.1.len
 have kf:Kp n h (H3.put H1.length ⟨[I64 x.p,I64 x.n,I64 x.m,I64 x.k,v],26,false,true⟩):=kk3.putb (m:=H1.length) (by omega)
 have done:Q (schV x v) (H3.put H1.length ⟨[I64 x.p,I64 x.n,I64 x.m,I64 x.k,v],26,false,true⟩):=hQ x v _ kf (s3.putb (by omega) (by omega)) (hv.kp kf hlo.1) ⟨b1,b2,b3,b4,b5⟩
 by_cases r3:r=3∨r=4∨r=5
 case neg=>
  ((try simp (maxSteps:=3000000) (dsimp:=false) (disch:=first|omega|simp only[lnx];omega) only[↓ypre,ypost,↓reduceIte,reduceEqDiff,reduceAdd,reduceSub,reduceLeDiff,zz0,ynew,decide_eq_false r0,decide_eq_false r1,decide_eq_false r2,decide_eq_false (show ¬ r=3 by omega),decide_eq_false (show ¬ r=4 by omega),decide_eq_false (show ¬ r=5 by omega),v1,rdn_of g1,wr_of g2,splice_eq,rdn_put_same]);try simp only[yback])
  exact done
 by_cases hk:(x.ps.length:Int)>0
 case neg=>
  rcases r3 with rfl|rfl|rfl
  ·((try simp (maxSteps:=3000000) (dsimp:=false) (disch:=first|omega|simp only[lnx];omega) only[↓ypre,ypost,↓reduceIte,reduceEqDiff,reduceAdd,reduceSub,reduceLeDiff,zz0,ynew,decide_eq_false r0,decide_eq_false r1,decide_eq_false r2,decide_eq_true (show (3:Int)=3 from rfl),rd1_of g1,hl,decide_eq_false hk,v1,rdn_of g1,wr_of g2,splice_eq,rdn_put_same]);try simp only[yback])
   exact done
  ·((try simp (maxSteps:=3000000) (dsimp:=false) (disch:=first|omega|simp only[lnx];omega) only[↓ypre,ypost,↓reduceIte,reduceEqDiff,reduceAdd,reduceSub,reduceLeDiff,zz0,ynew,decide_eq_false r0,decide_eq_false r1,decide_eq_false r2,decide_eq_false (show ¬ (4:Int)=3 by omega),decide_eq_true (show (4:Int)=4 from rfl),rd1_of g1,hl,decide_eq_false hk,v1,rdn_of g1,wr_of g2,splice_eq,rdn_put_same]);try simp only[yback])
   exact done
  ·((try simp (maxSteps:=3000000) (dsimp:=false) (disch:=first|omega|simp only[lnx];omega) only[↓ypre,ypost,↓reduceIte,reduceEqDiff,reduceAdd,reduceSub,reduceLeDiff,zz0,ynew,decide_eq_false r0,decide_eq_false r1,decide_eq_false r2,decide_eq_false (show ¬ (5:Int)=3 by omega),decide_eq_false (show ¬ (5:Int)=4 by omega),decide_eq_true (show (5:Int)=5 from rfl),rd1_of g1,hl,decide_eq_false hk,v1,rdn_of g1,wr_of g2,splice_eq,rdn_put_same]);try simp only[yback])
   exact done
 obtain⟨vb,vo,hve,hrd⟩:=e3.1.rdAll (by omega)
 rcases r3 with rfl|rfl|rfl
 ·((try simp (maxSteps:=3000000) (dsimp:=false) (disch:=first|omega|simp only[lnx];omega) only[↓ypre,ypost,↓reduceIte,reduceEqDiff,reduceAdd,reduceSub,reduceLeDiff,zz0,ynew,decide_eq_false r0,decide_eq_false r1,decide_eq_false r2,decide_eq_true (show (3:Int)=3 from rfl),rd1_of g1,hl,decide_eq_true hk,fillL,zrep]);try simp only[yback])
  refine copy_zero e3.1 (by omega) (by unfold SmallX at b5;omega) fun H4 l4 p4 g4=>?_
  have n3:=s3.lt
  have s4:=s3.kp p4
  obtain⟨L,hL⟩:∃ L:Nat,L=x.ps.length:=⟨_,rfl⟩
  refine WO_cut (fun f:Fr=>f 0=srcP n∧f 3=.pointer (some ⟨h.length,0,none⟩)∧f 4=.pointer (some ⟨H1.length,0,none⟩)∧f 5=I64 x.ps.length∧f 43=.slice (some ⟨H3.length+1,0,none⟩) x.ps.length 27∧True) ⟨(by first|rfl|simp[upd_apply]),(by first|rfl|simp[upd_apply]),(by first|rfl|simp[upd_apply]),(by first|rfl|simp[upd_apply]),(by first|rfl|simp[upd_apply]),trivial⟩ ?_
  rintro f ⟨f0,f3,f4,f5,f43,-⟩
  ((try simp (maxSteps:=3000000) (dsimp:=false) (disch:=first|omega|simp only[lnx];omega) only[↓ypre,ypost,↓reduceIte,reduceEqDiff,reduceAdd,reduceSub,reduceLeDiff,zz0,ynew,f0,f3,f4,f5,f43]);try simp only[yback])
  refine s_l01Next s4 fun a H5 k5 l5 s5 ha _=>?_
  have ha:=ha (by omega)
  obtain⟨a,rfl⟩:∃ a':Nat,a=a':=⟨a.toNat,by omega⟩
  have g5:=k5.get (by omega) g4
  have w27:Wid 27 x.ps:=e3.1.widL
  have e5:Els .u8 27 H5 (.slice (some ⟨H3.length+1,0,none⟩) x.ps.length 27) x.ps:=(blk_kN (lo:=H3.length+1) g5 w27 (Nat.le_refl _)).now
  obtain⟨na,oa,ixa,rda⟩:=e5.rdw (i:=a) (by omega)
  have hqa:(x.ps.getD a []).length=27:=e5.wid (by omega)
  ((try simp (maxSteps:=3000000) (dsimp:=false) (disch:=first|omega|simp only[lnx];omega) only[↓ypre,ypost,↓reduceIte,reduceEqDiff,reduceAdd,reduceSub,reduceLeDiff,zz0,ynew,f0,f3,f4,f5,f43,ixa,rda,zeros27,cel_len,cel_all,hqa,List.length_replicate,sp27z hqa]);try simp only[yback])
  generalize hH6:AH.new H5 _=H6
  obtain⟨g6,p6,n6⟩:=new_facts hH6
  refine s_l01Next (s5.kp p6) fun c0 H7 k7 l7 s7 hc _=>?_
  have hc:=hc (by omega)
  obtain⟨c0,rfl⟩:∃ c':Nat,c0=c':=⟨c0.toNat,by omega⟩
  have n5:=s5.lt
  have g6:=k7.get (by omega) g6
  refine WO_cut (fun f:Fr=>f 0=srcP n∧f 3=.pointer (some ⟨h.length,0,none⟩)∧f 4=.pointer (some ⟨H1.length,0,none⟩)∧f 5=I64 x.ps.length∧f 6=.slice (some ⟨H3.length+1,0,none⟩) x.ps.length 27∧f 7=.pointer (some ⟨H5.length,0,none⟩)∧f 51=I64 c0∧True) ⟨(by first|rfl|exact f0|simp[upd_apply,f0]),(by first|rfl|exact f3|simp[upd_apply,f3]),(by first|rfl|exact f4|simp[upd_apply,f4]),(by first|rfl|exact f5|simp[upd_apply,f5]),(by first|rfl|simp[upd_apply]),(by first|rfl|simp[upd_apply]),(by first|rfl|simp[upd_apply]),trivial⟩ ?_
  rintro f ⟨f0,f3,f4,f5,f6,f7,f51,-⟩
  ((try simp (maxSteps:=3000000) (dsimp:=false) (disch:=first|omega|simp only[lnx];omega) only[↓ypre,ypost,↓reduceIte,reduceEqDiff,reduceAdd,reduceSub,reduceLeDiff,zz0,ynew,f0,f3,f4,f5,f6,f7,f51]);try simp only[yback])
  refine s_l01Next s7 fun d H8 k8 l8 s8 hd _=>?_
  have hd:=hd (by omega)
  have g6:=k8.get (by omega) g6
  have ic:=ixa_u (n:=H5.length) (off:=9) (len:=9) (kk:=.i64) (j:=c0) (by omega)
  refine WO_cut (fun f:Fr=>f 0=srcP n∧f 3=.pointer (some ⟨h.length,0,none⟩)∧f 4=.pointer (some ⟨H1.length,0,none⟩)∧f 5=I64 x.ps.length∧f 6=.slice (some ⟨H3.length+1,0,none⟩) x.ps.length 27∧f 7=.pointer (some ⟨H5.length,0,none⟩)∧f 51=I64 c0∧f 53=I64 d∧True) ⟨(by first|rfl|exact f0|simp[upd_apply,f0]),(by first|rfl|exact f3|simp[upd_apply,f3]),(by first|rfl|exact f4|simp[upd_apply,f4]),(by first|rfl|exact f5|simp[upd_apply,f5]),(by first|rfl|exact f6|simp[upd_apply,f6]),(by first|rfl|exact f7|simp[upd_apply,f7]),(by first|rfl|exact f51|simp[upd_apply,f51]),(by first|rfl|simp[upd_apply]),trivial⟩ ?_
  rintro f ⟨f0,f3,f4,f5,f6,f7,f51,f53,-⟩
  have st:=cel_set (k:=.u8) (q:=x.ps.getD a []) (j:=9+c0) (x:=d) (by omega)
  ((try simp (maxSteps:=3000000) (dsimp:=false) (disch:=first|omega|simp only[lnx];omega) only[↓ypre,ypost,↓reduceIte,reduceEqDiff,reduceAdd,reduceSub,reduceLeDiff,zz0,ynew,f0,f3,f4,f5,f6,f7,f51,f53,wrap8_in,ic,wr_of g6,st,cel_len,hqa]);try simp only[yback])
  refine⟨by omega,?_⟩
  generalize hq':(x.ps.getD a []).set (9+c0) d=q'
  have lq':q'.length=27:=by rw[←hq',List.length_set];exact hqa
  generalize hH9:AH.put H8 _ _=H9
  have n7:=s7.lt
  have n8:=s8.lt
  have lg6:=get_lt g6
  have l9:H9.length=H8.length:=by rw[←hH9,len_put]
  have g9:H9.get H5.length=some ⟨cel .u8 q',138,false,true⟩:=hH9▸get_put_same lg6
  have s9:Src h0 H9 n:=hH9▸s8.putb (by omega) (by omega)
  have k59:Kp n H5 H9:=hH9▸(((Kp.of p6).trans k7).trans k8).putb (by omega)
  refine s_l01Next s9 fun e H10 k10 l10 s10 he _=>?_
  have he:=he (by omega)
  obtain⟨e,rfl⟩:∃ e':Nat,e=e':=⟨e.toNat,by omega⟩
  refine⟨⟨_,rfl,k10⟩,?_⟩
  have g10:=k10.get (by omega) g9
  have kA:=k59.trans k10
  have g510:=kA.get (by omega) g5
  have ie:ixsV 27 (.slice (some ⟨H3.length+1,0,none⟩) x.ps.length 27) (I64 e)=some (.pointer (some ⟨H3.length+1,e*27,none⟩)):=by
   rw[ixsV_some,if_pos (by omega),Int.toNat_natCast,Nat.zero_add]
  refine WO_cut (fun f:Fr=>f 0=srcP n∧f 3=.pointer (some ⟨h.length,0,none⟩)∧f 4=.pointer (some ⟨H1.length,0,none⟩)∧f 6=.slice (some ⟨H3.length+1,0,none⟩) x.ps.length 27∧f 7=.pointer (some ⟨H5.length,0,none⟩)∧f 57=.slice (some ⟨H3.length+1,0,none⟩) x.ps.length 27∧f 58=srcP n∧f 60=I64 e∧True) ⟨(by first|rfl|exact f0|simp[upd_apply,f0]),(by first|rfl|exact f3|simp[upd_apply,f3]),(by first|rfl|exact f4|simp[upd_apply,f4]),(by first|rfl|exact f6|simp[upd_apply,f6]),(by first|rfl|exact f7|simp[upd_apply,f7]),(by first|rfl|simp[upd_apply]),(by first|rfl|simp[upd_apply]),(by first|rfl|simp[upd_apply]),trivial⟩ ?_
  rintro f ⟨f0,f3,f4,f6,f7,f57,f58,f60,-⟩
  have rd27:H10.rdn H5.length 0 27=some (cel .u8 q'):=by
   rw[rdn_of g10,if_pos (by rw[cel_len,lq'];omega),List.drop_zero,List.take_of_length_le (by rw[cel_len,lq'];exact Nat.le_refl _)]
  have fl:=flat_len w27
  have sf:=splice_flat (k:=.u8) lq' w27 (j:=e) (by omega)
  have g1:=kA.get (by omega) (k5.get (by omega) (pre_get p4 g1))
  have g2:=kA.get (by omega) (k5.get (by omega) (pre_get p4 g2))
  have lg1:=get_lt g1
  have lg2:=get_lt g2
  have o1:isOne (.slice (some ⟨H3.length+1,0,none⟩) x.ps.length 27)=true:=rfl
  have oc:cellsL (.slice (some ⟨H3.length+1,0,none⟩) x.ps.length 27)=[.slice (some ⟨H3.length+1,0,none⟩) x.ps.length 27]:=rfl
  ((try simp (maxSteps:=3000000) (dsimp:=false) (disch:=first|omega|simp only[lnx];omega) only[↓ypre,ypost,↓reduceIte,reduceEqDiff,reduceAdd,reduceSub,reduceLeDiff,zz0,ynew,f0,f3,f4,f6,f7,f57,f58,f60,rd27,ie,wr_of g510,cel_len,cel_all,lq',sf,fl,wr_of g1,wr_of g2,splice_eq]);try simp only[yback])
  refine⟨by omega,by omega,?_⟩
  ((try simp (maxSteps:=3000000) (dsimp:=false) (disch:=first|omega|simp only[lnx];omega) only[↓ypre,ypost,↓reduceIte,reduceEqDiff,reduceAdd,reduceSub,reduceLeDiff,zz0,ynew,f0,f3,f4,f6,f7,f57,f58,f60,wr_of g1,wr_of g2,splice_eq,rdn_put_same]);try simp only[yback])
  have kk:=(((kk3.trans (Kp.of p4)).trans k5).trans kA)
  have el:(x.ps.set e q').length=x.ps.length:=List.length_set
  rw[←el]
  refine hQ ⟨x.p,x.n,x.m,x.k,x.ps.set e q'⟩ _ _ (((kk.putb (m:=H1.length) (by omega)).putb (m:=h.length) (by omega)).putb (m:=H3.length+1) (by omega)) (((s10.putb (m:=H1.length) (by omega) (by omega)).putb (m:=h.length) (by omega) (by omega)).putb (m:=H3.length+1) (by omega) (by omega)) ?_ ⟨b1,b2,b3,b4,by unfold SmallX at b5 ⊢;rw[el];exact b5⟩
  have bt:Byt 27 (x.ps.set e q'):=hq'▸byt_set e3.2 (by omega) (by omega) (by omega)
  have lgk:=get_lt g510
  exact fun h2 k2 k3=>⟨blk_kN (lo:=lo) (m:=H3.length+1) (get_put_same (by rw[len_put,len_put];omega)) (wid_set w27 lq') (by omega) h2 k2 k3,bt⟩
 ·((try simp (maxSteps:=3000000) (dsimp:=false) (disch:=first|omega|simp only[lnx];omega) only[↓ypre,ypost,↓reduceIte,reduceEqDiff,reduceAdd,reduceSub,reduceLeDiff,zz0,ynew,decide_eq_false r0,decide_eq_false r1,decide_eq_false r2,decide_eq_false (show ¬ (4:Int)=3 by omega),decide_eq_true (show (4:Int)=4 from rfl),rd1_of g1,hl,decide_eq_true hk,fillL,zrep]);try simp only[yback])
  refine copy_zero e3.1 (by omega) (by unfold SmallX at b5;omega) fun H4 l4 p4 g4=>?_
  have n3:=s3.lt
  have s4:=s3.kp p4
  obtain⟨L,hL⟩:∃ L:Nat,L=x.ps.length:=⟨_,rfl⟩
  refine WO_cut (fun f:Fr=>f 0=srcP n∧f 3=.pointer (some ⟨h.length,0,none⟩)∧f 4=.pointer (some ⟨H1.length,0,none⟩)∧f 5=I64 x.ps.length∧f 43=.slice (some ⟨H3.length+1,0,none⟩) x.ps.length 27∧True) ⟨(by first|rfl|exact f0|simp[upd_apply,f0]),(by first|rfl|exact f3|simp[upd_apply,f3]),(by first|rfl|exact f4|simp[upd_apply,f4]),(by first|rfl|exact f5|simp[upd_apply,f5]),(by first|rfl|exact f43|simp[upd_apply,f43]),trivial⟩ ?_
  rintro f ⟨f0,f3,f4,f5,f43,-⟩
  ((try simp (maxSteps:=3000000) (dsimp:=false) (disch:=first|omega|simp only[lnx];omega) only[↓ypre,ypost,↓reduceIte,reduceEqDiff,reduceAdd,reduceSub,reduceLeDiff,zz0,ynew,f0,f3,f4,f5,f43]);try simp only[yback])
  refine s_l01Next s4 fun a H5 k5 l5 s5 ha _=>?_
  have ha:=ha (by omega)
  obtain⟨a,rfl⟩:∃ a':Nat,a=a':=⟨a.toNat,by omega⟩
  have g5:=k5.get (by omega) g4
  have w27:Wid 27 x.ps:=e3.1.widL
  have e5:Els .u8 27 H5 (.slice (some ⟨H3.length+1,0,none⟩) x.ps.length 27) x.ps:=(blk_kN (lo:=H3.length+1) g5 w27 (Nat.le_refl _)).now
  obtain⟨na,oa,ixa,rda⟩:=e5.rdw (i:=a) (by omega)
  have hqa:(x.ps.getD a []).length=27:=e5.wid (by omega)
  ((try simp (maxSteps:=3000000) (dsimp:=false) (disch:=first|omega|simp only[lnx];omega) only[↓ypre,ypost,↓reduceIte,reduceEqDiff,reduceAdd,reduceSub,reduceLeDiff,zz0,ynew,f0,f3,f4,f5,f43,ixa,rda,zeros27,cel_len,cel_all,hqa,List.length_replicate,sp27z hqa]);try simp only[yback])
  generalize hH6:AH.new H5 _=H6
  obtain⟨g6,p6,n6⟩:=new_facts hH6
  refine s_l01Next (s5.kp p6) fun c0 H7 k7 l7 s7 hc _=>?_
  have hc:=hc (by omega)
  obtain⟨c0,rfl⟩:∃ c':Nat,c0=c':=⟨c0.toNat,by omega⟩
  have n5:=s5.lt
  have g6:=k7.get (by omega) g6
  refine WO_cut (fun f:Fr=>f 0=srcP n∧f 3=.pointer (some ⟨h.length,0,none⟩)∧f 4=.pointer (some ⟨H1.length,0,none⟩)∧f 5=I64 x.ps.length∧f 6=.slice (some ⟨H3.length+1,0,none⟩) x.ps.length 27∧f 7=.pointer (some ⟨H5.length,0,none⟩)∧f 51=I64 c0∧True) ⟨(by first|rfl|exact f0|simp[upd_apply,f0]),(by first|rfl|exact f3|simp[upd_apply,f3]),(by first|rfl|exact f4|simp[upd_apply,f4]),(by first|rfl|exact f5|simp[upd_apply,f5]),(by first|rfl|exact f6|simp[upd_apply,f6]),(by first|rfl|exact f7|simp[upd_apply,f7]),(by first|rfl|exact f51|simp[upd_apply,f51]),trivial⟩ ?_
  rintro f ⟨f0,f3,f4,f5,f6,f7,f51,-⟩
  ((try simp (maxSteps:=3000000) (dsimp:=false) (disch:=first|omega|simp only[lnx];omega) only[↓ypre,ypost,↓reduceIte,reduceEqDiff,reduceAdd,reduceSub,reduceLeDiff,zz0,ynew,f0,f3,f4,f5,f6,f7,f51]);try simp only[yback])
  refine s_l01Next s7 fun d H8 k8 l8 s8 hd _=>?_
  have hd:=hd (by omega)
  have g6:=k8.get (by omega) g6
  have ic:=ixa_u (n:=H5.length) (off:=9) (len:=9) (kk:=.i64) (j:=c0) (by omega)
  refine WO_cut (fun f:Fr=>f 0=srcP n∧f 3=.pointer (some ⟨h.length,0,none⟩)∧f 4=.pointer (some ⟨H1.length,0,none⟩)∧f 5=I64 x.ps.length∧f 6=.slice (some ⟨H3.length+1,0,none⟩) x.ps.length 27∧f 7=.pointer (some ⟨H5.length,0,none⟩)∧f 51=I64 c0∧f 53=I64 d∧True) ⟨(by first|rfl|exact f0|simp[upd_apply,f0]),(by first|rfl|exact f3|simp[upd_apply,f3]),(by first|rfl|exact f4|simp[upd_apply,f4]),(by first|rfl|exact f5|simp[upd_apply,f5]),(by first|rfl|exact f6|simp[upd_apply,f6]),(by first|rfl|exact f7|simp[upd_apply,f7]),(by first|rfl|exact f51|simp[upd_apply,f51]),(by first|rfl|exact f53|simp[upd_apply,f53]),trivial⟩ ?_
  rintro f ⟨f0,f3,f4,f5,f6,f7,f51,f53,-⟩
  have st:=cel_set (k:=.u8) (q:=x.ps.getD a []) (j:=9+c0) (x:=d) (by omega)
  ((try simp (maxSteps:=3000000) (dsimp:=false) (disch:=first|omega|simp only[lnx];omega) only[↓ypre,ypost,↓reduceIte,reduceEqDiff,reduceAdd,reduceSub,reduceLeDiff,zz0,ynew,f0,f3,f4,f5,f6,f7,f51,f53,wrap8_in,ic,wr_of g6,st,cel_len,hqa]);try simp only[yback])
  refine⟨by omega,?_⟩
  generalize hq':(x.ps.getD a []).set (9+c0) d=q'
  have lq':q'.length=27:=by rw[←hq',List.length_set];exact hqa
  generalize hH9:AH.put H8 _ _=H9
  have n7:=s7.lt
  have n8:=s8.lt
  have lg6:=get_lt g6
  have l9:H9.length=H8.length:=by rw[←hH9,len_put]
  have g9:H9.get H5.length=some ⟨cel .u8 q',138,false,true⟩:=hH9▸get_put_same lg6
  have s9:Src h0 H9 n:=hH9▸s8.putb (by omega) (by omega)
  have k59:Kp n H5 H9:=hH9▸(((Kp.of p6).trans k7).trans k8).putb (by omega)
  refine s_l01Next s9 fun e H10 k10 l10 s10 he _=>?_
  have he:=he (by omega)
  obtain⟨e,rfl⟩:∃ e':Nat,e=e':=⟨e.toNat,by omega⟩
  refine⟨⟨_,rfl,k10⟩,?_⟩
  have g10:=k10.get (by omega) g9
  have kA:=k59.trans k10
  have g510:=kA.get (by omega) g5
  have ie:ixsV 27 (.slice (some ⟨H3.length+1,0,none⟩) x.ps.length 27) (I64 e)=some (.pointer (some ⟨H3.length+1,e*27,none⟩)):=by
   rw[ixsV_some,if_pos (by omega),Int.toNat_natCast,Nat.zero_add]
  refine WO_cut (fun f:Fr=>f 0=srcP n∧f 3=.pointer (some ⟨h.length,0,none⟩)∧f 4=.pointer (some ⟨H1.length,0,none⟩)∧f 6=.slice (some ⟨H3.length+1,0,none⟩) x.ps.length 27∧f 7=.pointer (some ⟨H5.length,0,none⟩)∧f 57=.slice (some ⟨H3.length+1,0,none⟩) x.ps.length 27∧f 58=srcP n∧f 60=I64 e∧True) ⟨(by first|rfl|exact f0|simp[upd_apply,f0]),(by first|rfl|exact f3|simp[upd_apply,f3]),(by first|rfl|exact f4|simp[upd_apply,f4]),(by first|rfl|exact f6|simp[upd_apply,f6]),(by first|rfl|exact f7|simp[upd_apply,f7]),(by first|rfl|exact f57|simp[upd_apply,f57]),(by first|rfl|exact f58|simp[upd_apply,f58]),(by first|rfl|exact f60|simp[upd_apply,f60]),trivial⟩ ?_
  rintro f ⟨f0,f3,f4,f6,f7,f57,f58,f60,-⟩
  have rd27:H10.rdn H5.length 0 27=some (cel .u8 q'):=by
   rw[rdn_of g10,if_pos (by rw[cel_len,lq'];omega),List.drop_zero,List.take_of_length_le (by rw[cel_len,lq'];exact Nat.le_refl _)]
  have fl:=flat_len w27
  have sf:=splice_flat (k:=.u8) lq' w27 (j:=e) (by omega)
  have g1:=kA.get (by omega) (k5.get (by omega) (pre_get p4 g1))
  have g2:=kA.get (by omega) (k5.get (by omega) (pre_get p4 g2))
  have lg1:=get_lt g1
  have lg2:=get_lt g2
  have o1:isOne (.slice (some ⟨H3.length+1,0,none⟩) x.ps.length 27)=true:=rfl
  have oc:cellsL (.slice (some ⟨H3.length+1,0,none⟩) x.ps.length 27)=[.slice (some ⟨H3.length+1,0,none⟩) x.ps.length 27]:=rfl
  ((try simp (maxSteps:=3000000) (dsimp:=false) (disch:=first|omega|simp only[lnx];omega) only[↓ypre,ypost,↓reduceIte,reduceEqDiff,reduceAdd,reduceSub,reduceLeDiff,zz0,ynew,f0,f3,f4,f6,f7,f57,f58,f60,rd27,ie,wr_of g510,cel_len,cel_all,lq',sf,fl,wr_of g1,wr_of g2,splice_eq]);try simp only[yback])
  refine⟨by omega,by omega,?_⟩
  ((try simp (maxSteps:=3000000) (dsimp:=false) (disch:=first|omega|simp only[lnx];omega) only[↓ypre,ypost,↓reduceIte,reduceEqDiff,reduceAdd,reduceSub,reduceLeDiff,zz0,ynew,f0,f3,f4,f6,f7,f57,f58,f60,wr_of g1,wr_of g2,splice_eq,rdn_put_same]);try simp only[yback])
  have kk:=(((kk3.trans (Kp.of p4)).trans k5).trans kA)
  have el:(x.ps.set e q').length=x.ps.length:=List.length_set
  rw[←el]
  refine hQ ⟨x.p,x.n,x.m,x.k,x.ps.set e q'⟩ _ _ (((kk.putb (m:=H1.length) (by omega)).putb (m:=h.length) (by omega)).putb (m:=H3.length+1) (by omega)) (((s10.putb (m:=H1.length) (by omega) (by omega)).putb (m:=h.length) (by omega) (by omega)).putb (m:=H3.length+1) (by omega) (by omega)) ?_ ⟨b1,b2,b3,b4,by unfold SmallX at b5 ⊢;rw[el];exact b5⟩
  have bt:Byt 27 (x.ps.set e q'):=hq'▸byt_set e3.2 (by omega) (by omega) (by omega)
  have lgk:=get_lt g510
  exact fun h2 k2 k3=>⟨blk_kN (lo:=lo) (m:=H3.length+1) (get_put_same (by rw[len_put,len_put];omega)) (wid_set w27 lq') (by omega) h2 k2 k3,bt⟩
 ·((try simp (maxSteps:=3000000) (dsimp:=false) (disch:=first|omega|simp only[lnx];omega) only[↓ypre,ypost,↓reduceIte,reduceEqDiff,reduceAdd,reduceSub,reduceLeDiff,zz0,ynew,decide_eq_false r0,decide_eq_false r1,decide_eq_false r2,decide_eq_false (show ¬ (5:Int)=3 by omega),decide_eq_false (show ¬ (5:Int)=4 by omega),decide_eq_true (show (5:Int)=5 from rfl),rd1_of g1,hl,decide_eq_true hk,fillL,zrep]);try simp only[yback])
  refine copy_zero e3.1 (by omega) (by unfold SmallX at b5;omega) fun H4 l4 p4 g4=>?_
  have n3:=s3.lt
  have s4:=s3.kp p4
  obtain⟨L,hL⟩:∃ L:Nat,L=x.ps.length:=⟨_,rfl⟩
  refine WO_cut (fun f:Fr=>f 0=srcP n∧f 3=.pointer (some ⟨h.length,0,none⟩)∧f 4=.pointer (some ⟨H1.length,0,none⟩)∧f 5=I64 x.ps.length∧f 43=.slice (some ⟨H3.length+1,0,none⟩) x.ps.length 27∧True) ⟨(by first|rfl|exact f0|simp[upd_apply,f0]),(by first|rfl|exact f3|simp[upd_apply,f3]),(by first|rfl|exact f4|simp[upd_apply,f4]),(by first|rfl|exact f5|simp[upd_apply,f5]),(by first|rfl|exact f43|simp[upd_apply,f43]),trivial⟩ ?_
  rintro f ⟨f0,f3,f4,f5,f43,-⟩
  ((try simp (maxSteps:=3000000) (dsimp:=false) (disch:=first|omega|simp only[lnx];omega) only[↓ypre,ypost,↓reduceIte,reduceEqDiff,reduceAdd,reduceSub,reduceLeDiff,zz0,ynew,f0,f3,f4,f5,f43]);try simp only[yback])
  refine s_l01Next s4 fun a H5 k5 l5 s5 ha _=>?_
  have ha:=ha (by omega)
  obtain⟨a,rfl⟩:∃ a':Nat,a=a':=⟨a.toNat,by omega⟩
  have g5:=k5.get (by omega) g4
  have w27:Wid 27 x.ps:=e3.1.widL
  have e5:Els .u8 27 H5 (.slice (some ⟨H3.length+1,0,none⟩) x.ps.length 27) x.ps:=(blk_kN (lo:=H3.length+1) g5 w27 (Nat.le_refl _)).now
  obtain⟨na,oa,ixa,rda⟩:=e5.rdw (i:=a) (by omega)
  have hqa:(x.ps.getD a []).length=27:=e5.wid (by omega)
  ((try simp (maxSteps:=3000000) (dsimp:=false) (disch:=first|omega|simp only[lnx];omega) only[↓ypre,ypost,↓reduceIte,reduceEqDiff,reduceAdd,reduceSub,reduceLeDiff,zz0,ynew,f0,f3,f4,f5,f43,ixa,rda,zeros27,cel_len,cel_all,hqa,List.length_replicate,sp27z hqa]);try simp only[yback])
  generalize hH6:AH.new H5 _=H6
  obtain⟨g6,p6,n6⟩:=new_facts hH6
  refine s_l01Next (s5.kp p6) fun c0 H7 k7 l7 s7 hc _=>?_
  have hc:=hc (by omega)
  obtain⟨c0,rfl⟩:∃ c':Nat,c0=c':=⟨c0.toNat,by omega⟩
  have n5:=s5.lt
  have g6:=k7.get (by omega) g6
  refine WO_cut (fun f:Fr=>f 0=srcP n∧f 3=.pointer (some ⟨h.length,0,none⟩)∧f 4=.pointer (some ⟨H1.length,0,none⟩)∧f 5=I64 x.ps.length∧f 6=.slice (some ⟨H3.length+1,0,none⟩) x.ps.length 27∧f 7=.pointer (some ⟨H5.length,0,none⟩)∧f 51=I64 c0∧True) ⟨(by first|rfl|exact f0|simp[upd_apply,f0]),(by first|rfl|exact f3|simp[upd_apply,f3]),(by first|rfl|exact f4|simp[upd_apply,f4]),(by first|rfl|exact f5|simp[upd_apply,f5]),(by first|rfl|exact f6|simp[upd_apply,f6]),(by first|rfl|exact f7|simp[upd_apply,f7]),(by first|rfl|exact f51|simp[upd_apply,f51]),trivial⟩ ?_
  rintro f ⟨f0,f3,f4,f5,f6,f7,f51,-⟩
  ((try simp (maxSteps:=3000000) (dsimp:=false) (disch:=first|omega|simp only[lnx];omega) only[↓ypre,ypost,↓reduceIte,reduceEqDiff,reduceAdd,reduceSub,reduceLeDiff,zz0,ynew,f0,f3,f4,f5,f6,f7,f51]);try simp only[yback])
  refine s_l01Next s7 fun d H8 k8 l8 s8 hd _=>?_
  have hd:=hd (by omega)
  have g6:=k8.get (by omega) g6
  have ic:=ixa_u (n:=H5.length) (off:=9) (len:=9) (kk:=.i64) (j:=c0) (by omega)
  refine WO_cut (fun f:Fr=>f 0=srcP n∧f 3=.pointer (some ⟨h.length,0,none⟩)∧f 4=.pointer (some ⟨H1.length,0,none⟩)∧f 5=I64 x.ps.length∧f 6=.slice (some ⟨H3.length+1,0,none⟩) x.ps.length 27∧f 7=.pointer (some ⟨H5.length,0,none⟩)∧f 51=I64 c0∧f 53=I64 d∧True) ⟨(by first|rfl|exact f0|simp[upd_apply,f0]),(by first|rfl|exact f3|simp[upd_apply,f3]),(by first|rfl|exact f4|simp[upd_apply,f4]),(by first|rfl|exact f5|simp[upd_apply,f5]),(by first|rfl|exact f6|simp[upd_apply,f6]),(by first|rfl|exact f7|simp[upd_apply,f7]),(by first|rfl|exact f51|simp[upd_apply,f51]),(by first|rfl|exact f53|simp[upd_apply,f53]),trivial⟩ ?_
  rintro f ⟨f0,f3,f4,f5,f6,f7,f51,f53,-⟩
  have st:=cel_set (k:=.u8) (q:=x.ps.getD a []) (j:=9+c0) (x:=d) (by omega)
  ((try simp (maxSteps:=3000000) (dsimp:=false) (disch:=first|omega|simp only[lnx];omega) only[↓ypre,ypost,↓reduceIte,reduceEqDiff,reduceAdd,reduceSub,reduceLeDiff,zz0,ynew,f0,f3,f4,f5,f6,f7,f51,f53,wrap8_in,ic,wr_of g6,st,cel_len,hqa]);try simp only[yback])
  refine⟨by omega,?_⟩
  generalize hq':(x.ps.getD a []).set (9+c0) d=q'
  have lq':q'.length=27:=by rw[←hq',List.length_set];exact hqa
  generalize hH9:AH.put H8 _ _=H9
  have n7:=s7.lt
  have n8:=s8.lt
  have lg6:=get_lt g6
  have l9:H9.length=H8.length:=by rw[←hH9,len_put]
  have g9:H9.get H5.length=some ⟨cel .u8 q',138,false,true⟩:=hH9▸get_put_same lg6
  have s9:Src h0 H9 n:=hH9▸s8.putb (by omega) (by omega)
  have k59:Kp n H5 H9:=hH9▸(((Kp.of p6).trans k7).trans k8).putb (by omega)
  refine s_l01Next s9 fun e H10 k10 l10 s10 he _=>?_
  have he:=he (by omega)
  obtain⟨e,rfl⟩:∃ e':Nat,e=e':=⟨e.toNat,by omega⟩
  refine⟨⟨_,rfl,k10⟩,?_⟩
  have g10:=k10.get (by omega) g9
  have kA:=k59.trans k10
  have g510:=kA.get (by omega) g5
  have ie:ixsV 27 (.slice (some ⟨H3.length+1,0,none⟩) x.ps.length 27) (I64 e)=some (.pointer (some ⟨H3.length+1,e*27,none⟩)):=by
   rw[ixsV_some,if_pos (by omega),Int.toNat_natCast,Nat.zero_add]
  refine WO_cut (fun f:Fr=>f 0=srcP n∧f 3=.pointer (some ⟨h.length,0,none⟩)∧f 4=.pointer (some ⟨H1.length,0,none⟩)∧f 6=.slice (some ⟨H3.length+1,0,none⟩) x.ps.length 27∧f 7=.pointer (some ⟨H5.length,0,none⟩)∧f 57=.slice (some ⟨H3.length+1,0,none⟩) x.ps.length 27∧f 58=srcP n∧f 60=I64 e∧True) ⟨(by first|rfl|exact f0|simp[upd_apply,f0]),(by first|rfl|exact f3|simp[upd_apply,f3]),(by first|rfl|exact f4|simp[upd_apply,f4]),(by first|rfl|exact f6|simp[upd_apply,f6]),(by first|rfl|exact f7|simp[upd_apply,f7]),(by first|rfl|exact f57|simp[upd_apply,f57]),(by first|rfl|exact f58|simp[upd_apply,f58]),(by first|rfl|exact f60|simp[upd_apply,f60]),trivial⟩ ?_
  rintro f ⟨f0,f3,f4,f6,f7,f57,f58,f60,-⟩
  have rd27:H10.rdn H5.length 0 27=some (cel .u8 q'):=by
   rw[rdn_of g10,if_pos (by rw[cel_len,lq'];omega),List.drop_zero,List.take_of_length_le (by rw[cel_len,lq'];exact Nat.le_refl _)]
  have fl:=flat_len w27
  have sf:=splice_flat (k:=.u8) lq' w27 (j:=e) (by omega)
  have g1:=kA.get (by omega) (k5.get (by omega) (pre_get p4 g1))
  have g2:=kA.get (by omega) (k5.get (by omega) (pre_get p4 g2))
  have lg1:=get_lt g1
  have lg2:=get_lt g2
  have o1:isOne (.slice (some ⟨H3.length+1,0,none⟩) x.ps.length 27)=true:=rfl
  have oc:cellsL (.slice (some ⟨H3.length+1,0,none⟩) x.ps.length 27)=[.slice (some ⟨H3.length+1,0,none⟩) x.ps.length 27]:=rfl
  ((try simp (maxSteps:=3000000) (dsimp:=false) (disch:=first|omega|simp only[lnx];omega) only[↓ypre,ypost,↓reduceIte,reduceEqDiff,reduceAdd,reduceSub,reduceLeDiff,zz0,ynew,f0,f3,f4,f6,f7,f57,f58,f60,rd27,ie,wr_of g510,cel_len,cel_all,lq',sf,fl,wr_of g1,wr_of g2,splice_eq]);try simp only[yback])
  refine⟨by omega,by omega,?_⟩
  ((try simp (maxSteps:=3000000) (dsimp:=false) (disch:=first|omega|simp only[lnx];omega) only[↓ypre,ypost,↓reduceIte,reduceEqDiff,reduceAdd,reduceSub,reduceLeDiff,zz0,ynew,f0,f3,f4,f6,f7,f57,f58,f60,wr_of g1,wr_of g2,splice_eq,rdn_put_same]);try simp only[yback])
  have kk:=(((kk3.trans (Kp.of p4)).trans k5).trans kA)
  have el:(x.ps.set e q').length=x.ps.length:=List.length_set
  rw[←el]
  refine hQ ⟨x.p,x.n,x.m,x.k,x.ps.set e q'⟩ _ _ (((kk.putb (m:=H1.length) (by omega)).putb (m:=h.length) (by omega)).putb (m:=H3.length+1) (by omega)) (((s10.putb (m:=H1.length) (by omega) (by omega)).putb (m:=h.length) (by omega) (by omega)).putb (m:=H3.length+1) (by omega) (by omega)) ?_ ⟨b1,b2,b3,b4,by unfold SmallX at b5 ⊢;rw[el];exact b5⟩
  have bt:Byt 27 (x.ps.set e q'):=hq'▸byt_set e3.2 (by omega) (by omega) (by omega)
  have lgk:=get_lt g510
  exact fun h2 k2 k3=>⟨blk_kN (lo:=lo) (m:=H3.length+1) (get_put_same (by rw[len_put,len_put];omega)) (wid_set w27 lq') (by omega) h2 k2 k3,bt⟩
theorem isX_SchB {x:Sch} {h:AH} {v:Value} (hx:isX x=true) (hv:Prods h v x.ps):SchB x∧(-100≤x.k∧x.k≤100):=by
 obtain⟨z,hp,hl,_⟩:=isX_facts hx
 have:=z.p;have:=z.n;have:=z.m;have:=z.k
 exact⟨⟨by omega,by omega,by omega,by omega,by unfold SmallX;omega⟩,by omega⟩
theorem s_l01Spoil {h0 h:AH} {n:Nat} {Q:Value→AH→Prop} (s:Src h0 h n)
  (hQ:∀ (x:Sch) (v:Value) (h':AH),Kp n h h'→Src h0 h' n→SchD h.length h' v x→SchB x→Q (schV x v) h'):WF S 212 [srcP n] h Q:=by
 refine WF_fn (fn:=c212) rfl rfl ?_
 dsimp only[c212,oO,oM,oS,oG,oK,oE,oL,oF,oX,oN]
 have lt:=s.lt
 have l0:=pre_len s.p
 ((try simp (maxSteps:=3000000) (dsimp:=false) (disch:=first|omega|simp only[lnx];omega) only[↓ypre,ypost,↓reduceIte,reduceEqDiff,reduceAdd,reduceSub,reduceLeDiff,zz0,ynew]);try simp only[yback])
 generalize hH1:AH.new h _=H1
 obtain⟨hb1,p1,n1⟩:=new_facts hH1
 refine s_l01Draw (s.kp p1) fun x v H2 k2 s2 sd hx=>?_
 have g1:=k2.get (by omega) hb1
 have xb:=isX_SchB hx sd.now
 have k2l:=k2.len
 ((try simp (maxSteps:=3000000) (dsimp:=false) (disch:=first|omega|simp only[lnx];omega) only[↓ypre,ypost,↓reduceIte,reduceEqDiff,reduceAdd,reduceSub,reduceLeDiff,zz0,ynew]);try simp only[yback])
 refine s_l01Bad (lo:=H1.length) s2 xb.1 (by omega) sd xb.2 fun x' v' H3 k3 s3 sd' xb'=>?_
 have g1:=k3.get (by omega) g1
 have lg:=get_lt g1
 have o1:isOne v'=true:=sd'.now.one
 ((try simp (maxSteps:=3000000) (dsimp:=false) (disch:=first|omega|simp only[lnx];omega) only[↓ypre,ypost,↓reduceIte,reduceEqDiff,reduceAdd,reduceSub,reduceLeDiff,zz0,ynew,schV,o1,wr_of g1,splice_eq,rdn_put_same]);try simp only[yback])
 exact hQ x' v' _ ((((Kp.of p1).trans k2).trans k3).putb (Nat.le_refl _)) (s3.putb (by omega) (by omega)) ((KN.put sd' (by omega)).mono (by omega)) xb'
end Go.Proofs.Ytapafdpnmakekaa.X
