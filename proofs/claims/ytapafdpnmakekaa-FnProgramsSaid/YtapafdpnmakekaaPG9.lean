/- Texts of one claim, put together by merge.py: XP13, XT2, XT3, XT4, XT5, XT6, XT7. -/
import Derived.Test.YtapafdpnmakekaaPG8
import Derived.Test.YtapafdpnmakekaaPG7
set_option linter.unusedVariables false
set_option linter.unusedSimpArgs false
set_option maxRecDepth 20000
set_option maxHeartbeats 4000000
namespace Go.Proofs.Ytapafdpnmakekaa.X
open Go Go.RowKit
open Nat (reduceEqDiff reduceAdd reduceSub reduceLeDiff)
def lsOK (p n:Int) (rows:List (List Int)):Bool:=isP p&&(decide (1≤n∧n≤30)&&(decide (1≤(rows.length:Int)∧(rows.length:Int)≤30)&&isMat p n rows))
theorem lsOK_iff {p n:Int} {rows:List (List Int)}:lsOK p n rows=true↔isP p=true∧(1≤n∧n≤30)∧(1≤(rows.length:Int)∧(rows.length:Int)≤30)∧isMat p n rows=true:=by
 simp[lsOK]
theorem lsOK_no {p n:Int} {rows:List (List Int)} (h:¬ (isP p=true∧(1≤n∧n≤30)∧(1≤(rows.length:Int)∧(rows.length:Int)≤30)∧isMat p n rows=true)):lsOK p n rows=false:=by
 cases hc:lsOK p n rows with
 | false=>rfl
 | true=>exact (h (lsOK_iff.1 hc)).elim
def lsC (p n:Int) (rows:List (List Int)):Int:=if lsOK p n rows=true then 0 else 2
theorem s_l07Lists {v:Value} {rows:List (List Int)} {p n:Int} {h:AH} {Q:Value→AH→Prop} (hv:Rows h v rows) (hm:SmallM rows) (hQ:Q (I64 (lsC p n rows)) h):WF S 204 [I64 p,I64 n,v] h Q:=by
 refine WF_fn (fn:=c204) rfl rfl ?_
 dsimp only[c204,oO,oM,oS,oG,oK,oE,oL,oF,oX,oN]
 have hrows:=hv
 obtain⟨cs,hv,hcl,hr⟩:=hv
 obtain⟨hl,hl',_⟩:=hm
 have no:¬ (isP p=true∧(1≤n∧n≤30)∧(1≤(rows.length:Int)∧(rows.length:Int)≤30)∧isMat p n rows=true)→Q (I64 2) h:=fun hn=>by
  unfold lsC at hQ
  rw[lsOK_no hn] at hQ
  exact hQ
 ((try simp (maxSteps:=3000000) (dsimp:=false) (disch:=first|omega|simp only[lnx];omega) only[↓ypre,ypost,↓reduceIte,reduceEqDiff,reduceAdd,reduceSub,reduceLeDiff,zz0,ynew]);try simp only[yback])
 refine s_l01Prime ?_
 cases h1:isP p with
 | false=>
  ((try simp (maxSteps:=3000000) (dsimp:=false) (disch:=first|omega|simp only[lnx];omega) only[↓ypre,ypost,↓reduceIte,reduceEqDiff,reduceAdd,reduceSub,reduceLeDiff,zz0,ynew]);try simp only[yback])
  exact no (fun h=>by rw[h.1] at h1;cases h1)
 | true=>
  have hp5:=isP_in h1
  ((try simp (maxSteps:=3000000) (dsimp:=false) (disch:=first|omega|simp only[lnx];omega) only[↓ypre,ypost,↓reduceIte,reduceEqDiff,reduceAdd,reduceSub,reduceLeDiff,zz0,ynew]);try simp only[yback])
  refine s_l01In ?_
  by_cases h2:1≤n∧n≤30
  case neg=>
   ((try simp (maxSteps:=3000000) (dsimp:=false) (disch:=first|omega|simp only[lnx];omega) only[↓ypre,ypost,↓reduceIte,reduceEqDiff,reduceAdd,reduceSub,reduceLeDiff,zz0,ynew,decide_eq_false h2]);try simp only[yback])
   exact no (fun h=>h2 h.2.1)
  ((try simp (maxSteps:=3000000) (dsimp:=false) (disch:=first|omega|simp only[lnx];omega) only[↓ypre,ypost,↓reduceIte,reduceEqDiff,reduceAdd,reduceSub,reduceLeDiff,zz0,ynew,decide_eq_true h2,hv.len,hcl]);try simp only[yback])
  by_cases h3:(rows.length:Int)<1
  ·((try simp (maxSteps:=3000000) (dsimp:=false) (disch:=first|omega|simp only[lnx];omega) only[↓ypre,ypost,↓reduceIte,reduceEqDiff,reduceAdd,reduceSub,reduceLeDiff,zz0,ynew,decide_eq_true h3]);try simp only[yback])
   exact no (fun h=>by have:=h.2.2.1;omega)
  ((try simp (maxSteps:=3000000) (dsimp:=false) (disch:=first|omega|simp only[lnx];omega) only[↓ypre,ypost,↓reduceIte,reduceEqDiff,reduceAdd,reduceSub,reduceLeDiff,zz0,ynew,decide_eq_false h3,hv.len,hcl]);try simp only[yback])
  by_cases h4:30<(rows.length:Int)
  ·((try simp (maxSteps:=3000000) (dsimp:=false) (disch:=first|omega|simp only[lnx];omega) only[↓ypre,ypost,↓reduceIte,reduceEqDiff,reduceAdd,reduceSub,reduceLeDiff,zz0,ynew,decide_eq_true h4]);try simp only[yback])
   exact no (fun h=>by have:=h.2.2.1;omega)
  ((try simp (maxSteps:=3000000) (dsimp:=false) (disch:=first|omega|simp only[lnx];omega) only[↓ypre,ypost,↓reduceIte,reduceEqDiff,reduceAdd,reduceSub,reduceLeDiff,zz0,ynew,decide_eq_false h4]);try simp only[yback])
  refine WC_loop_inv (fun m f K1=>∃ (i:Nat),m=rows.length-i∧i≤rows.length∧f 0=I64 p∧f 1=I64 n∧f 2=v∧f 7=I64 i∧K1=h∧(∀ j,j<i→((rows.getD j []).length:Int)=n∧allIn p (rows.getD j [])=true)) ?_ (rows.length-0) _ _ ⟨0,rfl,by omega,(by first|rfl|simp[upd_apply]),(by first|rfl|simp[upd_apply]),(by first|rfl|simp[upd_apply]),(by first|rfl|simp[upd_apply]),rfl,(by omega)⟩
  rintro m f K1 ⟨i,rfl,hi,f0,f1,f2,f7,rfl,hj⟩
  by_cases hlt:(i:Int)<rows.length
  ·have hi':i<rows.length:=by omega
   have hix:=hv.ix (k:=.i64) (j:=i) (by omega) (by omega)
   have hrd:=hv.rd (j:=i) (by omega) (by omega)
   ((try simp (maxSteps:=3000000) (dsimp:=false) (disch:=first|omega|simp only[lnx];omega) only[↓ypre,ypost,↓reduceIte,reduceEqDiff,reduceAdd,reduceSub,reduceLeDiff,zz0,ynew,f0,f1,f2,f7,hv.len,hcl,decide_eq_true hlt,hix,hrd,Int.toNat_natCast]);try simp only[yback])
   refine s_l05Numbers (hr i hi') (hl' i hi') hp5 ?_
   cases hb:(allIn p (rows.getD i [])&&decide (((rows.getD i []).length:Int)=n)) with
   | true=>
    simp only[Bool.and_eq_true,decide_eq_true_eq] at hb
    ((try simp (maxSteps:=3000000) (dsimp:=false) (disch:=first|omega|simp only[lnx];omega) only[↓ypre,ypost,↓reduceIte,reduceEqDiff,reduceAdd,reduceSub,reduceLeDiff,zz0,ynew,f0,f1,f2,f7,wrap64_in]);try simp only[yback])
    refine InvQ_go (rows.length-(i+1)) (by omega) ⟨(i+1),rfl,by omega,(by first|rfl|exact f0|(simp only[upd_apply];rfl)|(show I64 _=_;congr 1;omega)),(by first|rfl|exact f1|(simp only[upd_apply];rfl)|(show I64 _=_;congr 1;omega)),(by first|rfl|exact f2|(simp only[upd_apply];rfl)|(show I64 _=_;congr 1;omega)),(by first|rfl|exact f7|(simp only[upd_apply];rfl)|(show I64 _=_;congr 1;omega)),rfl,?_⟩
    intro j hj'
    rcases Nat.lt_succ_iff_lt_or_eq.1 hj' with hj'|rfl
    ·exact hj j hj'
    ·exact⟨hb.2,hb.1⟩
   | false=>
    ((try simp (maxSteps:=3000000) (dsimp:=false) (disch:=first|omega|simp only[lnx];omega) only[↓ypre,ypost,↓reduceIte,reduceEqDiff,reduceAdd,reduceSub,reduceLeDiff,zz0,ynew,f0,f1,f2,f7]);try simp only[yback])
    refine no fun h=>?_
    have:=isMat_iff.1 h.2.2.2 i hi'
    rw[this.2,decide_eq_true this.1] at hb
    cases hb
  ·have ei:i=rows.length:=by omega
   subst ei
   have hm:isMat p n rows=true:=isMat_iff.2 hj
   ((try simp (maxSteps:=3000000) (dsimp:=false) (disch:=first|omega|simp only[lnx];omega) only[↓ypre,ypost,↓reduceIte,reduceEqDiff,reduceAdd,reduceSub,reduceLeDiff,zz0,ynew,f0,f1,f2,f7,hv.len,hcl,decide_eq_false hlt]);try simp only[yback])
   unfold lsC at hQ
   rw[lsOK_iff.2 ⟨h1,h2,by omega,hm⟩] at hQ
   exact hQ
theorem i_formsCode {v:Value} {rows:List (List Int)} {p n:Int} {h:AH} {Q:Value→AH→Prop} (hv:Rows h v rows) (hm:SmallM rows) (hQ:Q (I64 (lsC p n rows)) h):WF S 202 [I64 p,I64 n,v] h Q:=by
 refine WF_fn (fn:=c202) rfl rfl ?_
 dsimp only[c202,oO,oM,oS,oG,oK,oE,oL,oF,oX,oN]
 have hrows:=hv
 obtain⟨cs,hv,hcl,hr⟩:=hv
 obtain⟨hl,hl',_⟩:=hm
 have no:¬ (isP p=true∧(1≤n∧n≤30)∧(1≤(rows.length:Int)∧(rows.length:Int)≤30)∧isMat p n rows=true)→Q (I64 2) h:=fun hn=>by
  unfold lsC at hQ
  rw[lsOK_no hn] at hQ
  exact hQ
 ((try simp (maxSteps:=3000000) (dsimp:=false) (disch:=first|omega|simp only[lnx];omega) only[↓ypre,ypost,↓reduceIte,reduceEqDiff,reduceAdd,reduceSub,reduceLeDiff,zz0,ynew]);try simp only[yback])
 refine i_isPrime ?_
 cases h1:isP p with
 | false=>
  ((try simp (maxSteps:=3000000) (dsimp:=false) (disch:=first|omega|simp only[lnx];omega) only[↓ypre,ypost,↓reduceIte,reduceEqDiff,reduceAdd,reduceSub,reduceLeDiff,zz0,ynew]);try simp only[yback])
  exact no (fun h=>by rw[h.1] at h1;cases h1)
 | true=>
  have hp5:=isP_in h1
  ((try simp (maxSteps:=3000000) (dsimp:=false) (disch:=first|omega|simp only[lnx];omega) only[↓ypre,ypost,↓reduceIte,reduceEqDiff,reduceAdd,reduceSub,reduceLeDiff,zz0,ynew]);try simp only[yback])
  by_cases h2:n<1
  ·((try simp (maxSteps:=3000000) (dsimp:=false) (disch:=first|omega|simp only[lnx];omega) only[↓ypre,ypost,↓reduceIte,reduceEqDiff,reduceAdd,reduceSub,reduceLeDiff,zz0,ynew,decide_eq_true h2]);try simp only[yback])
   exact no (fun h=>by have:=h.2.1;omega)
  ((try simp (maxSteps:=3000000) (dsimp:=false) (disch:=first|omega|simp only[lnx];omega) only[↓ypre,ypost,↓reduceIte,reduceEqDiff,reduceAdd,reduceSub,reduceLeDiff,zz0,ynew,decide_eq_false h2]);try simp only[yback])
  by_cases h2':30<n
  ·((try simp (maxSteps:=3000000) (dsimp:=false) (disch:=first|omega|simp only[lnx];omega) only[↓ypre,ypost,↓reduceIte,reduceEqDiff,reduceAdd,reduceSub,reduceLeDiff,zz0,ynew,decide_eq_true h2']);try simp only[yback])
   exact no (fun h=>by have:=h.2.1;omega)
  ((try simp (maxSteps:=3000000) (dsimp:=false) (disch:=first|omega|simp only[lnx];omega) only[↓ypre,ypost,↓reduceIte,reduceEqDiff,reduceAdd,reduceSub,reduceLeDiff,zz0,ynew,decide_eq_false h2',hv.len,hcl]);try simp only[yback])
  by_cases h3:(rows.length:Int)<1
  ·((try simp (maxSteps:=3000000) (dsimp:=false) (disch:=first|omega|simp only[lnx];omega) only[↓ypre,ypost,↓reduceIte,reduceEqDiff,reduceAdd,reduceSub,reduceLeDiff,zz0,ynew,decide_eq_true h3]);try simp only[yback])
   exact no (fun h=>by have:=h.2.2.1;omega)
  ((try simp (maxSteps:=3000000) (dsimp:=false) (disch:=first|omega|simp only[lnx];omega) only[↓ypre,ypost,↓reduceIte,reduceEqDiff,reduceAdd,reduceSub,reduceLeDiff,zz0,ynew,decide_eq_false h3,hv.len,hcl]);try simp only[yback])
  by_cases h4:30<(rows.length:Int)
  ·((try simp (maxSteps:=3000000) (dsimp:=false) (disch:=first|omega|simp only[lnx];omega) only[↓ypre,ypost,↓reduceIte,reduceEqDiff,reduceAdd,reduceSub,reduceLeDiff,zz0,ynew,decide_eq_true h4]);try simp only[yback])
   exact no (fun h=>by have:=h.2.2.1;omega)
  ((try simp (maxSteps:=3000000) (dsimp:=false) (disch:=first|omega|simp only[lnx];omega) only[↓ypre,ypost,↓reduceIte,reduceEqDiff,reduceAdd,reduceSub,reduceLeDiff,zz0,ynew,decide_eq_false h4,hv.len,hcl]);try simp only[yback])
  refine i_isMatrix hrows hl hl' ?_
  rw[decide_eq_true rfl,Bool.and_true]
  cases hm:isMat p n rows with
  | false=>
   ((try simp (maxSteps:=3000000) (dsimp:=false) (disch:=first|omega|simp only[lnx];omega) only[↓ypre,ypost,↓reduceIte,reduceEqDiff,reduceAdd,reduceSub,reduceLeDiff,zz0,ynew]);try simp only[yback])
   exact no (fun h=>by rw[h.2.2.2] at hm;cases hm)
  | true=>
   ((try simp (maxSteps:=3000000) (dsimp:=false) (disch:=first|omega|simp only[lnx];omega) only[↓ypre,ypost,↓reduceIte,reduceEqDiff,reduceAdd,reduceSub,reduceLeDiff,zz0,ynew]);try simp only[yback])
   unfold lsC at hQ
   rw[lsOK_iff.2 ⟨h1,by omega,by omega,hm⟩] at hQ
   exact hQ
def plR (p n:Int) (rows:List (List Int)):Prg×Int:=if lsOK p n rows=true then (finP ⟨p,n,[],[]⟩ rows rows.length,0) else (⟨0,0,[],[]⟩,2)
theorem plR_small (p n:Int) (rows:List (List Int)):SmallP (plR p n rows).1:=by
 unfold plR SmallP SmallE
 split
 ·rename_i h
  obtain⟨h1,h2,h3,h4⟩:=lsOK_iff.1 h
  obtain⟨_,_,h5,h6⟩:=finP_facts (x:=⟨p,n,[],[]⟩) (N:=30) h1 (fun i hi=>⟨(isMat_iff.1 h4 i hi).2,by have:=(isMat_iff.1 h4 i hi).1;omega⟩) h2 (i:=rows.length) (Nat.le_refl _)
  simp only[List.length_nil,Nat.zero_add] at h5 h6
  simp only
  omega
 ·simp
theorem s_Plain {u:Value} {p n:Int} {rows:List (List Int)} {h:AH} {Q:Value→AH→Prop} (hu:Rows h u rows) (hok:lsOK p n rows=true)
  (hQ:∀ v' w' h',Stay h.length h h'→Way2 h' h.length v' w' (finP ⟨p,n,[],[]⟩ rows rows.length)→OrdB v' w'→Q (prgV (finP ⟨p,n,[],[]⟩ rows rows.length) v' w') h'):WF S 207 [I64 p,I64 n,u] h Q:=by
 refine WF_fn (fn:=c207) rfl rfl ?_
 dsimp only[c207,oO,oM,oS,oG,oK,oE,oL,oF,oX,oN]
 obtain⟨hp,hn,hl,hm⟩:=lsOK_iff.1 hok
 have hrr:∀ i,i<rows.length→allIn p (rows.getD i [])=true∧(rows.getD i []).length≤10000:=fun i hi=>⟨(isMat_iff.1 hm i hi).2,by have:=(isMat_iff.1 hm i hi).1;omega⟩
 obtain⟨cs,hv,hcl,hr⟩:=hu.stays
 ((try simp (maxSteps:=3000000) (dsimp:=false) (disch:=first|omega|simp only[lnx];omega) only[↓ypre,ypost,↓reduceIte,reduceEqDiff,reduceAdd,reduceSub,reduceLeDiff,zz0,ynew]);try simp only[yback])
 generalize hH1:AH.new h _=H1
 obtain⟨hb1,p1,n1⟩:=new_facts hH1
 generalize hH2:AH.new H1 _=H2
 obtain⟨hb2,p2,n2⟩:=new_facts hH2
 generalize hH3:AH.new H2 _=H3
 obtain⟨hb3,p3,n3⟩:=new_facts hH3
 generalize hH4:AH.new H3 _=H4
 obtain⟨hb4,p4,n4⟩:=new_facts hH4
 have p14:=((p1.trans p2).trans p3).trans p4
 have o0:Way2 H4 h.length (.slice (some ⟨H1.length,0,none⟩) 0 3) (.slice (some ⟨H2.length,0,none⟩) 0 2) (finP ⟨p,n,[],[]⟩ rows 0):=
  ⟨⟨fun r hr=>by simp[finP] at hr,.inr ⟨H1.length,true,rfl,by omega,by simp,pre_get (p3.trans p4) hb2⟩⟩,⟨fun r hr=>by simp[finP] at hr,.inr ⟨H2.length,true,rfl,by omega,by simp,pre_get p4 hb3⟩⟩⟩
 refine WC_loop_inv (fun m f K1=>∃ (i:Nat) (v:Value) (w:Value),m=rows.length-i∧i≤rows.length∧f 2=u∧f 6=.pointer (some ⟨h.length,0,none⟩)∧f 7=.pointer (some ⟨H3.length,0,none⟩)∧f 8=I64 i∧(Stay h.length h K1)∧(Way2 K1 h.length v w (finP ⟨p,n,[],[]⟩ rows i))∧(0<i→OrdB v w)∧(K1.get H3.length=some ⟨[I64 p,I64 n,v,w],70,false,true⟩)∧(K1.get h.length=some ⟨[I64 0,I64 0,.slice none 0 0,.slice none 0 0],70,false,true⟩)) ?_ (rows.length-0) _ _ ⟨0,.slice (some ⟨H1.length,0,none⟩) 0 3,.slice (some ⟨H2.length,0,none⟩) 0 2,rfl,by omega,(by first|rfl|simp[upd_apply]),(by first|rfl|simp[upd_apply]),(by first|rfl|simp[upd_apply]),(by first|rfl|simp[upd_apply]),Stay.of p14,o0,(by omega),hb4,pre_get ((p2.trans p3).trans p4) hb1⟩
 rintro m f K1 ⟨i,v,w,rfl,hi,f2,f6,f7,f8,sy,o2,ob,g7,g6⟩
 obtain⟨ep,en,sle,ole⟩:=finP_facts (x:=⟨p,n,[],[]⟩) (N:=10000) hp hrr hn (i:=i) hi
 have lt6:=get_lt g6
 have lt7:=get_lt g7
 have sl:=sy.len
 by_cases hlt:(i:Int)<rows.length
 ·have hi':i<rows.length:=by omega
  obtain⟨hra,hrl⟩:=hrr i hi'
  have ix:=(hv _ sy).ix (k:=.i64) (j:=i) (by omega) (by omega)
  have rd:=(hv _ sy).rd (j:=i) (by omega) (by omega)
  have hri:=hr i hi'
  rw[Int.toNat_natCast] at rd
  have fin1:finP ⟨p,n,[],[]⟩ rows (i+1)=rowP (finP ⟨p,n,[],[]⟩ rows i) (rows.getD i []):=rfl
  generalize finP ⟨p,n,[],[]⟩ rows i=X at *
  have epv:prgV X v w=.agg #[I64 p,I64 n,v,w]:=by unfold prgV;rw[ep,en]
  ((try simp (maxSteps:=3000000) (dsimp:=false) (disch:=first|omega|simp only[lnx];omega) only[↓ypre,ypost,↓reduceIte,reduceEqDiff,reduceAdd,reduceSub,reduceLeDiff,zz0,ynew,f2,f6,f7,f8,(hv _ sy).len,hcl,decide_eq_true hlt,rdn_of g7,ix,rd]);try simp only[yback])
  rw[←epv]
  refine s_l07Row (by rw[ep];exact hp) (by rw[en];exact hn) o2 (by omega) (fun h' s'=>hri h' (sy.trans s')) (by rw[ep];exact hra) (by omega) (by simp at sle;omega) (by simp at ole;omega) fun v' w' H' sy' o' ob'=>?_
  have g7':=sy'.get _ _ g7 (by simp) (by simp)
  have g6':=sy'.get _ _ g6 (by simp) (by simp)
  have lt7':=get_lt g7'
  ((try simp (maxSteps:=3000000) (dsimp:=false) (disch:=first|omega|simp only[lnx];omega) only[↓ypre,ypost,↓reduceIte,reduceEqDiff,reduceAdd,reduceSub,reduceLeDiff,zz0,ynew,f2,f6,f7,f8,prgV,o'.st.one,o'.st.cells,o'.out.one,o'.out.cells,wr_of g7',wrap64_in]);try simp only[yback])
  refine InvQ_go (rows.length-(i+1)) (by omega) ⟨(i+1),v',w',rfl,by omega,(by first|rfl|exact f2|(simp only[upd_apply];rfl)|(show I64 _=_;congr 1;omega)),(by first|rfl|exact f6|(simp only[upd_apply];rfl)|(show I64 _=_;congr 1;omega)),(by first|rfl|exact f7|(simp only[upd_apply];rfl)|(show I64 _=_;congr 1;omega)),(by first|rfl|exact f8|(simp only[upd_apply];rfl)|(show I64 _=_;congr 1;omega)),((sy.trans sy').put (by omega) (by omega)),?_,(fun _=>ob'),?_,(by rw[get_put_ne (by omega)];exact g6')⟩
  ·rw[fin1]
   exact⟨o'.st.put_ty g7' (by simp),o'.out.put_ty g7' (by simp)⟩
  ·rw[get_put_same lt7']
   show some (⟨[I64 X.p,I64 X.n,v',w'],_,_,_⟩:Blk)=_
   rw[ep,en]
 have ei:i=rows.length:=by omega
 subst ei
 ((try simp (maxSteps:=3000000) (dsimp:=false) (disch:=first|omega|simp only[lnx];omega) only[↓ypre,ypost,↓reduceIte,reduceEqDiff,reduceAdd,reduceSub,reduceLeDiff,zz0,ynew,f2,f6,f7,f8,(hv _ sy).len,hcl,decide_eq_false hlt,rdn_of g7,wr_of g6,o2.st.one,o2.st.cells,o2.out.one,o2.out.cells]);try simp only[yback])
 have:=hQ v w _ (sy.put (b:=⟨[I64 p,I64 n,v,w],70,false,true⟩) (Nat.le_refl _) (Nat.le_refl _)) ⟨o2.st.put_ty g6 (by simp),o2.out.put_ty g6 (by simp)⟩ (ob (by omega))
 unfold prgV at this
 rw[ep,en] at this
 exact this
theorem s_PlainProgram {u:Value} {p n:Int} {rows:List (List Int)} {h:AH} {Q:Value→AH→Prop} (hu:Rows h u rows) (hm:SmallM rows)
  (hQ:∀ v' w' h',h<+:h'→InP h.length h'.length h' v' w' (plR p n rows).1→Q (.tuple #[prgV (plR p n rows).1 v' w',I64 (plR p n rows).2]) h'):WF S 53 [I64 p,I64 n,u] h Q:=by
 refine WF_fn (fn:=c53) rfl rfl ?_
 dsimp only[c53,oO,oM,oS,oG,oK,oE,oL,oF,oX,oN]
 ((try simp (maxSteps:=3000000) (dsimp:=false) (disch:=first|omega|simp only[lnx];omega) only[↓ypre,ypost,↓reduceIte,reduceEqDiff,reduceAdd,reduceSub,reduceLeDiff,zz0,ynew]);try simp only[yback])
 generalize hH1:AH.new h _=H1
 obtain⟨hb1,p1,n1⟩:=new_facts hH1
 have lt1:=get_lt hb1
 refine s_l07Lists (hu.pre p1) hm ?_
 unfold plR at hQ
 unfold lsC
 cases hok:lsOK p n rows with
 | false=>
  rw[hok,if_neg (by decide)] at hQ
  rw[if_neg (by decide)]
  ((try simp (maxSteps:=3000000) (dsimp:=false) (disch:=first|omega|simp only[lnx];omega) only[↓ypre,ypost,↓reduceIte,reduceEqDiff,reduceAdd,reduceSub,reduceLeDiff,zz0,ynew,decide_eq_true (show (2:Int)≠0 by decide),wr_of hb1]);try simp only[yback])
  exact hQ (.slice none 0 0) (.slice none 0 0) _ (pre_put p1 (Nat.le_refl _)) ⟨h.length,Nat.le_refl _,by rw[len_put];omega,.inl ⟨rfl,rfl⟩,.inl ⟨rfl,rfl⟩⟩
 | true=>
  rw[hok,if_pos rfl] at hQ
  rw[if_pos rfl]
  ((try simp (maxSteps:=3000000) (dsimp:=false) (disch:=first|omega|simp only[lnx];omega) only[↓ypre,ypost,↓reduceIte,reduceEqDiff,reduceAdd,reduceSub,reduceLeDiff,zz0,ynew,decide_eq_false (show ¬ (0:Int)≠0 from fun y=>y rfl)]);try simp only[yback])
  refine s_Plain (hu.pre p1) hok fun v' w' H' sy o ob=>?_
  have g1:=sy.get _ _ hb1 (by simp) (by simp)
  have sl:=sy.len
  have ip:=(o.inP ob sl).putb (n:=h.length) (bl:=⟨[I64 (finP ⟨p,n,[],[]⟩ rows rows.length).p,I64 (finP ⟨p,n,[],[]⟩ rows rows.length).n,v',w'],70,false,true⟩) (by omega)
  ((try simp (maxSteps:=3000000) (dsimp:=false) (disch:=first|omega|simp only[lnx];omega) only[↓ypre,ypost,↓reduceIte,reduceEqDiff,reduceAdd,reduceSub,reduceLeDiff,zz0,ynew,prgV,o.st.one,o.st.cells,o.out.one,o.out.cells,wr_of g1]);try simp only[yback])
  have:=hQ v' w' _ (pre_put (p1.trans (sy.pre _ (Nat.le_refl _) (List.prefix_refl _))) (Nat.le_refl _)) (ip.mono (by omega) (by rw[len_put];exact Nat.le_refl _))
  unfold prgV at this
  exact this
theorem i_PlainProgram {u:Value} {p n:Int} {rows:List (List Int)} {h:AH} {Q:Value→AH→Prop} (hu:Rows h u rows) (hm:SmallM rows)
  (hQ:∀ v' w' h',h<+:h'→InP h.length h'.length h' v' w' (plR p n rows).1→Q (.tuple #[prgV (plR p n rows).1 v' w',I64 (plR p n rows).2]) h'):WF S 52 [I64 p,I64 n,u] h Q:=by
 refine WF_fn (fn:=c52) rfl rfl ?_
 dsimp only[c52,oO,oM,oS,oG,oK,oE,oL,oF,oX,oN]
 ((try simp (maxSteps:=3000000) (dsimp:=false) (disch:=first|omega|simp only[lnx];omega) only[↓ypre,ypost,↓reduceIte,reduceEqDiff,reduceAdd,reduceSub,reduceLeDiff,zz0,ynew]);try simp only[yback])
 generalize hH1:AH.new h _=H1
 obtain⟨hb1,p1,n1⟩:=new_facts hH1
 have lt1:=get_lt hb1
 refine i_formsCode (hu.pre p1) hm ?_
 unfold plR at hQ
 unfold lsC
 cases hok:lsOK p n rows with
 | false=>
  rw[hok,if_neg (by decide)] at hQ
  rw[if_neg (by decide)]
  ((try simp (maxSteps:=3000000) (dsimp:=false) (disch:=first|omega|simp only[lnx];omega) only[↓ypre,ypost,↓reduceIte,reduceEqDiff,reduceAdd,reduceSub,reduceLeDiff,zz0,ynew,decide_eq_true (show (2:Int)≠0 by decide),wr_of hb1]);try simp only[yback])
  exact hQ (.slice none 0 0) (.slice none 0 0) _ (pre_put p1 (Nat.le_refl _)) ⟨h.length,Nat.le_refl _,by rw[len_put];omega,.inl ⟨rfl,rfl⟩,.inl ⟨rfl,rfl⟩⟩
 | true=>
  rw[hok,if_pos rfl] at hQ
  rw[if_pos rfl]
  obtain⟨hp,hn,hl,hmm⟩:=lsOK_iff.1 hok
  ((try simp (maxSteps:=3000000) (dsimp:=false) (disch:=first|omega|simp only[lnx];omega) only[↓ypre,ypost,↓reduceIte,reduceEqDiff,reduceAdd,reduceSub,reduceLeDiff,zz0,ynew,decide_eq_false (show ¬ (0:Int)≠0 from fun y=>y rfl)]);try simp only[yback])
  have o0:Way2 H1 H1.length (.slice none 0 0) (.slice none 0 0) ⟨p,n,[],[]⟩:=⟨⟨fun r hr=>by simp at hr,.inl ⟨rfl,rfl⟩⟩,⟨fun r hr=>by simp at hr,.inl ⟨rfl,rfl⟩⟩⟩
  rw[show Value.agg #[I64 p,I64 n,.slice none 0 0,.slice none 0 0]=prgV ⟨p,n,[],[]⟩ (.slice none 0 0) (.slice none 0 0) from rfl]
  refine i_finished hp hn o0 (Nat.le_refl _) (hu.pre p1).stays (fun i hi=>⟨(isMat_iff.1 hmm i hi).2,by have:=(isMat_iff.1 hmm i hi).1;omega⟩) (by omega) (by simp) (by simp) fun v' w' H' sy o ob=>?_
  have g1:=sy.get _ _ hb1 (by simp) (by simp)
  have sl:=sy.len
  have ip:=(o.inP (ob (by omega)) sl).putb (n:=h.length) (bl:=⟨[I64 (finP ⟨p,n,[],[]⟩ rows rows.length).p,I64 (finP ⟨p,n,[],[]⟩ rows rows.length).n,v',w'],70,false,true⟩) (by omega)
  ((try simp (maxSteps:=3000000) (dsimp:=false) (disch:=first|omega|simp only[lnx];omega) only[↓ypre,ypost,↓reduceIte,reduceEqDiff,reduceAdd,reduceSub,reduceLeDiff,zz0,ynew,prgV,o.st.one,o.st.cells,o.out.one,o.out.cells,wr_of g1]);try simp only[yback])
  have:=hQ v' w' _ (pre_put (p1.trans (sy.pre _ (Nat.le_refl _) (List.prefix_refl _))) (Nat.le_refl _)) (ip.mono (by omega) (by rw[len_put];exact Nat.le_refl _))
  unfold prgV at this
  exact this
end Go.Proofs.Ytapafdpnmakekaa.X

set_option linter.unusedVariables false
set_option linter.unusedSimpArgs false
set_option maxRecDepth 20000
set_option maxHeartbeats 4000000
namespace Go.Proofs.Ytapafdpnmakekaa.X
open Go Go.RowKit
def mkB (p:Int) (T:List (List Int)) (i j r:Nat) (k:Nat):Bool:=decide (tb T k i≠0)&&decide (tb T k j=(tb T k i*r).tmod p)
def cntT (p:Int) (T:List (List Int)) (i j r:Nat):Nat:=cntB (mkB p T i j r) T.length
structure BS where
 l:Nat
 j:Nat
 r:Nat
 m:Nat
def upB (s:BS) (i j r c:Nat):BS:=if s.m<c then ⟨i,j,r,c⟩ else s
section
variable (p:Int) (T:List (List Int))
def foldR (i j:Nat):Nat→BS→BS
 | 0,s=>s
 | n+1,s=>upB (foldR i j n s) i j (n+1) (cntT p T i j (n+1))
def foldJ (i:Nat):Nat→BS→BS
 | 0,s=>s
 | n+1,s=>foldR p T i (i+1+n) (p.toNat-1) (foldJ i n s)
def foldI (W:Nat):Nat→BS→BS
 | 0,s=>s
 | n+1,s=>foldJ p T n (W-(n+1)) (foldI W n s)
def bst:BS:=foldI p T (T.getD 0 []).length (T.getD 0 []).length ⟨0,0,0,1⟩
end
def RelB (s m:BS):Prop:=(s.m<2∧m.m=1)∨(2≤s.m∧m=s)
theorem upB_rel {s m:BS} {i j r c:Nat} (h:RelB s m):RelB (upB s i j r c) (upB m i j r c):=by
 unfold upB
 rcases h with⟨h1,h2⟩|⟨h1,rfl⟩
 ·by_cases hc:2≤c
  ·rw[if_pos (by omega),if_pos (by omega)]
   exact .inr ⟨hc,rfl⟩
  ·rw[if_neg (c:=m.m<c) (by omega)]
   split
   ·exact .inl ⟨by simp only;omega,h2⟩
   ·exact .inl ⟨h1,h2⟩
 ·split
  ·exact .inr ⟨by simp only;omega,rfl⟩
  ·exact .inr ⟨h1,rfl⟩
theorem foldR_rel {p:Int} {T:List (List Int)} {i j:Nat} {s m:BS} (h:RelB s m):∀ {n:Nat},RelB (foldR p T i j n s) (foldR p T i j n m)
 | 0=>h
 | n+1=>upB_rel (foldR_rel h (n:=n))
theorem foldJ_rel {p:Int} {T:List (List Int)} {i:Nat} {s m:BS} (h:RelB s m):∀ {n:Nat},RelB (foldJ p T i n s) (foldJ p T i n m)
 | 0=>h
 | n+1=>foldR_rel (foldJ_rel h (n:=n))
theorem foldI_rel {p:Int} {T:List (List Int)} {W:Nat} {s m:BS} (h:RelB s m):∀ {n:Nat},RelB (foldI p T W n s) (foldI p T W n m)
 | 0=>h
 | n+1=>foldJ_rel (foldI_rel h (n:=n))
theorem cntT_le {p:Int} {T:List (List Int)} {i j r:Nat}:cntT p T i j r≤cntB (fun k=>decide (tb T k i≠0)) T.length:=cntB_mono fun k _ h=>by
 unfold mkB at h
 exact (Bool.and_eq_true _ _▸h).1
theorem foldR_skip {p:Int} {T:List (List Int)} {i j:Nat} {m:BS} (h:∀ j r,cntT p T i j r≤m.m):∀ {n:Nat},foldR p T i j n m=m
 | 0=>rfl
 | n+1=>by
  unfold foldR upB
  rw[foldR_skip h (n:=n),if_neg (by have:=h j (n+1);omega)]
theorem foldJ_skip {p:Int} {T:List (List Int)} {i:Nat} {m:BS} (h:∀ j r,cntT p T i j r≤m.m):∀ {n:Nat},foldJ p T i n m=m
 | 0=>rfl
 | n+1=>by
  unfold foldJ
  rw[foldJ_skip h (n:=n),foldR_skip h]
def BOK (p:Int) (T:List (List Int)) (W:Nat) (s:BS):Prop:=2≤s.m→s.l<s.j∧s.j<W∧1≤s.r∧(s.r:Int)<p∧s.m=cntT p T s.l s.j s.r
theorem upB_ok {p:Int} {T:List (List Int)} {W i j r:Nat} {s:BS} (h:BOK p T W s) (h1:i<j∧j<W∧1≤r∧(r:Int)<p):BOK p T W (upB s i j r (cntT p T i j r)):=by
 unfold upB
 split
 ·exact fun _=>⟨h1.1,h1.2.1,h1.2.2.1,h1.2.2.2,rfl⟩
 ·exact h
theorem foldR_ok {p:Int} {T:List (List Int)} {W i j:Nat} {s:BS} (h:BOK p T W s) (h1:i<j∧j<W):∀ {n:Nat},(n:Int)<p→BOK p T W (foldR p T i j n s)
 | 0,_=>h
 | n+1,hn=>upB_ok (foldR_ok h h1 (n:=n) (by omega)) ⟨h1.1,h1.2,by omega,hn⟩
theorem foldJ_ok {p:Int} {T:List (List Int)} {W i:Nat} {s:BS} (hp:1≤p) (h:BOK p T W s):∀ {n:Nat},i+1+n≤W→BOK p T W (foldJ p T i n s)
 | 0,_=>h
 | n+1,hn=>foldR_ok (foldJ_ok hp h (n:=n) (by omega)) ⟨by omega,by omega⟩ (by omega)
theorem foldI_ok {p:Int} {T:List (List Int)} {W:Nat} {s:BS} (hp:1≤p) (h:BOK p T W s):∀ {n:Nat},n≤W→BOK p T W (foldI p T W n s)
 | 0,_=>h
 | n+1,hn=>foldJ_ok hp (foldI_ok hp h (n:=n) (by omega)) (by omega)
theorem foldR_m {p:Int} {T:List (List Int)} {i j:Nat} {s:BS} {B:Nat} (h:s.m≤B) (hT:T.length≤B):∀ {n:Nat},(foldR p T i j n s).m≤B
 | 0=>h
 | n+1=>by
  have ih:=foldR_m (p:=p) (T:=T) (i:=i) (j:=j) h hT (n:=n)
  have:cntT p T i j (n+1)≤T.length:=cntB_le
  unfold foldR upB
  split
  ·simp only
   omega
  ·exact ih
theorem foldJ_m {p:Int} {T:List (List Int)} {i:Nat} {s:BS} {B:Nat} (h:s.m≤B) (hT:T.length≤B):∀ {n:Nat},(foldJ p T i n s).m≤B
 | 0=>h
 | n+1=>foldR_m (foldJ_m h hT (n:=n)) hT
theorem foldI_m {p:Int} {T:List (List Int)} {W:Nat} {s:BS} {B:Nat} (h:s.m≤B) (hT:T.length≤B):∀ {n:Nat},(foldI p T W n s).m≤B
 | 0=>h
 | n+1=>foldJ_m (foldI_m h hT (n:=n)) hT
theorem inv_mk {p a b r:Int} (hp:isP p=true) (ha:0≤a∧a<p) (hb:0≤b∧b<p) (hr:1≤r∧r<p) :
  (decide (a≠0)&&(decide (b≠0)&&decide ((b*invP p a).tmod p=r)))=(decide (a≠0)&&decide (b=(a*r).tmod p)):=by
 have hpp:p=2∨p=3∨p=5:=by simpa [isP] using hp
 rcases hpp with rfl|rfl|rfl
 ·have h1:a=0∨a=1:=by omega
  have h2:b=0∨b=1:=by omega
  have h3:r=1:=by omega
  subst h3
  rcases h1 with rfl|rfl<;>rcases h2 with rfl|rfl<;>decide
 ·have h1:a=0∨a=1∨a=2:=by omega
  have h2:b=0∨b=1∨b=2:=by omega
  have h3:r=1∨r=2:=by omega
  rcases h1 with rfl|rfl|rfl<;>rcases h2 with rfl|rfl|rfl<;>rcases h3 with rfl|rfl<;>decide
 ·have h1:a=0∨a=1∨a=2∨a=3∨a=4:=by omega
  have h2:b=0∨b=1∨b=2∨b=3∨b=4:=by omega
  have h3:r=1∨r=2∨r=3∨r=4:=by omega
  rcases h1 with rfl|rfl|rfl|rfl|rfl<;>rcases h2 with rfl|rfl|rfl|rfl|rfl<;>rcases h3 with rfl|rfl|rfl|rfl<;>decide
theorem mul_nz {p a r:Int} (hp:isP p=true) (ha:1≤a∧a<p) (hr:1≤r∧r<p):1≤(a*r).tmod p∧(a*r).tmod p<p:=by
 have hpp:p=2∨p=3∨p=5:=by simpa [isP] using hp
 rcases hpp with rfl|rfl|rfl
 ·have h1:a=1:=by omega
  have h3:r=1:=by omega
  subst h1 h3
  decide
 ·have h1:a=1∨a=2:=by omega
  have h3:r=1∨r=2:=by omega
  rcases h1 with rfl|rfl<;>rcases h3 with rfl|rfl<;>decide
 ·have h1:a=1∨a=2∨a=3∨a=4:=by omega
  have h3:r=1∨r=2∨r=3∨r=4:=by omega
  rcases h1 with rfl|rfl|rfl|rfl<;>rcases h3 with rfl|rfl|rfl|rfl<;>decide
def mvOK (p:Int) (l j r:Nat) (row:List Int):Bool:=decide (row.getD l 0≠0)&&decide (row.getD j 0=(row.getD l 0*r).tmod p)
def mvRow (p:Int) (l j r:Nat) (row:List Int):List Int:=if mvOK p l j r row=true then ((row.set l 0).set j 0)++[row.getD l 0] else row++[0]
def mvT (p:Int) (s:BS) (T:List (List Int)):List (List Int):=T.map (mvRow p s.l s.j s.r)
def GT (p:Int) (W:Nat) (T:List (List Int)):Prop:=∀ k,k<T.length→(T.getD k []).length=W∧∀ i,i<W→0≤tb T k i∧tb T k i<p
theorem mvRow_len {p:Int} {l j r:Nat} {row:List Int}:(mvRow p l j r row).length=row.length+1:=by
 unfold mvRow
 split<;>simp
theorem mvT_len {p:Int} {s:BS} {T:List (List Int)}:(mvT p s T).length=T.length:=by simp[mvT]
theorem mvT_get {p:Int} {s:BS} {T:List (List Int)} {k:Nat} (hk:k<T.length):(mvT p s T).getD k []=mvRow p s.l s.j s.r (T.getD k []):=by
 simp[mvT,List.getD_eq_getElem?_getD,List.getElem?_map,List.getElem?_eq_getElem hk]
theorem mvRow_at {p:Int} {l j r i:Nat} {row:List Int} (hl:l<row.length) (hj:j<row.length) (hi:i≤row.length) :
  (mvRow p l j r row).getD i 0=if i=row.length then (if mvOK p l j r row=true then row.getD l 0 else 0) else if mvOK p l j r row=true∧(i=l∨i=j) then 0 else row.getD i 0:=by
 unfold mvRow
 by_cases hm:mvOK p l j r row=true
 ·rw[if_pos hm,if_pos hm]
  by_cases he:i=row.length
  ·subst he
   rw[if_pos rfl,List.getD_eq_getElem?_getD,List.getElem?_append_right (by simp)]
   simp
  ·rw[if_neg he,List.getD_eq_getElem?_getD,List.getElem?_append_left (by simp;omega),←List.getD_eq_getElem?_getD,set_getD (by simp;exact hj),set_getD hl]
   by_cases h1:i=j
   ·rw[if_pos h1,if_pos ⟨hm,.inr h1⟩]
   ·rw[if_neg h1]
    by_cases h2:i=l
    ·rw[if_pos h2,if_pos ⟨hm,.inl h2⟩]
    ·rw[if_neg h2,if_neg (fun h=>h.2.elim h2 h1)]
 ·rw[if_neg hm,if_neg hm]
  by_cases he:i=row.length
  ·subst he
   rw[if_pos rfl,List.getD_eq_getElem?_getD,List.getElem?_append_right (Nat.le_refl _)]
   simp
  ·rw[if_neg he,if_neg (fun h=>hm h.1),List.getD_eq_getElem?_getD,List.getElem?_append_left (by omega),←List.getD_eq_getElem?_getD]
theorem GT.step {p:Int} {W:Nat} {T:List (List Int)} {s:BS} (g:GT p W T) (hp:1≤p) (h1:s.l<W) (h2:s.j<W):GT p (W+1) (mvT p s T):=by
 intro k hk
 rw[mvT_len] at hk
 obtain⟨gl,gi⟩:=g k hk
 refine⟨by rw[mvT_get hk,mvRow_len,gl],fun i hi=>?_⟩
 have hi':tb (mvT p s T) k i=(mvRow p s.l s.j s.r (T.getD k [])).getD i 0:=by unfold tb;rw[mvT_get hk]
 rw[hi',mvRow_at (by omega) (by omega) (by omega)]
 have g1:=gi s.l h1
 unfold tb at gi g1
 split
 ·split
  ·exact g1
  ·omega
 ·split
  ·omega
  ·exact gi i (by omega)
def nzR (row:List Int):Nat:=cntB (fun i=>decide (row.getD i 0≠0)) row.length
def sumN (f:Nat→Nat):Nat→Nat
 | 0=>0
 | n+1=>sumN f n+f n
def nzT (T:List (List Int)):Nat:=sumN (fun k=>nzR (T.getD k [])) T.length
theorem cntB_flip {f g:Nat→Bool} {l:Nat} (h1:f l=true) (h2:g l=false) (h3:∀ k,k≠l→f k=g k):∀ {R:Nat},l<R→cntB f R=cntB g R+1
 | 0,h=>by omega
 | R+1,h=>by
  unfold cntB
  by_cases e:l=R
  ·subst e
   rw[h1,h2,cntB_congr (f:=f) (g:=g) fun k hk=>h3 k (by omega)]
   simp
  ·rw[cntB_flip h1 h2 h3 (R:=R) (by omega),h3 R (fun q=>e q.symm)]
   omega
theorem nzR_mv {p:Int} {l j r:Nat} {row:List Int} (hp:isP p=true) (hl:l<row.length) (hj:j<row.length) (hlj:l≠j) (hr:1≤r∧(r:Int)<p) (g:∀ i,i<row.length→0≤row.getD i 0∧row.getD i 0<p) :
  nzR (mvRow p l j r row)+(if mvOK p l j r row=true then 1 else 0)=nzR row:=by
 have e:∀ i,i≤row.length→(mvRow p l j r row).getD i 0=_:=fun i hi=>mvRow_at hl hj hi
 unfold nzR
 rw[mvRow_len]
 show cntB _ row.length+(if (decide ((mvRow p l j r row).getD row.length 0≠0))=true then 1 else 0)+_=_
 rw[e row.length (Nat.le_refl _),if_pos rfl]
 by_cases hm:mvOK p l j r row=true
 ·have hm':=hm
  unfold mvOK at hm'
  rw[Bool.and_eq_true,decide_eq_true_eq,decide_eq_true_eq] at hm'
  have gl:=g l hl
  have nz:=mul_nz hp (a:=row.getD l 0) (r:=r) (by omega) (by omega)
  rw[if_pos hm,if_pos hm,if_pos (decide_eq_true hm'.1)]
  have f1:=cntB_flip (f:=fun i=>decide (row.getD i 0≠0)) (g:=fun i=>if i=l then false else decide (row.getD i 0≠0)) (l:=l) (decide_eq_true hm'.1) (by simp) (fun k hk=>by simp[hk]) (R:=row.length) hl
  have f2:=cntB_flip (f:=fun i=>if i=l then false else decide (row.getD i 0≠0)) (g:=fun i=>if i=j then false else if i=l then false else decide (row.getD i 0≠0)) (l:=j) (by
   show (if j=l then false else decide (row.getD j 0≠0))=true
   rw[if_neg (fun q=>hlj q.symm),decide_eq_true (by omega)]) (by simp) (fun k hk=>by simp[hk]) (R:=row.length) hj
  have f3:cntB (fun i=>decide ((mvRow p l j r row).getD i 0≠0)) row.length=cntB (fun i=>if i=j then false else if i=l then false else decide (row.getD i 0≠0)) row.length:=cntB_congr fun k hk=>by
   show decide ((mvRow p l j r row).getD k 0≠0)=if k=j then false else if k=l then false else decide (row.getD k 0≠0)
   rw[e k (by omega),if_neg (by omega)]
   by_cases h1:k=j
   ·rw[if_pos ⟨hm,.inr h1⟩,if_pos h1]
    rfl
   ·by_cases h2:k=l
    ·rw[if_pos ⟨hm,.inl h2⟩,if_neg h1,if_pos h2]
     rfl
    ·rw[if_neg (fun h=>h.2.elim h2 h1),if_neg h1,if_neg h2]
  rw[f3,f1,f2]
 ·rw[if_neg hm,if_neg hm,if_neg (by simp)]
  refine cntB_congr fun k hk=>?_
  show decide ((mvRow p l j r row).getD k 0≠0)=_
  rw[e k (by omega),if_neg (by omega),if_neg (fun h=>hm h.1)]
theorem sumN_add {f g h:Nat→Nat}:∀ {n:Nat},(∀ k,k<n→f k+g k=h k)→sumN f n+sumN g n=sumN h n
 | 0,_=>rfl
 | n+1,hh=>by
  have ih:=sumN_add (n:=n) fun k hk=>hh k (by omega)
  have:=hh n (by omega)
  unfold sumN
  omega
theorem sumN_cnt {f:Nat→Bool}:∀ {n:Nat},sumN (fun k=>if f k=true then 1 else 0) n=cntB f n
 | 0=>rfl
 | n+1=>by
  unfold sumN cntB
  rw[sumN_cnt (n:=n)]
theorem sumN_le {f:Nat→Nat} {B:Nat}:∀ {n:Nat},(∀ k,k<n→f k≤B)→sumN f n≤n*B
 | 0,_=>by simp[sumN]
 | n+1,h=>by
  have ih:=sumN_le (n:=n) fun k hk=>h k (by omega)
  have:=h n (by omega)
  unfold sumN
  rw[Nat.add_mul]
  omega
theorem nzT_mv {p:Int} {W:Nat} {T:List (List Int)} {s:BS} (hp:isP p=true) (g:GT p W T) (h1:s.l<s.j∧s.j<W∧1≤s.r∧(s.r:Int)<p):nzT (mvT p s T)+cntT p T s.l s.j s.r=nzT T:=by
 unfold nzT cntT
 rw[mvT_len,←sumN_cnt]
 refine sumN_add fun k hk=>?_
 obtain⟨gl,gi⟩:=g k hk
 rw[mvT_get hk]
 exact nzR_mv hp (by omega) (by omega) (by omega) ⟨h1.2.2.1,h1.2.2.2⟩ (by rw[gl];exact gi)
structure SS where
 T:List (List Int)
 st:List (List Int)
def stepS (p:Int) (s:SS):SS:=⟨mvT p (bst p s.T) s.T,s.st++[[((bst p s.T).l:Int),((bst p s.T).j:Int),((bst p s.T).r:Int)]]⟩
def shF (p:Int):Nat→SS→SS
 | 0,s=>s
 | f+1,s=>if 2≤(bst p s.T).m then shF p f (stepS p s) else s
theorem bst_ok {p:Int} {W:Nat} {T:List (List Int)} (hp:isP p=true) (g:GT p W T) (hT:1≤T.length) (h:2≤(bst p T).m) :
  (bst p T).l<(bst p T).j∧(bst p T).j<W∧1≤(bst p T).r∧((bst p T).r:Int)<p∧(bst p T).m=cntT p T (bst p T).l (bst p T).j (bst p T).r:=by
 have hp5:=isP_in hp
 have hw:=(g 0 (by omega)).1
 have:=foldI_ok (T:=T) (W:=(T.getD 0 []).length) (s:=⟨0,0,0,1⟩) (show 1≤p by omega) (fun h=>by simp only at h;omega) (n:=(T.getD 0 []).length) (Nat.le_refl _)
 rw[←hw]
 exact this h
theorem stepS_facts {p:Int} {W:Nat} {s:SS} (hp:isP p=true) (g:GT p W s.T) (hT:1≤s.T.length) (h:2≤(bst p s.T).m) :
  GT p (W+1) (stepS p s).T∧(stepS p s).T.length=s.T.length∧nzT (stepS p s).T+2≤nzT s.T:=by
 have hp5:=isP_in hp
 obtain⟨h1,h2,h3,h4,h5⟩:=bst_ok hp g hT h
 refine⟨g.step (by omega) (by omega) h2,mvT_len,?_⟩
 have:=nzT_mv hp g ⟨h1,h2,h3,h4⟩
 show nzT (mvT p (bst p s.T) s.T)+2≤_
 omega
theorem shF_same {p:Int} (hp:isP p=true):∀ {f g W:Nat} {s:SS},GT p W s.T→1≤s.T.length→nzT s.T≤f→nzT s.T≤g→shF p f s=shF p g s
 | 0,0,_,_,_,_,_,_=>rfl
 | 0,g+1,W,s,gt,hT,h1,h2=>by
  unfold shF
  rw[if_neg]
  intro h
  have:=(stepS_facts hp gt hT h).2.2
  omega
 | f+1,0,W,s,gt,hT,h1,h2=>by
  unfold shF
  rw[if_neg]
  intro h
  have:=(stepS_facts hp gt hT h).2.2
  omega
 | f+1,g+1,W,s,gt,hT,h1,h2=>by
  unfold shF
  by_cases h:2≤(bst p s.T).m
  ·rw[if_pos h,if_pos h]
   obtain⟨a,b,c⟩:=stepS_facts hp gt hT h
   exact shF_same hp a (by omega) (by omega) (by omega)
  ·rw[if_neg h,if_neg h]
theorem shF_go {p:Int} {W:Nat} {s:SS} (hp:isP p=true) (g:GT p W s.T) (hT:1≤s.T.length) (h:2≤(bst p s.T).m):shF p (nzT s.T) s=shF p (nzT (stepS p s).T) (stepS p s):=by
 obtain⟨a,b,c⟩:=stepS_facts hp g hT h
 obtain⟨f,hf⟩:∃ f,nzT s.T=f+1:=⟨nzT s.T-1,by omega⟩
 rw[hf]
 show (if 2≤(bst p s.T).m then shF p f (stepS p s) else s)=_
 rw[if_pos h]
 exact shF_same hp a (by omega) (by omega) (Nat.le_refl _)
theorem shF_stop {p:Int} {f:Nat} {s:SS} (h:¬ 2≤(bst p s.T).m):shF p f s=s:=by
 cases f with
 | zero=>rfl
 | succ f=>
  unfold shF
  rw[if_neg h]
def shS (p:Int) (rows:List (List Int)):SS:=shF p (nzT rows) ⟨rows,[]⟩
def shP (p n:Int) (rows:List (List Int)):Prg:=finP ⟨p,n,(shS p rows).st,[]⟩ (shS p rows).T (shS p rows).T.length
def shR (p n:Int) (rows:List (List Int)):Prg×Int:=if lsOK p n rows=true then (shP p n rows,0) else (⟨0,0,[],[]⟩,2)
structure ShI (p:Int) (N:Nat) (rows:List (List Int)) (s:SS):Prop where
 gt:GT p (N+s.st.length) s.T
 len:s.T.length=rows.length
 nz:s.st.length+nzT s.T≤900
 eq:shF p (nzT s.T) s=shS p rows
 wid:Wid 3 s.st
theorem lsOK_gt {p n:Int} {rows:List (List Int)} (h:lsOK p n rows=true):GT p n.toNat rows:=by
 obtain⟨hp,hn,hl,hm⟩:=lsOK_iff.1 h
 intro k hk
 obtain⟨h1,h2⟩:=isMat_iff.1 hm k hk
 refine⟨by omega,fun i hi=>?_⟩
 exact allIn_iff.1 h2 i (by omega)
theorem ShI.start {p n:Int} {rows:List (List Int)} (h:lsOK p n rows=true):ShI p n.toNat rows ⟨rows,[]⟩:=by
 obtain⟨hp,hn,hl,hm⟩:=lsOK_iff.1 h
 refine⟨lsOK_gt h,rfl,?_,rfl,fun q hq=>by simp at hq⟩
 have:nzT rows≤rows.length*30:=sumN_le fun k hk=>by
  have:=(isMat_iff.1 hm k hk).1
  have:nzR (rows.getD k [])≤(rows.getD k []).length:=cntB_le
  omega
 simp only[List.length_nil]
 have:rows.length*30≤30*30:=Nat.mul_le_mul_right _ (by omega)
 omega
theorem ShI.go {p:Int} {N:Nat} {rows:List (List Int)} {s:SS} (i:ShI p N rows s) (hp:isP p=true) (hT:1≤rows.length) (h:2≤(bst p s.T).m):ShI p N rows (stepS p s)∧nzT (stepS p s).T<nzT s.T:=by
 have hT':1≤s.T.length:=by rw[i.len];exact hT
 obtain⟨a,b,c⟩:=stepS_facts hp i.gt hT' h
 have e:(stepS p s).st.length=s.st.length+1:=by simp[stepS]
 have n:=i.nz
 refine⟨⟨by rw[e];exact a,by rw[b,i.len],by omega,by rw[←shF_go hp i.gt hT' h];exact i.eq,?_⟩,by omega⟩
 intro q hq
 rcases List.mem_append.1 (show q∈s.st++_ from hq) with hq|hq
 ·exact i.wid q hq
 ·rw[List.mem_singleton.1 hq]
  rfl
theorem ShI.stop {p:Int} {N:Nat} {rows:List (List Int)} {s:SS} (i:ShI p N rows s) (h:¬ 2≤(bst p s.T).m):s=shS p rows:=by
 rw[←i.eq,shF_stop h]
theorem shS_facts {p n:Int} {rows:List (List Int)} (h:lsOK p n rows=true):ShI p n.toNat rows (shS p rows):=by
 obtain⟨hp,hn,hl,hm⟩:=lsOK_iff.1 h
 have key:∀ (f:Nat) (s:SS),nzT s.T≤f→ShI p n.toNat rows s→ShI p n.toNat rows (shS p rows):=by
  intro f
  induction f with
  | zero=>
   intro s h1 i
   have:¬ 2≤(bst p s.T).m:=fun hb=>by
    have:=(i.go hp (by omega) hb).2
    omega
   rw[←i.stop this]
   exact i
  | succ f ih=>
   intro s h1 i
   by_cases hb:2≤(bst p s.T).m
   ·obtain⟨i',lt⟩:=i.go hp (by omega) hb
    exact ih _ (by omega) i'
   ·rw[←i.stop hb]
    exact i
 exact key _ _ (Nat.le_refl _) (ShI.start h)
end Go.Proofs.Ytapafdpnmakekaa.X

set_option linter.unusedVariables false
set_option linter.unusedSimpArgs false
set_option maxRecDepth 20000
set_option maxHeartbeats 4000000
namespace Go.Proofs.Ytapafdpnmakekaa.X
open Go Go.RowKit
open Nat (reduceEqDiff reduceAdd reduceSub reduceLeDiff)
def ctA (p:Int) (T:List (List Int)) (i j:Nat) (c:Int) (k:Nat):Bool:=decide (tb T k i≠0)&&(decide (tb T k j≠0)&&decide ((tb T k j*invP p (tb T k i)).tmod p=c))
theorem ctA_mk {p:Int} {W:Nat} {T:List (List Int)} (hp:isP p=true) (g:GT p W T) {i j r k:Nat} (hi:i<W) (hj:j<W) (hr:1≤r∧(r:Int)<p) (hk:k<T.length):ctA p T i j r k=mkB p T i j r k:=by
 obtain⟨_,gi⟩:=g k hk
 exact inv_mk hp (gi i hi) (gi j hj) ⟨by omega,hr.2⟩
def ctL (p:Int) (T:List (List Int)) (i j k:Nat):List Int:=gen p.toNat fun c=>(cntB (ctA p T i j c) k:Int)
theorem ctL_zero {p:Int} {T:List (List Int)} {i j:Nat}:ctL p T i j 0=List.replicate p.toNat 0:=(gen_ext (by simp) fun c hc=>by simp[List.getD_eq_getElem?_getD,List.getElem?_replicate,hc,cntB]).symm
theorem ctL_skip {p:Int} {T:List (List Int)} {i j k:Nat} (h:tb T k i=0∨tb T k j=0):ctL p T i j (k+1)=ctL p T i j k:=gen_congr fun c hc=>by
 have:ctA p T i j c k=false:=by
  unfold ctA
  rcases h with h|h
  ·rw[decide_eq_false (fun y=>y h),Bool.false_and]
  ·rw[decide_eq_false (p:=tb T k j≠0) (fun y=>y h),Bool.false_and,Bool.and_false]
 show ((cntB _ k+(if ctA p T i j c k=true then 1 else 0):Nat):Int)=_
 rw[this]
 rfl
theorem ctL_set {p:Int} {T:List (List Int)} {i j k c0:Nat} (h1:tb T k i≠0) (h2:tb T k j≠0) (hc:(tb T k j*invP p (tb T k i)).tmod p=c0) (hl:c0<p.toNat):(ctL p T i j k).set c0 ((ctL p T i j k).getD c0 0+1)=ctL p T i j (k+1):=by
 have gl:(ctL p T i j k).length=p.toNat:=gen_len
 refine gen_ext (by rw[List.length_set,gl]) fun c hcl=>?_
 have ea:ctA p T i j c k=decide ((c0:Int)=c):=by
  unfold ctA
  rw[decide_eq_true h1,decide_eq_true h2,hc]
  simp
 have es:(cntB (ctA p T i j c) (k+1):Int)=cntB (ctA p T i j c) k+(if ctA p T i j c k=true then 1 else 0:Nat):=by
  show ((cntB _ k+_:Nat):Int)=_
  rw[Int.natCast_add]
 rw[es,ea,set_getD (by rw[gl];exact hl)]
 by_cases e:c=c0
 ·subst e
  rw[if_pos rfl,if_pos (by simp)]
  show (gen p.toNat _).getD c 0+1=_
  rw[gen_get hcl]
  rfl
 ·rw[if_neg e,if_neg (by simp;omega)]
  show (gen p.toNat _).getD c 0=_
  rw[gen_get hcl]
  simp
theorem ctL_all {p:Int} {W:Nat} {T:List (List Int)} (hp:isP p=true) (g:GT p W T) {i j r:Nat} (hi:i<W) (hj:j<W) (hr:1≤r∧(r:Int)<p):(ctL p T i j T.length).getD r 0=(cntT p T i j r:Nat):=by
 unfold ctL
 rw[gen_get (by omega)]
 congr 1
 exact cntB_congr fun k hk=>ctA_mk hp g hi hj hr hk
theorem s_l07Best {v:Value} {p:Int} {W:Nat} {T:List (List Int)} {h:AH} {Q:Value→AH→Prop} (hv:Rows h v T) (hp:isP p=true) (g:GT p W T) (hT:1≤T.length∧T.length≤30) (hW:W≤1000)
  (hQ:∀ s h',h<+:h'→RelB s (bst p T)→s.m≤30→Q (.tuple #[.agg #[I64 s.l,I64 s.j,I64 s.r],I64 s.m]) h'):WF S 296 [I64 p,v] h Q:=by
 refine WF_fn (fn:=c296) rfl rfl ?_
 dsimp only[c296,oO,oM,oS,oG,oK,oE,oL,oF,oX,oN]
 have hp5:=isP_in hp
 ((try simp (maxSteps:=3000000) (dsimp:=false) (disch:=first|omega|simp only[lnx];omega) only[↓ypre,ypost,↓reduceIte,reduceEqDiff,reduceAdd,reduceSub,reduceLeDiff,zz0,ynew,hv.one]);try simp only[yback])
 generalize hH1:AH.new h _=H1
 obtain⟨hb1,p1,n1⟩:=new_facts hH1
 generalize hH2:AH.new H1 _=H2
 obtain⟨hb2,p2,n2⟩:=new_facts hH2
 obtain⟨n0,off0,x0,ix0,rd0,hx0⟩:=(hv.pre (p1.trans p2)).row (i:=0) (by omega)
 have hw0:=(g 0 (by omega)).1
 have ix0:ixsV 1 v (I64 0)=some (.pointer (some ⟨n0,off0,none⟩)):=ix0 .i64
 have l0:=hx0.len
 rw[hw0] at l0
 ((try simp (maxSteps:=3000000) (dsimp:=false) (disch:=first|omega|simp only[lnx];omega) only[↓ypre,ypost,↓reduceIte,reduceEqDiff,reduceAdd,reduceSub,reduceLeDiff,zz0,ynew,ix0,rd0,l0]);try simp only[yback])
 have hm0:∀ n,(foldI p T W n ⟨0,0,0,0⟩).m≤30:=fun n=>foldI_m (by simp) hT.2
 refine WC_loop_inv (fun m f K1=>∃ (i:Nat),m=W-i∧i≤W∧f 0=I64 p∧f 1=v∧f 4=.pointer (some ⟨h.length,0,none⟩)∧f 6=.pointer (some ⟨H1.length,0,none⟩)∧f 7=I64 (foldI p T W i ⟨0,0,0,0⟩).m∧f 8=I64 W∧f 9=I64 i∧(H1<+:K1)∧(OwnB K1 H1.length [I64 (foldI p T W i ⟨0,0,0,0⟩).l,I64 (foldI p T W i ⟨0,0,0,0⟩).j,I64 (foldI p T W i ⟨0,0,0,0⟩).r] true)) ?_ (W-0) _ _ ⟨0,rfl,by omega,(by first|rfl|simp[upd_apply]),(by first|rfl|simp[upd_apply]),(by first|rfl|simp[upd_apply]),(by first|rfl|simp[upd_apply]),(by first|rfl|simp[upd_apply]),(by first|rfl|simp[upd_apply]),(by first|rfl|simp[upd_apply]),p2,⟨_,hb2⟩⟩
 rintro m f K1 ⟨i,rfl,hi,f0,f1,f4,f6,f7,f8,f9,pp,g6⟩
 by_cases hlt:(i:Int)<W
 ·have hi':i<W:=by omega
  ((try simp (maxSteps:=3000000) (dsimp:=false) (disch:=first|omega|simp only[lnx];omega) only[↓ypre,ypost,↓reduceIte,reduceEqDiff,reduceAdd,reduceSub,reduceLeDiff,zz0,ynew,f0,f1,f4,f6,f7,f8,f9,decide_eq_true hlt,wrap64_in]);try simp only[yback])
  obtain⟨s0,hs0⟩:∃ s0,s0=foldI p T W i ⟨0,0,0,0⟩:=⟨_,rfl⟩
  have m0:=hm0 i
  rw[←hs0] at f7 g6 m0
  have hmJ:∀ n,(foldJ p T i n s0).m≤30:=fun n=>foldJ_m m0 hT.2
  refine WC_loop_inv (fun m f K2=>∃ (b:Nat),m=((W-(i+1)))-b∧b≤((W-(i+1)))∧f 0=I64 p∧f 1=v∧f 4=.pointer (some ⟨h.length,0,none⟩)∧f 6=.pointer (some ⟨H1.length,0,none⟩)∧f 7=I64 (foldJ p T i b s0).m∧f 8=I64 W∧f 9=I64 i∧f 10=I64 ((i:Int)+1+b)∧(H1<+:K2)∧(OwnB K2 H1.length [I64 (foldJ p T i b s0).l,I64 (foldJ p T i b s0).j,I64 (foldJ p T i b s0).r] true)) ?_ (((W-(i+1)))-0) _ _ ⟨0,rfl,by omega,(by first|rfl|exact f0|(simp[upd_apply];done)),(by first|rfl|exact f1|(simp[upd_apply];done)),(by first|rfl|exact f4|(simp[upd_apply];done)),(by first|rfl|exact f6|(simp[upd_apply];done)),(by first|rfl|exact f7|(simp[upd_apply];done)),(by first|rfl|exact f8|(simp[upd_apply];done)),(by first|rfl|exact f9|(simp[upd_apply];done)),(by first|rfl|simp[upd_apply]),pp,g6⟩
  rintro m f K2 ⟨b,rfl,hb,f0,f1,f4,f6,f7,f8,f9,f10,pp,g6⟩
  by_cases hltb:(i:Int)+1+b<W
  ·obtain⟨j,hj⟩:∃ j:Nat,j=i+1+b:=⟨_,rfl⟩
   have ej:(i:Int)+1+(b:Int)=(j:Int):=by omega
   have hj':j<W:=by omega
   rw[ej] at f10
   ((try simp (maxSteps:=3000000) (dsimp:=false) (disch:=first|omega|simp only[lnx];omega) only[↓ypre,ypost,↓reduceIte,reduceEqDiff,reduceAdd,reduceSub,reduceLeDiff,zz0,ynew,f0,f1,f4,f6,f7,f8,f9,f10,decide_eq_true (show (j:Int)<W by omega),wrap64_in]);try simp only[yback])
   refine⟨by omega,?_⟩
   rw[zrep_ints]
   generalize hH5:AH.new K2 _=H5
   obtain⟨hb5,p5,n5⟩:=new_facts hH5
   have lc0:Lst H5 K2.length (ctL p T i j 0) true:=by
    rw[ctL_zero]
    exact hb5
   obtain⟨e6,g6⟩:=g6
   have g6:=pre_get p5 g6
   have pp:=pp.trans p5
   have hk2:=pre_len (show H1<+:K2 from by assumption)
   have lt6:H1.length<K2.length:=get_lt (show K2.get H1.length=_ from by assumption)
   refine WC_loop_inv (fun m f K3=>∃ (k:Nat),m=T.length-k∧k≤T.length∧f 0=I64 p∧f 1=v∧f 4=.pointer (some ⟨h.length,0,none⟩)∧f 6=.pointer (some ⟨H1.length,0,none⟩)∧f 7=I64 (foldJ p T i b s0).m∧f 8=I64 W∧f 9=I64 i∧f 10=I64 j∧f 11=sl K2.length p.toNat∧f 12=I64 k∧(K2<+:K3)∧(Lst K3 K2.length (ctL p T i j k) true)) ?_ (T.length-0) _ _ ⟨0,rfl,by omega,(by first|rfl|exact f0|(simp[upd_apply];done)),(by first|rfl|exact f1|(simp[upd_apply];done)),(by first|rfl|exact f4|(simp[upd_apply];done)),(by first|rfl|exact f6|(simp[upd_apply];done)),(by first|rfl|exact f7|(simp[upd_apply];done)),(by first|rfl|exact f8|(simp[upd_apply];done)),(by first|rfl|exact f9|(simp[upd_apply];done)),(by first|rfl|exact f10|(simp[upd_apply];done)),(by first|rfl|simp[upd_apply]),(by first|rfl|simp[upd_apply]),p5,lc0⟩
   rintro m f K3 ⟨k,rfl,hk,f0,f1,f4,f6,f7,f8,f9,f10,f11,f12,p3x,lc⟩
   have hvK:=hv.pre (p1.trans ((show H1<+:K2 from by assumption).trans p3x))
   by_cases hltk:(k:Int)<T.length
   ·have hk':k<T.length:=by omega
    obtain⟨nk,offk,x,ixk,rdk,hx⟩:=hvK.row hk'
    obtain⟨gw,gi⟩:=g k hk'
    have ixi:=hx.ix (k:=.i64) (j:=i) (by omega) (by omega)
    have rdi:=hx.rd (j:=i) (by omega) (by omega)
    have ixj:=hx.ix (k:=.i64) (j:=j) (by omega) (by omega)
    have rdj:=hx.rd (j:=j) (by omega) (by omega)
    simp only[nth,Int.toNat_natCast] at rdi rdj
    have ga:=gi i hi'
    have gb:=gi j hj'
    have ea:(T.getD k []).getD i 0=tb T k i:=rfl
    have eb:(T.getD k []).getD j 0=tb T k j:=rfl
    rw[ea] at rdi
    rw[eb] at rdj
    by_cases ha:tb T k i=0
    ·rw[←ctL_skip (.inl ha)] at lc
     ((try simp (maxSteps:=3000000) (dsimp:=false) (disch:=first|omega|simp only[lnx];omega) only[↓ypre,ypost,↓reduceIte,reduceEqDiff,reduceAdd,reduceSub,reduceLeDiff,zz0,ynew,f0,f1,f4,f6,f7,f8,f9,f10,f11,f12,hvK.len,decide_eq_true hltk,ixk,rdk,ixi,rdi,ixj,rdj,decide_eq_false (show ¬ tb T k i≠0 from fun y=>y ha),wrap64_in]);try simp only[yback])
     refine InvQ_go (T.length-(k+1)) (by omega) ⟨(k+1),rfl,by omega,(by first|rfl|exact f0|(simp only[upd_apply];rfl)|(show I64 _=_;congr 1;omega)),(by first|rfl|exact f1|(simp only[upd_apply];rfl)|(show I64 _=_;congr 1;omega)),(by first|rfl|exact f4|(simp only[upd_apply];rfl)|(show I64 _=_;congr 1;omega)),(by first|rfl|exact f6|(simp only[upd_apply];rfl)|(show I64 _=_;congr 1;omega)),(by first|rfl|exact f7|(simp only[upd_apply];rfl)|(show I64 _=_;congr 1;omega)),(by first|rfl|exact f8|(simp only[upd_apply];rfl)|(show I64 _=_;congr 1;omega)),(by first|rfl|exact f9|(simp only[upd_apply];rfl)|(show I64 _=_;congr 1;omega)),(by first|rfl|exact f10|(simp only[upd_apply];rfl)|(show I64 _=_;congr 1;omega)),(by first|rfl|exact f11|(simp only[upd_apply];rfl)|(show I64 _=_;congr 1;omega)),(by first|rfl|exact f12|(simp only[upd_apply];rfl)|(show I64 _=_;congr 1;omega)),p3x,lc⟩
    by_cases hb:tb T k j=0
    ·rw[←ctL_skip (.inr hb)] at lc
     ((try simp (maxSteps:=3000000) (dsimp:=false) (disch:=first|omega|simp only[lnx];omega) only[↓ypre,ypost,↓reduceIte,reduceEqDiff,reduceAdd,reduceSub,reduceLeDiff,zz0,ynew,f0,f1,f4,f6,f7,f8,f9,f10,f11,f12,hvK.len,decide_eq_true hltk,ixk,rdk,ixi,rdi,ixj,rdj,decide_eq_true (show tb T k i≠0 from ha),decide_eq_false (show ¬ tb T k j≠0 from fun y=>y hb),wrap64_in]);try simp only[yback])
     refine InvQ_go (T.length-(k+1)) (by omega) ⟨(k+1),rfl,by omega,(by first|rfl|exact f0|(simp only[upd_apply];rfl)|(show I64 _=_;congr 1;omega)),(by first|rfl|exact f1|(simp only[upd_apply];rfl)|(show I64 _=_;congr 1;omega)),(by first|rfl|exact f4|(simp only[upd_apply];rfl)|(show I64 _=_;congr 1;omega)),(by first|rfl|exact f6|(simp only[upd_apply];rfl)|(show I64 _=_;congr 1;omega)),(by first|rfl|exact f7|(simp only[upd_apply];rfl)|(show I64 _=_;congr 1;omega)),(by first|rfl|exact f8|(simp only[upd_apply];rfl)|(show I64 _=_;congr 1;omega)),(by first|rfl|exact f9|(simp only[upd_apply];rfl)|(show I64 _=_;congr 1;omega)),(by first|rfl|exact f10|(simp only[upd_apply];rfl)|(show I64 _=_;congr 1;omega)),(by first|rfl|exact f11|(simp only[upd_apply];rfl)|(show I64 _=_;congr 1;omega)),(by first|rfl|exact f12|(simp only[upd_apply];rfl)|(show I64 _=_;congr 1;omega)),p3x,lc⟩
    have iv:=invP_is hp (n:=tb T k i) (by omega)
    have mb:=mul_in (A:=5) (B:=5) (a:=tb T k j) (b:=invP p (tb T k i)) (by omega) (by have:=iv.1;have:=iv.2.1;omega)
    have tn:=tmod_nn (a:=tb T k j*invP p (tb T k i)) (J:=p) mb.1 (by omega)
    obtain⟨c0,hc0⟩:∃ c0:Nat,(tb T k j*invP p (tb T k i)).tmod p=c0:=⟨_,(Int.toNat_of_nonneg tn.1).symm⟩
    have hcl:c0<p.toNat:=by omega
    have gl:(ctL p T i j k).length=p.toNat:=gen_len
    have ixc:=Lst.ix (n:=K2.length) (j:=(c0:Int)) (len:=p.toNat) (by omega)
    rw[Int.toNat_natCast] at ixc
    have rdc:=lc.rd (j:=c0) (by omega)
    have ctb:0≤(ctL p T i j k).getD c0 0∧(ctL p T i j k).getD c0 0≤30:=by
     unfold ctL
     rw[gen_get hcl]
     have:cntB (ctA p T i j c0) k≤k:=cntB_le
     omega
    obtain⟨H7,w7,e7,l7⟩:=lc.wr (j:=c0) (x:=(ctL p T i j k).getD c0 0+1) (by omega)
    rw[ctL_set ha hb hc0 hcl] at l7
    ((try simp (maxSteps:=3000000) (dsimp:=false) (disch:=first|omega|simp only[lnx];omega) only[↓ypre,ypost,↓reduceIte,reduceEqDiff,reduceAdd,reduceSub,reduceLeDiff,zz0,ynew,f0,f1,f4,f6,f7,f8,f9,f10,f11,f12,hvK.len,decide_eq_true hltk,ixk,rdk,ixi,rdi,ixj,rdj,decide_eq_true (show tb T k i≠0 from ha),decide_eq_true (show tb T k j≠0 from hb),wrap64_in]);try simp only[yback])
    refine s_l01Inverse hp5 (by omega) iv ?_
    ((try simp (maxSteps:=3000000) (dsimp:=false) (disch:=first|omega|simp only[lnx];omega) only[↓ypre,ypost,↓reduceIte,reduceEqDiff,reduceAdd,reduceSub,reduceLeDiff,zz0,ynew,f0,f1,f4,f6,f7,f8,f9,f10,f11,f12,bin_rem,hc0,ixc,rdc,w7,wrap64_in]);try simp only[yback])
    refine InvQ_go (T.length-(k+1)) (by omega) ⟨(k+1),rfl,by omega,(by first|rfl|exact f0|(simp only[upd_apply];rfl)|(show I64 _=_;congr 1;omega)),(by first|rfl|exact f1|(simp only[upd_apply];rfl)|(show I64 _=_;congr 1;omega)),(by first|rfl|exact f4|(simp only[upd_apply];rfl)|(show I64 _=_;congr 1;omega)),(by first|rfl|exact f6|(simp only[upd_apply];rfl)|(show I64 _=_;congr 1;omega)),(by first|rfl|exact f7|(simp only[upd_apply];rfl)|(show I64 _=_;congr 1;omega)),(by first|rfl|exact f8|(simp only[upd_apply];rfl)|(show I64 _=_;congr 1;omega)),(by first|rfl|exact f9|(simp only[upd_apply];rfl)|(show I64 _=_;congr 1;omega)),(by first|rfl|exact f10|(simp only[upd_apply];rfl)|(show I64 _=_;congr 1;omega)),(by first|rfl|exact f11|(simp only[upd_apply];rfl)|(show I64 _=_;congr 1;omega)),(by first|rfl|exact f12|(simp only[upd_apply];rfl)|(show I64 _=_;congr 1;omega)),(by rw[e7];exact pre_put p3x (Nat.le_refl _)),l7⟩
   have ek:k=T.length:=by omega
   subst ek
   ((try simp (maxSteps:=3000000) (dsimp:=false) (disch:=first|omega|simp only[lnx];omega) only[↓ypre,ypost,↓reduceIte,reduceEqDiff,reduceAdd,reduceSub,reduceLeDiff,zz0,ynew,f0,f1,f4,f6,f7,f8,f9,f10,f11,f12,hvK.len,decide_eq_false hltk,wrap64_in]);try simp only[yback])
   have g6:=pre_get p3x (show K2.get H1.length=_ from by assumption)
   have pK:=(show H1<+:K2 from by assumption).trans p3x
   have hmR:∀ n,(foldR p T i j n (foldJ p T i b s0)).m≤30:=fun n=>foldR_m (hmJ b) hT.2
   refine WC_loop_inv (fun m f K4=>∃ (r:Nat),m=((p.toNat-1))-r∧r≤((p.toNat-1))∧f 0=I64 p∧f 1=v∧f 4=.pointer (some ⟨h.length,0,none⟩)∧f 6=.pointer (some ⟨H1.length,0,none⟩)∧f 7=I64 (foldR p T i j r (foldJ p T i b s0)).m∧f 8=I64 W∧f 9=I64 i∧f 10=I64 j∧f 11=sl K2.length p.toNat∧f 15=I64 ((r:Int)+1)∧(H1<+:K4)∧(OwnB K4 H1.length [I64 (foldR p T i j r (foldJ p T i b s0)).l,I64 (foldR p T i j r (foldJ p T i b s0)).j,I64 (foldR p T i j r (foldJ p T i b s0)).r] true)∧(Lst K4 K2.length (ctL p T i j T.length) true)) ?_ (((p.toNat-1))-0) _ _ ⟨0,rfl,by omega,(by first|rfl|exact f0|(simp[upd_apply];done)),(by first|rfl|exact f1|(simp[upd_apply];done)),(by first|rfl|exact f4|(simp[upd_apply];done)),(by first|rfl|exact f6|(simp[upd_apply];done)),(by first|rfl|exact f7|(simp[upd_apply];done)),(by first|rfl|exact f8|(simp[upd_apply];done)),(by first|rfl|exact f9|(simp[upd_apply];done)),(by first|rfl|exact f10|(simp[upd_apply];done)),(by first|rfl|exact f11|(simp[upd_apply];done)),(by first|rfl|simp[upd_apply]),pK,⟨_,g6⟩,lc⟩
   rintro m f K4 ⟨r,rfl,hr,f0,f1,f4,f6,f7,f8,f9,f10,f11,f15,pp,g6,lc⟩
   by_cases hltr:(r:Int)+1<p
   ·have cr:=ctL_all hp g hi' hj' (r:=r+1) ⟨by omega,by omega⟩
    have gl:(ctL p T i j T.length).length=p.toNat:=gen_len
    have ixr:=Lst.ix (n:=K2.length) (j:=((r+1:Nat):Int)) (len:=p.toNat) (by omega)
    rw[Int.toNat_natCast] at ixr
    have rdr:=lc.rd (j:=r+1) (by omega)
    rw[cr] at rdr
    have er:foldR p T i j (r+1) (foldJ p T i b s0)=upB (foldR p T i j r (foldJ p T i b s0)) i j (r+1) (cntT p T i j (r+1)):=rfl
    have eI:(r:Int)+1=((r+1:Nat):Int):=by omega
    rw[eI] at f15
    have mr:=hmR r
    have mr1:cntT p T i j (r+1)≤T.length:=cntB_le
    obtain⟨e6,g6⟩:=g6
    have lt6:=get_lt g6
    generalize foldR p T i j r (foldJ p T i b s0)=s1 at *
    generalize cntT p T i j (r+1)=c1 at *
    unfold upB at er
    by_cases hc:s1.m<c1
    ·rw[if_pos hc] at er
     ((try simp (maxSteps:=3000000) (dsimp:=false) (disch:=first|omega|simp only[lnx];omega) only[↓ypre,ypost,↓reduceIte,reduceEqDiff,reduceAdd,reduceSub,reduceLeDiff,zz0,ynew,f0,f1,f4,f6,f7,f8,f9,f10,f11,f15,decide_eq_true (show ((r+1:Nat):Int)<p by omega),ixr,rdr,decide_eq_true (show ((s1.m:Nat):Int)<((c1:Nat):Int) by omega),wr_of g6,wrap64_in]);try simp only[yback])
     refine InvQ_go (((p.toNat-1))-(r+1)) (by omega) ⟨(r+1),rfl,by omega,(by first|rfl|exact f0|(simp only[upd_apply];rfl)|(show I64 _=_;congr 1;omega)),(by first|rfl|exact f1|(simp only[upd_apply];rfl)|(show I64 _=_;congr 1;omega)),(by first|rfl|exact f4|(simp only[upd_apply];rfl)|(show I64 _=_;congr 1;omega)),(by first|rfl|exact f6|(simp only[upd_apply];rfl)|(show I64 _=_;congr 1;omega)),(by rw[er];rfl),(by first|rfl|exact f8|(simp only[upd_apply];rfl)|(show I64 _=_;congr 1;omega)),(by first|rfl|exact f9|(simp only[upd_apply];rfl)|(show I64 _=_;congr 1;omega)),(by first|rfl|exact f10|(simp only[upd_apply];rfl)|(show I64 _=_;congr 1;omega)),(by first|rfl|exact f11|(simp only[upd_apply];rfl)|(show I64 _=_;congr 1;omega)),(by show I64 _=I64 _;congr 1),(pre_put pp (Nat.le_refl _)),⟨e6,by rw[er];exact get_put_same lt6⟩,(lc.put_ne (by omega))⟩
    ·rw[if_neg hc] at er
     ((try simp (maxSteps:=3000000) (dsimp:=false) (disch:=first|omega|simp only[lnx];omega) only[↓ypre,ypost,↓reduceIte,reduceEqDiff,reduceAdd,reduceSub,reduceLeDiff,zz0,ynew,f0,f1,f4,f6,f7,f8,f9,f10,f11,f15,decide_eq_true (show ((r+1:Nat):Int)<p by omega),ixr,rdr,decide_eq_false (show ¬ ((s1.m:Nat):Int)<((c1:Nat):Int) by omega),wrap64_in]);try simp only[yback])
     refine InvQ_go (((p.toNat-1))-(r+1)) (by omega) ⟨(r+1),rfl,by omega,(by first|rfl|exact f0|(simp only[upd_apply];rfl)|(show I64 _=_;congr 1;omega)),(by first|rfl|exact f1|(simp only[upd_apply];rfl)|(show I64 _=_;congr 1;omega)),(by first|rfl|exact f4|(simp only[upd_apply];rfl)|(show I64 _=_;congr 1;omega)),(by first|rfl|exact f6|(simp only[upd_apply];rfl)|(show I64 _=_;congr 1;omega)),(by rw[er];exact f7),(by first|rfl|exact f8|(simp only[upd_apply];rfl)|(show I64 _=_;congr 1;omega)),(by first|rfl|exact f9|(simp only[upd_apply];rfl)|(show I64 _=_;congr 1;omega)),(by first|rfl|exact f10|(simp only[upd_apply];rfl)|(show I64 _=_;congr 1;omega)),(by first|rfl|exact f11|(simp only[upd_apply];rfl)|(show I64 _=_;congr 1;omega)),(by show I64 _=I64 _;congr 1),pp,⟨e6,by rw[er];exact g6⟩,lc⟩
   have er:r=p.toNat-1:=by omega
   subst er
   ((try simp (maxSteps:=3000000) (dsimp:=false) (disch:=first|omega|simp only[lnx];omega) only[↓ypre,ypost,↓reduceIte,reduceEqDiff,reduceAdd,reduceSub,reduceLeDiff,zz0,ynew,f0,f1,f4,f6,f7,f8,f9,f10,f11,f15,decide_eq_false hltr,wrap64_in]);try simp only[yback])
   have ef:foldJ p T i (b+1) s0=foldR p T i j (p.toNat-1) (foldJ p T i b s0):=by rw[hj];rfl
   refine InvQ_go (((W-(i+1)))-(b+1)) (by omega) ⟨(b+1),rfl,by omega,(by first|rfl|exact f0|(simp only[upd_apply];rfl)|(show I64 _=_;congr 1;omega)),(by first|rfl|exact f1|(simp only[upd_apply];rfl)|(show I64 _=_;congr 1;omega)),(by first|rfl|exact f4|(simp only[upd_apply];rfl)|(show I64 _=_;congr 1;omega)),(by first|rfl|exact f6|(simp only[upd_apply];rfl)|(show I64 _=_;congr 1;omega)),(by rw[ef];exact f7),(by first|rfl|exact f8|(simp only[upd_apply];rfl)|(show I64 _=_;congr 1;omega)),(by first|rfl|exact f9|(simp only[upd_apply];rfl)|(show I64 _=_;congr 1;omega)),(by show I64 _=I64 _;congr 1;omega),pp,(by rw[ef];exact g6)⟩
  have eb:b=W-(i+1):=by omega
  subst eb
  ((try simp (maxSteps:=3000000) (dsimp:=false) (disch:=first|omega|simp only[lnx];omega) only[↓ypre,ypost,↓reduceIte,reduceEqDiff,reduceAdd,reduceSub,reduceLeDiff,zz0,ynew,f0,f1,f4,f6,f7,f8,f9,f10,decide_eq_false hltb,wrap64_in]);try simp only[yback])
  have ef:foldI p T W (i+1) ⟨0,0,0,0⟩=foldJ p T i (W-(i+1)) s0:=by rw[hs0];rfl
  refine InvQ_go (W-(i+1)) (by omega) ⟨(i+1),rfl,by omega,(by first|rfl|exact f0|(simp only[upd_apply];rfl)|(show I64 _=_;congr 1;omega)),(by first|rfl|exact f1|(simp only[upd_apply];rfl)|(show I64 _=_;congr 1;omega)),(by first|rfl|exact f4|(simp only[upd_apply];rfl)|(show I64 _=_;congr 1;omega)),(by first|rfl|exact f6|(simp only[upd_apply];rfl)|(show I64 _=_;congr 1;omega)),(by rw[ef];exact f7),(by first|rfl|exact f8|(simp only[upd_apply];rfl)|(show I64 _=_;congr 1;omega)),(by first|rfl|exact f9|(simp only[upd_apply];rfl)|(show I64 _=_;congr 1;omega)),pp,(by rw[ef];exact g6)⟩
 have ei:i=W:=by omega
 subst ei
 obtain⟨e6,g6⟩:=g6
 have hb1:=pre_get pp hb1
 have lt1:=get_lt hb1
 ((try simp (maxSteps:=3000000) (dsimp:=false) (disch:=first|omega|simp only[lnx];omega) only[↓ypre,ypost,↓reduceIte,reduceEqDiff,reduceAdd,reduceSub,reduceLeDiff,zz0,ynew,f0,f1,f4,f6,f7,f8,f9,decide_eq_false hlt,rdn_of g6,wr_of hb1]);try simp only[yback])
 refine hQ (foldI p T i i ⟨0,0,0,0⟩) _ (pre_put (p1.trans pp) (Nat.le_refl _)) ?_ (hm0 i)
 unfold bst
 rw[hw0]
 exact foldI_rel (.inl ⟨by simp,rfl⟩)
end Go.Proofs.Ytapafdpnmakekaa.X

set_option linter.unusedVariables false
set_option linter.unusedSimpArgs false
set_option maxRecDepth 20000
set_option maxHeartbeats 4000000
namespace Go.Proofs.Ytapafdpnmakekaa.X
open Go Go.RowKit
theorem WayX.appK {e:TypeId} {k:IntKind} {w:Nat} {lo:Nat} {ex:List Nat} {sv:Value} {L:List (List Int)} {H:AH} {q:List Int} {e':TypeId} {ro full:Bool} {bytes:Nat} (o:WayX e k w H lo ex sv L) (hq:q.length=w) (hl:((L.length:Int)+1)*bytes≤140737488355328) (hn:(L.length:Int)<1048576) (hlo:lo≤H.length) (hex:∀ m,m∈ex→m<H.length)
  {Q:Value→AH→Prop} (hQ:∀ (sv':Value) (H':AH),H'.length=H.length+2→(∀ h0:AH,h0.length≤lo→h0<+:H→h0<+:H')→(∀ m b,(m∈ex∨b.e≠e)→H.get m=some b→H'.get m=some b)→WayX e k w H' H.length ex sv' (L++[q])→Q sv' H') :
  OQ (appV e w bytes sv (.slice (some ⟨H.length,0,none⟩) 1 w) (H.new ⟨cel k q,e',ro,full⟩)) Q:=by
 have hr:(H.new ⟨cel k q,e',ro,full⟩).rdn H.length 0 w=some (cel k q):=by
  rw[rdn_of get_new_same]
  simp only
  rw[if_pos (by rw[cel_len,hq];omega),List.drop_zero,List.take_of_length_le (by rw[cel_len,hq];omega)]
 obtain⟨hw,⟨rfl,rfl⟩|⟨kb,fu,rfl,h2,h3,h4⟩⟩:=o
 ·rw[app_nilW (.inl rfl) hr (by simp only[List.length_nil] at hl;omega),OQ_some]
  refine hQ _ _ (by rw[len_new,len_new]) (fun h0 _ p=>pre_new (pre_new p)) (fun m b _ o=>get_new_any (get_new_any o)) ⟨?_,.inr ⟨_,false,rfl,by rw[len_new];omega,fun hm=>by have:=hex _ hm;rw[len_new] at this;omega,?_⟩⟩
  ·intro r hr
   rw[List.nil_append,List.mem_singleton] at hr
   rw[hr,hq]
  ·rw[get_new_same]
   simp
 ·have hk:(H.new ⟨cel k q,e',ro,full⟩).get kb=some ⟨cel k L.flatten,e,false,fu⟩:=get_new_any h4
  have hkb:=get_lt h4
  rw[app_ownW hk (by rw[cel_len,flat_len hw]) hr ⟨hl,by omega⟩,OQ_some]
  refine hQ _ _ (by rw[len_new,len_kill,len_new]) (fun h0 q p=>pre_new (pre_kill (pre_new p) (by omega))) (fun m b hm o=>?_) ⟨?_,.inr ⟨(H.new ⟨cel k q,e',ro,full⟩).length,false,by simp,by rw[len_new];omega,fun hm=>by have:=hex _ hm;rw[len_new] at this;omega,?_⟩⟩
  ·refine get_new_any ?_
   rw[get_kill_ne]
   ·exact get_new_any o
   ·rintro rfl
    rcases hm with hm|hm
    ·exact h3 hm
    ·rw[h4] at o
     cases o
     exact hm rfl
  ·intro r hr
   rcases List.mem_append.1 hr with hr|hr
   ·exact hw r hr
   ·rw[List.mem_singleton.1 hr,hq]
  ·rw[get_new_eq (by rw[len_kill])]
   simp[cel_app]
structure TabL (h:AH) (lo nb:Nat) (full:Bool) (L:List (Nat×List Int)):Prop where
 g:h.get nb=some ⟨L.map rowV,27,false,full⟩
 low:lo≤nb
 rows:∀ i (hi:i<L.length),lo≤(L[i]).1∧∃ fu,Lst h (L[i]).1 (L[i]).2 fu
 dist:∀ i j (hi:i<L.length) (hj:j<L.length),i≠j→(L[i]).1≠(L[j]).1
section
variable {h h':AH} {lo nb:Nat} {full:Bool} {L:List (Nat×List Int)}
theorem TabL.keep (s:TabL h lo nb full L) (hk:∀ m b,(b.e=2∨b.e=27)→h.get m=some b→h'.get m=some b):TabL h' lo nb full L:=
 ⟨hk _ _ (.inr rfl) s.g,s.low,fun i hi=>⟨(s.rows i hi).1,by obtain⟨fu,o⟩:=(s.rows i hi).2;exact⟨fu,hk _ _ (.inl rfl) o⟩⟩,s.dist⟩
theorem TabL.pre (s:TabL h lo nb full L) (p:h<+:h'):TabL h' lo nb full L:=s.keep fun m b _ g=>pre_get p g
theorem TabL.put (s:TabL h lo nb full L) {n:Nat} {b b':Blk} (g:h.get n=some b') (hb:b'.e≠2∧b'.e≠27):TabL (h.put n b) lo nb full L:=s.keep fun m c hc g'=>by
 rw[get_put_ne]
 ·exact g'
 ·rintro rfl
  rw[g] at g'
  cases g'
  rcases hc with hc|hc
  ·exact hb.1 hc
  ·exact hb.2 hc
theorem TabL.rd (s:TabL h lo nb full L) {i:Nat} (hi:i<L.length):h.rd1 nb i=some (sl (L[i]).1 (L[i]).2.length):=by
 rw[rd1_of s.g]
 simp[hi,rowV,sl]
theorem TabL.ne (s:TabL h lo nb full L) {i:Nat} (hi:i<L.length):(L[i]).1≠nb:=by
 obtain⟨fu,o⟩:=(s.rows i hi).2
 intro e
 have g:=s.g
 unfold Lst at o
 rw[e,g] at o
 have:=congrArg (fun b:Option Blk=>b.map (·.e)) o
 simp at this
theorem TabL.vals (s:TabL h lo nb full L):Vals h (sl nb L.length) (L.map rowV):=by
 refine .inr ⟨nb,0,_,?_,s.g,by simp,fun i hi=>?_⟩
 ·simp[sl]
 ·rw[Nat.zero_add,List.getD_eq_getElem?_getD,List.getElem?_eq_getElem hi]
  rfl
theorem TabL.at (s:TabL h lo nb full L) {i:Nat} (hi:i<L.length):Ints h ((L.map rowV).getD i undef) ((L.map Prod.snd).getD i []):=by
 obtain⟨fu,o⟩:=(s.rows i hi).2
 have e1:(L.map rowV).getD i undef=sl (L[i]).1 (L[i]).2.length:=by simp[List.getD_eq_getElem?_getD,hi,rowV,sl]
 have e2:(L.map Prod.snd).getD i []=(L[i]).2:=by simp[List.getD_eq_getElem?_getD,hi]
 rw[e1,e2]
 exact o.ints
theorem TabL.rowsR (s:TabL h lo nb full L):Rows h (sl nb L.length) (L.map Prod.snd):=⟨L.map rowV,s.vals,by simp,fun i hi=>s.at (by simpa using hi)⟩
theorem TabL.rowsS (s:TabL h lo nb full L):RowsS lo h (sl nb L.length) (L.map Prod.snd):=by
 have hk:∀ h',Stay lo h h'→TabL h' lo nb full L:=fun h' st=>s.keep fun m b hb g=>st.get m b g (by rcases hb with hb|hb<;>rw[hb]<;>decide) (by rcases hb with hb|hb<;>rw[hb]<;>decide)
 exact⟨L.map rowV,fun h' st=>(hk h' st).vals,by simp,fun i hi h' st=>(hk h' st).at (by simpa using hi)⟩
theorem TabL.upd (s:TabL h lo nb full L) {i n':Nat} {r':List Int} {fu':Bool} (hi:i<L.length) (hl:Lst h' n' r' fu') (hlo:lo≤n') (hg:h'.get nb=some ⟨(L.set i (n',r')).map rowV,27,false,full⟩)
  (ho:∀ j (hj:j<L.length),j≠i→∀ fu,Lst h (L[j]).1 (L[j]).2 fu→Lst h' (L[j]).1 (L[j]).2 fu) (hd:∀ j (hj:j<L.length),j≠i→(L[j]).1≠n'):TabL h' lo nb full (L.set i (n',r')):=by
 refine⟨hg,s.low,fun j hj=>?_,fun a b ha hb hab=>?_⟩
 ·have hj':j<L.length:=by simpa using hj
  rw[List.getElem_set]
  split
  ·exact⟨hlo,fu',hl⟩
  ·rename_i hne
   obtain⟨q1,fu,o⟩:=s.rows j hj'
   exact⟨q1,fu,ho j hj' (fun e=>hne e.symm) fu o⟩
 ·have ha':a<L.length:=by simpa using ha
  have hb':b<L.length:=by simpa using hb
  rw[List.getElem_set,List.getElem_set]
  by_cases h1:i=a
  ·rw[if_pos h1,if_neg (by omega)]
   exact fun e=>hd b hb' (by omega) e.symm
  ·rw[if_neg h1]
   by_cases h2:i=b
   ·rw[if_pos h2]
    exact hd a ha' (by omega)
   ·rw[if_neg h2]
    exact s.dist a b ha' hb' hab
theorem TabL.cell (s:TabL h lo nb full L) {i c n:Nat} {r:List Int} {fu:Bool} {x:Int} (hi:i<L.length) (hL:L[i]=(n,r)) (o:Lst h n r fu) :
  TabL (h.put n ⟨(r.set c x).map (Value.int .i64),2,false,fu⟩) lo nb full (L.set i (n,r.set c x)):=by
 have hne:=s.ne hi
 have hr:=(s.rows i hi).1
 rw[hL] at hne hr
 refine s.upd hi (fu':=fu) (get_put_same o.lt) hr ?_ (fun j hj hji fu' o'=>?_) (fun j hj hji=>?_)
 ·rw[get_put_ne hne,s.g]
  congr 2
  rw[List.map_set]
  have:rowV (n,r.set c x)=(L.map rowV)[i]'(by simpa using hi):=by
   rw[List.getElem_map,hL]
   simp[rowV]
  rw[this,List.set_getElem_self]
 ·have:=s.dist i j hi hj (fun e=>hji e.symm)
  rw[hL] at this
  exact o'.put_ne this
 ·have:=s.dist j i hj hi hji
  rw[hL] at this
  exact this
theorem TabL.store (s:TabL h lo nb full L) {i n n':Nat} {r r':List Int} (hi:i<L.length) (hL:L[i]=(n,r)) (hk:∀ m b,m≠n→h.get m=some b→h'.get m=some b) (hl:Lst h' n' r' false) (hn':h.length≤n') (hlo:lo≤h.length) :
  h'.wr nb i [sl n' r'.length]=some (h'.put nb ⟨(L.set i (n',r')).map rowV,27,false,full⟩)∧TabL (h'.put nb ⟨(L.set i (n',r')).map rowV,27,false,full⟩) lo nb full (L.set i (n',r')):=by
 have hne:=s.ne hi
 rw[hL] at hne
 have g':=hk _ _ hne.symm s.g
 have ltn:∀ j (hj:j<L.length),(L[j]).1<h.length:=fun j hj=>by
  obtain⟨fu,o⟩:=(s.rows j hj).2
  exact o.lt
 have lnb:=get_lt s.g
 constructor
 ·rw[wr_of g',if_pos ⟨rfl,by simp only[List.length_map,List.length_singleton];omega⟩]
  congr 3
  rw[splice_set (by simpa using hi),List.map_set]
  rfl
 ·refine s.upd hi (fu':=false) (hl.put_ne (by omega)) (by omega) (get_put_same (get_lt g')) (fun j hj hji fu' o'=>?_) (fun j hj hji=>by have:=ltn j hj;omega)
  have hd:=s.dist i j hi hj (fun e=>hji e.symm)
  rw[hL] at hd
  have o2:Lst h' (L[j]).1 (L[j]).2 fu':=hk _ _ hd.symm o'
  exact o2.put_ne (s.ne hj).symm
theorem TabL.app {n:Nat} {fu fw:Bool} {r:List Int} {e:TypeId} {h2:AH} (s:TabL h2 lo nb full L) (hn:lo≤n) (hd:∀ j (hj:j<L.length),(L[j]).1≠n) (ob:Lst h2 n r fw) (hlo:lo≤h2.length)
  (hl:(L.length:Int)≤1048576) {Q:Value→AH→Prop}
  (hQ:∀ H':AH,H'.length=h2.length+2→TabL H' lo (h2.length+1) false (L++[(n,r)])→(∀ m b,m≠nb→h2.get m=some b→H'.get m=some b)→(∀ h9:AH,h9.length≤nb→h9<+:h2→h9<+:H')→Q (sl (h2.length+1) (L++[(n,r)]).length) H') :
  OQ (appV 27 1 24 (sl nb L.length) (.slice (some ⟨h2.length,0,none⟩) 1 1) (h2.new ⟨[sl n r.length],e,false,fu⟩)) Q:=by
 have hrd:(h2.new ⟨[.slice (some ⟨n,0,none⟩) r.length 1],e,false,fu⟩).rdn h2.length 0 1=some [.slice (some ⟨n,0,none⟩) r.length 1]:=by rw[rdn_new_same];rfl
 have hk:(h2.new ⟨[.slice (some ⟨n,0,none⟩) r.length 1],e,false,fu⟩).get nb=some ⟨L.map rowV,27,false,full⟩:=get_new_any s.g
 have l1:=get_lt s.g
 have keep:∀ m b,m≠nb→h2.get m=some b→(((h2.new ⟨[.slice (some ⟨n,0,none⟩) r.length 1],e,false,fu⟩).kill nb).new ⟨L.map rowV++[.slice (some ⟨n,0,none⟩) r.length 1],27,false,false⟩).get m=some b:=fun m b hm g=>get_new_any (by rw[get_kill_ne (fun e=>hm e.symm)];exact get_new_any g)
 unfold sl at hQ ⊢
 rw[app_own hk (by simp) hrd (by omega),OQ_some]
 have:=hQ _ (by rw[len_new,len_kill,len_new]) ?_ keep (fun h9 hh p=>pre_new (pre_kill (pre_new p) hh))
 ·rw[len_new]
  rw[List.length_append,List.length_singleton] at this
  exact this
 ·refine⟨by rw[get_new_eq (by rw[len_kill,len_new])];simp[rowV],by omega,fun i hi=>?_,fun a b ha hb hab=>?_⟩
  ·by_cases hiL:i<L.length
   ·rw[List.getElem_append_left hiL]
    obtain⟨q1,fq,o⟩:=s.rows i hiL
    exact⟨q1,fq,keep _ _ (s.ne hiL) o⟩
   ·have e1:i=L.length:=by simp at hi;omega
    subst e1
    rw[List.getElem_append_right (Nat.le_refl _)]
    simp only[Nat.sub_self,List.getElem_cons_zero]
    refine⟨hn,fw,keep _ _ ?_ ob⟩
    rintro rfl
    have g:=s.g
    unfold Lst at ob
    rw[g] at ob
    have:=congrArg (fun b:Option Blk=>b.map (·.e)) ob
    simp at this
  ·by_cases ha':a<L.length
   ·rw[List.getElem_append_left ha']
    by_cases hb':b<L.length
    ·rw[List.getElem_append_left hb']
     exact s.dist a b ha' hb' hab
    ·have e1:b=L.length:=by simp at hb;omega
     subst e1
     rw[List.getElem_append_right (Nat.le_refl _)]
     simp only[Nat.sub_self,List.getElem_cons_zero]
     exact hd a ha'
   ·have e1:a=L.length:=by simp at ha;omega
    subst e1
    have hb':b<L.length:=by simp at hb;omega
    rw[List.getElem_append_right (Nat.le_refl _),List.getElem_append_left hb']
    simp only[Nat.sub_self,List.getElem_cons_zero]
    exact (hd b hb').symm
end
structure StayT (lo:Nat) (h h':AH):Prop where
 len:h.length≤h'.length
 pre:∀ h0:AH,h0.length≤lo→h0<+:h→h0<+:h'
 get:∀ m b,h.get m=some b→b.e≠2→b.e≠27→h'.get m=some b
theorem StayT.refl {lo:Nat} {h:AH}:StayT lo h h:=⟨Nat.le_refl _,fun _ _ p=>p,fun _ _ g _ _=>g⟩
theorem StayT.of {lo:Nat} {h h':AH} (p:h<+:h'):StayT lo h h':=⟨pre_len p,fun _ _ q=>q.trans p,fun _ _ g _ _=>pre_get p g⟩
theorem StayT.trans {lo:Nat} {h h1 h2:AH} (a:StayT lo h h1) (b:StayT lo h1 h2):StayT lo h h2:=
 ⟨Nat.le_trans a.len b.len,fun h0 hl p=>b.pre h0 hl (a.pre h0 hl p),fun m c g h1 h2=>b.get m c (a.get m c g h1 h2) h1 h2⟩
theorem StayT.put {lo n:Nat} {h:AH} {b b':Blk} (g:h.get n=some b') (hb:b'.e=2∨b'.e=27) (hlo:lo≤n):StayT lo h (h.put n b):=
 ⟨by rw[len_put];exact Nat.le_refl _,fun h0 hl p=>pre_put p (by omega),fun m c g' h1 h2=>by
  rw[get_put_ne]
  ·exact g'
  ·rintro rfl
   rw[g] at g'
   cases g'
   rcases hb with hb|hb
   ·exact h1 hb
   ·exact h2 hb⟩
structure StayI (lo:Nat) (h h':AH):Prop where
 len:h.length≤h'.length
 pre:∀ h0:AH,h0.length≤lo→h0<+:h→h0<+:h'
 get:∀ m b,h.get m=some b→(b.e=2∨b.e=27)→h'.get m=some b
theorem StayI.refl {lo:Nat} {h:AH}:StayI lo h h:=⟨Nat.le_refl _,fun _ _ p=>p,fun _ _ g _=>g⟩
theorem Stay.toI {lo:Nat} {h h':AH} (s:Stay lo h h'):StayI lo h h':=
 ⟨s.len,s.pre,fun m b g hb=>s.get m b g (by rcases hb with hb|hb<;>rw[hb]<;>decide) (by rcases hb with hb|hb<;>rw[hb]<;>decide)⟩
theorem StayI.trans {lo:Nat} {h h1 h2:AH} (a:StayI lo h h1) (b:StayI lo h1 h2):StayI lo h h2:=
 ⟨Nat.le_trans a.len b.len,fun h0 hl p=>b.pre h0 hl (a.pre h0 hl p),fun m c g h1=>b.get m c (a.get m c g h1) h1⟩
theorem StayI.put {lo n:Nat} {h:AH} {b b':Blk} (g:h.get n=some b') (hb:b'.e≠2∧b'.e≠27) (hlo:lo≤n):StayI lo h (h.put n b):=
 ⟨by rw[len_put];exact Nat.le_refl _,fun h0 hl p=>pre_put p (by omega),fun m c g' h1=>by
  rw[get_put_ne]
  ·exact g'
  ·rintro rfl
   rw[g] at g'
   cases g'
   rcases h1 with h1|h1
   ·exact hb.1 h1
   ·exact hb.2 h1⟩
end Go.Proofs.Ytapafdpnmakekaa.X

set_option linter.unusedVariables false
set_option linter.unusedSimpArgs false
set_option maxRecDepth 20000
set_option maxHeartbeats 4000000
namespace Go.Proofs.Ytapafdpnmakekaa.X
open Go Go.RowKit
open Nat (reduceEqDiff reduceAdd reduceSub reduceLeDiff)
def mvK (p:Int) (s:BS) (T:List (List Int)) (k:Nat):List (List Int):=(List.range T.length).map fun j=>if j<k then mvRow p s.l s.j s.r (T.getD j []) else T.getD j []
theorem mvK_len {p:Int} {s:BS} {T:List (List Int)} {k:Nat}:(mvK p s T k).length=T.length:=by simp[mvK]
theorem mvK_get {p:Int} {s:BS} {T:List (List Int)} {k j:Nat} (hj:j<T.length):(mvK p s T k).getD j []=if j<k then mvRow p s.l s.j s.r (T.getD j []) else T.getD j []:=by
 simp[mvK,List.getD_eq_getElem?_getD,List.getElem?_map,List.getElem?_range hj]
theorem mvK_zero {p:Int} {s:BS} {T:List (List Int)}:mvK p s T 0=T:=getD_ext mvK_len fun j hj=>by
 rw[mvK_len] at hj
 rw[mvK_get hj,if_neg (by omega)]
theorem mvK_all {p:Int} {s:BS} {T:List (List Int)}:mvK p s T T.length=mvT p s T:=getD_ext (by rw[mvK_len,mvT_len]) fun j hj=>by
 rw[mvK_len] at hj
 rw[mvK_get hj,if_pos hj,mvT_get hj]
theorem mvK_next {p:Int} {s:BS} {T:List (List Int)} {k:Nat} (hk:k<T.length):(mvK p s T k).set k (mvRow p s.l s.j s.r (T.getD k []))=mvK p s T (k+1):=getD_ext (by rw[List.length_set,mvK_len,mvK_len]) fun j hj=>by
 rw[List.length_set,mvK_len] at hj
 rw[set_getD' (by rw[mvK_len];exact hk),mvK_get hj,mvK_get hj]
 by_cases h:j=k
 ·subst h
  rw[if_pos rfl,if_pos (by omega)]
 ·rw[if_neg h]
  by_cases h2:j<k
  ·rw[if_pos h2,if_pos (by omega)]
  ·rw[if_neg h2,if_neg (by omega)]
theorem snd_at {L:List (Nat×List Int)} {T:List (List Int)} (h:L.map Prod.snd=T) {i:Nat} (hi:i<L.length):(L[i]).2=T.getD i []:=by
 rw[←h,List.getD_eq_getElem?_getD,List.getElem?_map,List.getElem?_eq_getElem hi]
 rfl
theorem s_l07Shared {u:Value} {p n:Int} {rows:List (List Int)} {h:AH} {Q:Value→AH→Prop} (hu:Rows h u rows) (hok:lsOK p n rows=true)
  (hQ:∀ v' w' h',h<+:h'→Way2 h' h.length v' w' (shP p n rows)→OrdB v' w'→Q (prgV (shP p n rows) v' w') h'):WF S 205 [I64 p,I64 n,u] h Q:=by
 refine WF_fn (fn:=c205) rfl rfl ?_
 dsimp only[c205,oO,oM,oS,oG,oK,oE,oL,oF,oX,oN]
 obtain⟨hp,hn,hl,hm⟩:=lsOK_iff.1 hok
 have hp5:=isP_in hp
 ((try simp (maxSteps:=3000000) (dsimp:=false) (disch:=first|omega|simp only[lnx];omega) only[↓ypre,ypost,↓reduceIte,reduceEqDiff,reduceAdd,reduceSub,reduceLeDiff,zz0,ynew]);try simp only[yback])
 generalize hH1:AH.new h _=H1
 obtain⟨hb1,p1,n1⟩:=new_facts hH1
 generalize hH2:AH.new H1 _=H2
 obtain⟨hb2,p2,n2⟩:=new_facts hH2
 generalize hH3:AH.new H2 _=H3
 obtain⟨hb3,p3,n3⟩:=new_facts hH3
 generalize hH4:AH.new H3 _=H4
 obtain⟨hb4,p4,n4⟩:=new_facts hH4
 generalize hH5:AH.new H4 _=H5
 obtain⟨hb5,p5,n5⟩:=new_facts hH5
 have p15:=(((p1.trans p2).trans p3).trans p4).trans p5
 have tb0:TabL H5 H1.length H3.length true []:=⟨pre_get p5 hb4,by omega,fun i hi=>by simp at hi,fun a b ha=>by simp at ha⟩
 refine WC_loop_inv (fun m f K1=>∃ (i:Nat) (nb:Nat) (fl:Bool) (L:List (Nat×List Int)),m=rows.length-i∧i≤rows.length∧f 0=I64 p∧f 2=u∧f 6=.pointer (some ⟨h.length,0,none⟩)∧f 7=.pointer (some ⟨H4.length,0,none⟩)∧f 8=sl nb L.length∧f 9=I64 i∧(StayT H1.length H5 K1)∧(TabL K1 H1.length nb fl L)∧(L.map Prod.snd=rows.take i)) ?_ (rows.length-0) _ _ ⟨0,H3.length,true,[],rfl,by omega,(by first|rfl|simp[upd_apply]),(by first|rfl|simp[upd_apply]),(by first|rfl|simp[upd_apply]),(by first|rfl|simp[upd_apply]),(by first|rfl|simp[upd_apply]),(by first|rfl|simp[upd_apply]),StayT.refl,tb0,(by simp)⟩
 rintro m f K1 ⟨i,nb,fl,L,rfl,hi,f0,f2,f6,f7,f8,f9,sy,tl,hL⟩
 have hLl:L.length=i:=by
  have:=congrArg List.length hL
  rw[List.length_map,List.length_take] at this
  omega
 have pK1:h<+:K1:=sy.pre _ (by omega) p15
 have huK:=hu.pre pK1
 have sl1:=sy.len
 by_cases hlt:(i:Int)<rows.length
 ·have hi':i<rows.length:=by omega
  obtain⟨nr,offr,x,ixr,rdr,hx⟩:=huK.row hi'
  obtain⟨hw,ha⟩:=isMat_iff.1 hm i hi'
  ((try simp (maxSteps:=3000000) (dsimp:=false) (disch:=first|omega|simp only[lnx];omega) only[↓ypre,ypost,↓reduceIte,reduceEqDiff,reduceAdd,reduceSub,reduceLeDiff,zz0,ynew,f0,f2,f6,f7,f8,f9,huK.len,decide_eq_true hlt,ixr,rdr]);try simp only[yback])
  refine s_OwnT hx (by omega) (by omega) fun nn H6 hnn p6 l6=>?_
  ((try simp (maxSteps:=3000000) (dsimp:=false) (disch:=first|omega|simp only[lnx];omega) only[↓ypre,ypost,↓reduceIte,reduceEqDiff,reduceAdd,reduceSub,reduceLeDiff,zz0,ynew,f0,f2,f6,f7,f8,f9,sl_cells,sl_one]);try simp only[yback])
  have tl6:=tl.pre p6
  have l66:=pre_len p6
  refine tl6.app (by omega) (fun j hj=>by
   obtain⟨fu,o⟩:=(tl.rows j hj).2
   have:=o.lt
   omega) l6 (by omega) (by omega) fun H7 l7 tl7 keep7 pre7=>?_
  ((try simp (maxSteps:=3000000) (dsimp:=false) (disch:=first|omega|simp only[lnx];omega) only[↓ypre,ypost,↓reduceIte,reduceEqDiff,reduceAdd,reduceSub,reduceLeDiff,zz0,ynew,f0,f2,f6,f7,f8,f9,wrap64_in]);try simp only[yback])
  have st7:StayT H1.length H6 H7:=⟨by omega,fun h0 hh q=>pre7 h0 (Nat.le_trans hh tl.low) q,fun m' b' g q1 q2=>keep7 m' b' (fun e=>by
   have g3:=tl6.g
   rw[e,g3] at g
   cases g
   exact q2 rfl) g⟩
  refine InvQ_go (rows.length-(i+1)) (by omega) ⟨(i+1),(H6.length+1),false,(L++[(nn,rows.getD i [])]),rfl,by omega,(by first|rfl|exact f0|(simp only[upd_apply];rfl)|(show I64 _=_;congr 1;omega)),(by first|rfl|exact f2|(simp only[upd_apply];rfl)|(show I64 _=_;congr 1;omega)),(by first|rfl|exact f6|(simp only[upd_apply];rfl)|(show I64 _=_;congr 1;omega)),(by first|rfl|exact f7|(simp only[upd_apply];rfl)|(show I64 _=_;congr 1;omega)),(by first|rfl|exact f8|(simp only[upd_apply];rfl)|(show I64 _=_;congr 1;omega)),(by first|rfl|exact f9|(simp only[upd_apply];rfl)|(show I64 _=_;congr 1;omega)),(sy.trans ((StayT.of p6).trans st7)),tl7,(by rw[List.map_append,hL,take_next (d:=[]) hi'];rfl)⟩
 have ei:i=rows.length:=by omega
 subst ei
 rw[List.take_of_length_le (Nat.le_refl _)] at hL
 ((try simp (maxSteps:=3000000) (dsimp:=false) (disch:=first|omega|simp only[lnx];omega) only[↓ypre,ypost,↓reduceIte,reduceEqDiff,reduceAdd,reduceSub,reduceLeDiff,zz0,ynew,f0,f2,f6,f7,f8,f9,huK.len,decide_eq_false hlt]);try simp only[yback])
 obtain⟨N,hN⟩:∃ N:Nat,n=N:=⟨n.toNat,by omega⟩
 have hNt:n.toNat=N:=by omega
 have si0:=ShI.start hok
 rw[hNt] at si0
 have hp1K:=sy.pre H1 (Nat.le_refl _) (((p2.trans p3).trans p4).trans p5)
 have g7:=sy.get _ _ hb5 (by simp) (by simp)
 have g3:=sy.get _ _ (pre_get (p4.trans p5) hb3) (by simp) (by simp)
 have wv0:WayX (181) .i64 3 K1 H1.length [] (.slice (some ⟨H1.length,0,none⟩) 0 3) ([]:List (List Int)):=⟨fun r hr=>by simp at hr,.inr ⟨H1.length,true,rfl,Nat.le_refl _,by simp,sy.get _ _ (pre_get ((p3.trans p4).trans p5) hb2) (by simp) (by simp)⟩⟩
 rw[hLl] at f8
 have nz0:nzT rows=nzT rows-0:=rfl
 refine WC_loop_inv (fun m f K2=>∃ (d:Nat) (s:SS) (sv:Value) (nb:Nat) (fl:Bool) (L:List (Nat×List Int)),m=((nzT rows))-d∧d≤((nzT rows))∧f 0=I64 p∧f 6=.pointer (some ⟨h.length,0,none⟩)∧f 7=.pointer (some ⟨H4.length,0,none⟩)∧f 8=sl nb rows.length∧(nzT s.T=nzT rows-d)∧(ShI p N rows s)∧(H1<+:K2)∧(TabL K2 H1.length nb fl L)∧(L.map Prod.snd=s.T)∧(WayX (181) .i64 3 K2 H1.length [] sv s.st)∧(K2.get H4.length=some ⟨[I64 p,I64 n,sv,.slice (some ⟨H2.length,0,none⟩) 0 2],70,false,true⟩)∧(K2.get H2.length=some ⟨[],183,false,true⟩)∧(H5.length≤K2.length)) ?_ (((nzT rows))-0) _ _ ⟨0,⟨rows,[]⟩,.slice (some ⟨H1.length,0,none⟩) 0 3,nb,fl,L,rfl,by omega,(by first|rfl|exact f0|(simp[upd_apply];done)),(by first|rfl|exact f6|(simp[upd_apply];done)),(by first|rfl|exact f7|(simp[upd_apply];done)),(by first|rfl|exact f8|(simp[upd_apply];done)),nz0,si0,hp1K,tl,hL,wv0,g7,g3,sl1⟩
 rintro m f K2 ⟨d,s,sv,nb,fl,L,rfl,hd,f0,f6,f7,f8,hz,si,pp,tl,hL,wv,g7,g3,lk⟩
 have hLl:L.length=rows.length:=by rw[←si.len,←hL,List.length_map]
 have hv:Rows K2 (sl nb rows.length) s.T:=by
  rw[←hLl,←hL]
  exact tl.rowsR
 have nzb:=si.nz
 have hT1:1≤s.T.length:=by rw[si.len];omega
 ((try simp (maxSteps:=3000000) (dsimp:=false) (disch:=first|omega|simp only[lnx];omega) only[↓ypre,ypost,↓reduceIte,reduceEqDiff,reduceAdd,reduceSub,reduceLeDiff,zz0,ynew,f0,f6,f7,f8]);try simp only[yback])
 refine s_l07Best hv hp si.gt ⟨hT1,by rw[si.len];omega⟩ (by omega) fun bb H6 p6 rel mle=>?_
 ((try simp (maxSteps:=3000000) (dsimp:=false) (disch:=first|omega|simp only[lnx];omega) only[↓ypre,ypost,↓reduceIte,reduceEqDiff,reduceAdd,reduceSub,reduceLeDiff,zz0,ynew,f0,f6,f7,f8,wrap64_in]);try simp only[yback])
 generalize hH7:AH.new H6 _=H7
 obtain⟨hb7,p7,n7⟩:=new_facts hH7
 have p67:=p6.trans p7
 have k6:=pre_len p6
 by_cases hbm:(bb.m:Int)<2
 · -- no two rows are left
  have stop:¬ 2≤(bst p s.T).m:=by
   rcases rel with⟨_,r2⟩|⟨r1,_⟩
   ·omega
   ·omega
  have es:=si.stop stop
  ((try simp (maxSteps:=3000000) (dsimp:=false) (disch:=first|omega|simp only[lnx];omega) only[↓ypre,ypost,↓reduceIte,reduceEqDiff,reduceAdd,reduceSub,reduceLeDiff,zz0,ynew,f0,f6,f7,f8,decide_eq_true hbm]);try simp only[yback])
  have tl7:=tl.pre p67
  have pp7:=pp.trans p67
  have hpp:h<+:H7:=p1.trans pp7
  have hrr:∀ i,i<s.T.length→allIn p (s.T.getD i [])=true∧(s.T.getD i []).length≤10000:=fun i hi=>by
   obtain⟨q1,q2⟩:=si.gt i hi
   exact⟨allIn_iff.2 fun j hj=>q2 j (by omega),by omega⟩
  have eSP:shP p n rows=finP ⟨p,n,s.st,[]⟩ s.T s.T.length:=by unfold shP;rw[←es]
  rw[eSP] at hQ
  have sl':=si.len
  have o0:Way2 H7 H1.length sv (.slice (some ⟨H2.length,0,none⟩) 0 2) (finP ⟨p,n,s.st,[]⟩ s.T 0):=
   ⟨wv.pre p67,⟨fun r hr=>by simp[finP] at hr,.inr ⟨H2.length,true,rfl,by omega,by simp,pre_get p67 g3⟩⟩⟩
  generalize hT:s.T=T at *
  generalize hst:s.st=st0 at *
  have hkI:∀ h',StayI H1.length H7 h'→TabL h' H1.length nb fl L:=fun h' st=>tl7.keep fun m' b' hb g=>st.get m' b' g hb
  have hvS:∀ h',StayI H1.length H7 h'→Vals h' (sl nb rows.length) (L.map rowV):=fun h' st=>by rw[←hLl];exact (hkI h' st).vals
  have hrS:∀ i,i<T.length→∀ h',StayI H1.length H7 h'→Ints h' ((L.map rowV).getD i undef) (T.getD i []):=fun i hi h' st=>by
   rw[←hL]
   exact (hkI h' st).at (by omega)
  have hcl:(L.map rowV).length=T.length:=by rw[List.length_map,hLl,sl']
  have g6:=pre_get pp7 hb1
  refine WC_loop_inv (fun m f K3=>∃ (i:Nat) (v:Value) (w:Value),m=T.length-i∧i≤T.length∧f 6=.pointer (some ⟨h.length,0,none⟩)∧f 7=.pointer (some ⟨H4.length,0,none⟩)∧f 8=sl nb rows.length∧f 16=I64 i∧(StayI H1.length H7 K3)∧(Way2 K3 H1.length v w (finP ⟨p,n,st0,[]⟩ T i))∧(0<i→OrdB v w)∧(K3.get H4.length=some ⟨[I64 p,I64 n,v,w],70,false,true⟩)) ?_ (T.length-0) _ _ ⟨0,sv,.slice (some ⟨H2.length,0,none⟩) 0 2,rfl,by omega,(by first|rfl|exact f6|(simp[upd_apply];done)),(by first|rfl|exact f7|(simp[upd_apply];done)),(by first|rfl|exact f8|(simp[upd_apply];done)),(by first|rfl|simp[upd_apply]),StayI.refl,o0,(by omega),pre_get p67 g7⟩
  rintro m f K3 ⟨i,v,w,rfl,hi,f6,f7,f8,f16,sy,o2,ob,g7⟩
  obtain⟨ep,en,sle,ole⟩:=finP_facts (x:=⟨p,n,st0,[]⟩) (N:=10000) hp hrr hn (i:=i) hi
  have lt7:=get_lt g7
  have slk:=sy.len
  have lnT:lenV (sl nb rows.length)=some (I64 T.length):=by rw[sl'];rfl
  have g6':=pre_get (sy.pre H1 (Nat.le_refl _) pp7) hb1
  by_cases hlt:(i:Int)<T.length
  ·have hi':i<T.length:=by omega
   obtain⟨hra,hrl⟩:=hrr i hi'
   have ix:=(hvS _ sy).ix (k:=.i64) (j:=i) (by omega) (by omega)
   have rd:=(hvS _ sy).rd (j:=i) (by omega) (by omega)
   have hri:=hrS i hi'
   rw[Int.toNat_natCast] at rd
   have fin1:finP ⟨p,n,st0,[]⟩ T (i+1)=rowP (finP ⟨p,n,st0,[]⟩ T i) (T.getD i []):=rfl
   generalize finP ⟨p,n,st0,[]⟩ T i=X at *
   have epv:prgV X v w=.agg #[I64 p,I64 n,v,w]:=by unfold prgV;rw[ep,en]
   ((try simp (maxSteps:=3000000) (dsimp:=false) (disch:=first|omega|simp only[lnx];omega) only[↓ypre,ypost,↓reduceIte,reduceEqDiff,reduceAdd,reduceSub,reduceLeDiff,zz0,ynew,f6,f7,f8,f16,lnT,decide_eq_true hlt,rdn_of g7,ix,rd]);try simp only[yback])
   rw[←epv]
   refine s_l07Row (by rw[ep];exact hp) (by rw[en];exact hn) o2 (by omega) (fun h' s'=>hri h' (sy.trans s'.toI)) (by rw[ep];exact hra) (by omega) (by simp at sle;omega) (by simp at ole;omega) fun v' w' H' sy' o' ob'=>?_
   have g7':=sy'.get _ _ g7 (by simp) (by simp)
   have lt7':=get_lt g7'
   ((try simp (maxSteps:=3000000) (dsimp:=false) (disch:=first|omega|simp only[lnx];omega) only[↓ypre,ypost,↓reduceIte,reduceEqDiff,reduceAdd,reduceSub,reduceLeDiff,zz0,ynew,f6,f7,f8,f16,prgV,o'.st.one,o'.st.cells,o'.out.one,o'.out.cells,wr_of g7',wrap64_in]);try simp only[yback])
   refine InvQ_go (T.length-(i+1)) (by omega) ⟨(i+1),v',w',rfl,by omega,(by first|rfl|exact f6|(simp only[upd_apply];rfl)|(show I64 _=_;congr 1;omega)),(by first|rfl|exact f7|(simp only[upd_apply];rfl)|(show I64 _=_;congr 1;omega)),(by first|rfl|exact f8|(simp only[upd_apply];rfl)|(show I64 _=_;congr 1;omega)),(by first|rfl|exact f16|(simp only[upd_apply];rfl)|(show I64 _=_;congr 1;omega)),((sy.trans sy'.toI).trans (StayI.put g7' (by simp) (by omega))),?_,(fun _=>ob'),?_⟩
   ·rw[fin1]
    exact⟨o'.st.put_ty g7' (by simp),o'.out.put_ty g7' (by simp)⟩
   ·rw[get_put_same lt7']
    show some (⟨[I64 X.p,I64 X.n,v',w'],_,_,_⟩:Blk)=_
    rw[ep,en]
  have ei:i=T.length:=by omega
  subst ei
  have lt6:=get_lt g6'
  ((try simp (maxSteps:=3000000) (dsimp:=false) (disch:=first|omega|simp only[lnx];omega) only[↓ypre,ypost,↓reduceIte,reduceEqDiff,reduceAdd,reduceSub,reduceLeDiff,zz0,ynew,f6,f7,f8,f16,lnT,decide_eq_false hlt,rdn_of g7,wr_of g6',o2.st.one,o2.st.cells,o2.out.one,o2.out.cells]);try simp only[yback])
  have:=hQ v w _ (pre_put (b:=⟨[I64 p,I64 n,v,w],70,false,true⟩) (sy.pre h (by omega) hpp) (Nat.le_refl _)) ⟨(o2.st.put_ty g6' (by simp)).mlo (by omega),(o2.out.put_ty g6' (by simp)).mlo (by omega)⟩ (ob (by omega))
  unfold prgV at this
  rw[ep,en] at this
  exact this
 ·have hbb:bst p s.T=bb:=by
   rcases rel with⟨r1,_⟩|⟨_,r2⟩
   ·omega
   ·exact r2
  obtain⟨b1,b2,b3,b4,_⟩:=bst_ok hp si.gt hT1 (by rw[hbb];omega)
  rw[hbb] at b1 b2 b3 b4
  have sg:=si.go hp (by omega) (by rw[hbb];omega)
  have est:(stepS p s).st=s.st++[[(bb.l:Int),(bb.j:Int),(bb.r:Int)]]:=by unfold stepS;rw[hbb]
  have eT:(stepS p s).T=mvT p bb s.T:=by unfold stepS;rw[hbb]
  have g7a:=pre_get p67 g7
  ((try simp (maxSteps:=3000000) (dsimp:=false) (disch:=first|omega|simp only[lnx];omega) only[↓ypre,ypost,↓reduceIte,reduceEqDiff,reduceAdd,reduceSub,reduceLeDiff,zz0,ynew,f0,f6,f7,f8,decide_eq_false hbm,rd1_of g7a,rdn_of hb7]);try simp only[yback])
  have wv7:WayX (181) .i64 3 H7 H1.length [H6.length] sv s.st:=(wv.exc (fun m' hm=>by simp at hm;omega)).pre p67
  refine wv7.appK (q:=[(bb.l:Int),(bb.j:Int),(bb.r:Int)]) rfl (by omega) (by omega) (by omega) (by simp;omega) fun sv' H8 l8 pre8 keep8 wv8=>?_
  have g7b:=keep8 _ _ (.inr (by simp)) g7a
  have g3b:=keep8 _ _ (.inr (by simp)) (pre_get p67 g3)
  have gAb:=keep8 _ _ (.inl (by simp)) hb7
  have tl8:=(tl.pre p67).keep (fun m' b' hb g=>keep8 m' b' (.inr (by rcases hb with hb|hb<;>rw[hb]<;>decide)) g)
  have lt7:=get_lt g7b
  ((try simp (maxSteps:=3000000) (dsimp:=false) (disch:=first|omega|simp only[lnx];omega) only[↓ypre,ypost,↓reduceIte,reduceEqDiff,reduceAdd,reduceSub,reduceLeDiff,zz0,ynew,f0,f6,f7,f8,wv8.one,wv8.cells,wr_of g7b,wrap64_in]);try simp only[yback])
  generalize hH9:AH.put H8 _ _=H9
  have g7c:H9.get H4.length=some ⟨[I64 p,I64 n,sv',.slice (some ⟨H2.length,0,none⟩) 0 2],70,false,true⟩:=by rw[←hH9];exact get_put_same lt7
  have g3c:H9.get H2.length=some ⟨[],183,false,true⟩:=by rw[←hH9,get_put_ne (by omega)];exact g3b
  have gAc:=show H9.get H6.length=some ⟨[I64 bb.l,I64 bb.j,I64 bb.r],181,false,true⟩ by rw[←hH9,get_put_ne (by omega)];exact gAb
  have tl9:TabL H9 H1.length nb fl L:=by rw[←hH9];exact tl8.put g7b (by simp)
  have wv9:WayX (181) .i64 3 H9 H1.length [] sv' (s.st++[[(bb.l:Int),(bb.j:Int),(bb.r:Int)]]):=by
   rw[←hH9]
   exact ((wv8.put_ty g7b (by simp)).exc (by simp)).mlo (by omega)
  have pp9:H1<+:H9:=by rw[←hH9];exact pre_put (pre8 _ (Nat.le_refl _) (pp.trans p67)) (by omega)
  have l9:H9.length=H8.length:=by rw[←hH9,len_put]
  rw[←mvK_zero (p:=p) (s:=bb) (T:=s.T)] at hL
  refine WC_loop_inv (fun m f K4=>∃ (k:Nat) (L:List (Nat×List Int)),m=rows.length-k∧k≤rows.length∧f 0=I64 p∧f 6=.pointer (some ⟨h.length,0,none⟩)∧f 7=.pointer (some ⟨H4.length,0,none⟩)∧f 8=sl nb rows.length∧f 10=.pointer (some ⟨H6.length,0,none⟩)∧f 12=I64 k∧(StayT H1.length H9 K4)∧(TabL K4 H1.length nb fl L)∧(L.map Prod.snd=mvK p bb s.T k)) ?_ (rows.length-0) _ _ ⟨0,L,rfl,by omega,(by first|rfl|exact f0|(simp[upd_apply];done)),(by first|rfl|exact f6|(simp[upd_apply];done)),(by first|rfl|exact f7|(simp[upd_apply];done)),(by first|rfl|exact f8|(simp[upd_apply];done)),(by first|rfl|simp[upd_apply]),(by first|rfl|simp[upd_apply]),StayT.refl,tl9,hL⟩
  rintro m f K4 ⟨k,L,rfl,hk,f0,f6,f7,f8,f10,f12,sy,tl,hL⟩
  have hLl:L.length=rows.length:=by rw[←si.len,←mvK_len (p:=p) (s:=bb) (T:=s.T) (k:=k),←hL,List.length_map]
  have gA:=sy.get _ _ gAc (by simp) (by simp)
  have sl3:=sy.len
  have lnT:lenV (sl nb rows.length)=some (I64 rows.length):=rfl
  by_cases hltk:(k:Int)<rows.length
  ·have hkL:k<L.length:=by omega
   have hkT:k<s.T.length:=by rw[si.len];omega
   obtain⟨nr,r,hLk⟩:∃ nr r,L[k]=(nr,r):=⟨_,_,rfl⟩
   have er:r=s.T.getD k []:=by
    have:=snd_at hL hkL
    rw[hLk,mvK_get hkT,if_neg (by omega)] at this
    exact this
   obtain⟨gw,gi⟩:=si.gt k hkT
   obtain⟨lr,fu,o⟩:=tl.rows k hkL
   rw[hLk] at lr o
   have lr:H1.length≤nr:=lr
   have o:Lst K4 nr r fu:=o
   have rl:=tl.rd hkL
   rw[hLk] at rl
   have rl:K4.rd1 nb k=some (sl nr r.length):=rl
   have rlen:r.length=N+s.st.length:=by rw[er];exact gw
   have ixk:=Lst.ix (n:=nb) (j:=(k:Int)) (len:=rows.length) (by omega)
   rw[Int.toNat_natCast] at ixk
   have ixl:=Lst.ix (n:=nr) (j:=(bb.l:Int)) (len:=r.length) (by omega)
   have ixj:=Lst.ix (n:=nr) (j:=(bb.j:Int)) (len:=r.length) (by omega)
   rw[Int.toNat_natCast] at ixl ixj
   have rdl:=o.rd (j:=bb.l) (by omega)
   have rdj:=o.rd (j:=bb.j) (by omega)
   have gl:=gi bb.l (by omega)
   have gj:=gi bb.j (by omega)
   have el:r.getD bb.l 0=tb s.T k bb.l:=by rw[er];rfl
   have ej:r.getD bb.j 0=tb s.T k bb.j:=by rw[er];rfl
   rw[←el] at gl
   rw[←ej] at gj
   have mb:=mul_in (A:=5) (B:=5) (a:=r.getD bb.l 0) (b:=(bb.r:Int)) (by omega) (by omega)
   have emv:mvRow p bb.l bb.j bb.r r=if mvOK p bb.l bb.j bb.r r=true then ((r.set bb.l 0).set bb.j 0)++[r.getD bb.l 0] else r++[0]:=rfl
   have eok:mvOK p bb.l bb.j bb.r r=(decide (r.getD bb.l 0≠0)&&decide (r.getD bb.j 0=(r.getD bb.l 0*bb.r).tmod p)):=rfl
   have nx:∀ (n':Nat) (L2:List (Nat×List Int)),L2.map Prod.snd=mvK p bb s.T k→(L2.set k (n',mvRow p bb.l bb.j bb.r r)).map Prod.snd=mvK p bb s.T (k+1):=fun n' L2 hL2=>by
    rw[List.map_set,hL2,er]
    exact mvK_next hkT
   by_cases hmv:mvOK p bb.l bb.j bb.r r=true
   ·rw[if_pos hmv] at emv
    rw[eok,Bool.and_eq_true,decide_eq_true_eq,decide_eq_true_eq] at hmv
    obtain⟨H10,w10,e10,o10⟩:=o.wr (j:=bb.l) (x:=0) (by omega)
    have tl10:TabL H10 H1.length nb fl (L.set k (nr,r.set bb.l 0)):=by rw[e10];exact tl.cell hkL hLk o
    obtain⟨H11,w11,e11,o11⟩:=o10.wr (j:=bb.j) (x:=0) (by rw[List.length_set];omega)
    have tl11:TabL H11 H1.length nb fl ((L.set k (nr,r.set bb.l 0)).set k (nr,(r.set bb.l 0).set bb.j 0)):=by
     rw[e11]
     exact tl10.cell (by rw[List.length_set];exact hkL) (by rw[List.getElem_set_self]) o10
    rw[List.set_set] at tl11
    have k10:H10.length=K4.length:=by rw[e10,len_put]
    have k11:H11.length=K4.length:=by rw[e11,len_put,k10]
    have gA10:H10.get H6.length=some ⟨[I64 bb.l,I64 bb.j,I64 bb.r],181,false,true⟩:=by
     rw[e10]
     exact (StayT.put o (.inl rfl) lr).get _ _ gA (by simp) (by simp)
    have st10:StayT H1.length K4 H10:=by rw[e10];exact StayT.put o (.inl rfl) lr
    have st11:StayT H1.length H10 H11:=by rw[e11];exact StayT.put o10 (.inl rfl) lr
    have rl2:(r.set bb.l 0).length=r.length:=List.length_set
    ((try simp (maxSteps:=3000000) (dsimp:=false) (disch:=first|omega|simp only[lnx];omega) only[↓ypre,ypost,↓reduceIte,reduceEqDiff,reduceAdd,reduceSub,reduceLeDiff,zz0,ynew,f0,f6,f7,f8,f10,f12,lnT,decide_eq_true hltk,ixk,rl,rd1_of gA,ixl,rdl,decide_eq_true hmv.1,ixj,rdj,decide_eq_true hmv.2,bin_rem,w10,rd1_of gA10,w11,wrap64_in]);try simp only[yback])
    have rl3:((r.set bb.l 0).set bb.j 0).length=r.length:=by rw[List.length_set,List.length_set]
    rw[←rl3]
    refine o11.app3 (by omega) fun H12 l12 pre12 keep12 lst12=>?_
    obtain⟨w13,tl13⟩:=tl11.store (i:=k) (n:=nr) (by rw[List.length_set];exact hkL) (by rw[List.getElem_set_self]) keep12 lst12 (by omega) (by omega)
    rw[List.set_set,←emv] at tl13
    rw[List.set_set] at w13
    have st12:StayT H1.length H11 H12:=⟨by omega,fun h0 hh q=>pre12 h0 (Nat.le_trans hh lr) q,fun m' b' g q1 q2=>keep12 m' b' (fun e=>by
     unfold Lst at o11
     rw[e,o11] at g
     cases g
     exact q1 rfl) g⟩
    have gnb:=keep12 _ _ (by have:=tl.ne hkL;rw[hLk] at this;exact this.symm) tl11.g
    ((try simp (maxSteps:=3000000) (dsimp:=false) (disch:=first|omega|simp only[lnx];omega) only[↓ypre,ypost,↓reduceIte,reduceEqDiff,reduceAdd,reduceSub,reduceLeDiff,zz0,ynew,f0,f6,f7,f8,f10,f12,ixk,w13,sl_cells,sl_one,wrap64_in]);try simp only[yback])
    refine InvQ_go (rows.length-(k+1)) (by omega) ⟨(k+1),(L.set k (H11.length+1,mvRow p bb.l bb.j bb.r r)),rfl,by omega,(by first|rfl|exact f0|(simp only[upd_apply];rfl)|(show I64 _=_;congr 1;omega)),(by first|rfl|exact f6|(simp only[upd_apply];rfl)|(show I64 _=_;congr 1;omega)),(by first|rfl|exact f7|(simp only[upd_apply];rfl)|(show I64 _=_;congr 1;omega)),(by first|rfl|exact f8|(simp only[upd_apply];rfl)|(show I64 _=_;congr 1;omega)),(by first|rfl|exact f10|(simp only[upd_apply];rfl)|(show I64 _=_;congr 1;omega)),(by first|rfl|exact f12|(simp only[upd_apply];rfl)|(show I64 _=_;congr 1;omega)),((((sy.trans st10).trans st11).trans st12).trans (StayT.put gnb (.inr rfl) tl.low)),?_,(nx _ _ hL)⟩
    rw[emv] at tl13 ⊢
    exact tl13
   ·rw[if_neg hmv] at emv
    have step0:∀ (F:Fr),True:=fun _=>trivial
    by_cases ha:r.getD bb.l 0=0
    ·((try simp (maxSteps:=3000000) (dsimp:=false) (disch:=first|omega|simp only[lnx];omega) only[↓ypre,ypost,↓reduceIte,reduceEqDiff,reduceAdd,reduceSub,reduceLeDiff,zz0,ynew,f0,f6,f7,f8,f10,f12,lnT,decide_eq_true hltk,ixk,rl,rd1_of gA,ixl,rdl,decide_eq_false (show ¬ r.getD bb.l 0≠0 from fun y=>y ha),wrap64_in]);try simp only[yback])
     have lst0:True:=trivial
     refine o.app3 (by omega) fun H12 l12 pre12 keep12 lst12=>?_
     obtain⟨w13,tl13⟩:=tl.store (i:=k) (n:=nr) hkL hLk keep12 lst12 (by omega) (by omega)
     rw[←emv] at tl13
     have st12:StayT H1.length K4 H12:=⟨by omega,fun h0 hh q=>pre12 h0 (Nat.le_trans hh lr) q,fun m' b' g q1 q2=>keep12 m' b' (fun e=>by
      unfold Lst at o
      rw[e,o] at g
      cases g
      exact q1 rfl) g⟩
     have gnb:=keep12 _ _ (by have:=tl.ne hkL;rw[hLk] at this;exact this.symm) tl.g
     ((try simp (maxSteps:=3000000) (dsimp:=false) (disch:=first|omega|simp only[lnx];omega) only[↓ypre,ypost,↓reduceIte,reduceEqDiff,reduceAdd,reduceSub,reduceLeDiff,zz0,ynew,f0,f6,f7,f8,f10,f12,ixk,w13,sl_cells,sl_one,wrap64_in]);try simp only[yback])
     refine InvQ_go (rows.length-(k+1)) (by omega) ⟨(k+1),(L.set k (K4.length+1,mvRow p bb.l bb.j bb.r r)),rfl,by omega,(by first|rfl|exact f0|(simp only[upd_apply];rfl)|(show I64 _=_;congr 1;omega)),(by first|rfl|exact f6|(simp only[upd_apply];rfl)|(show I64 _=_;congr 1;omega)),(by first|rfl|exact f7|(simp only[upd_apply];rfl)|(show I64 _=_;congr 1;omega)),(by first|rfl|exact f8|(simp only[upd_apply];rfl)|(show I64 _=_;congr 1;omega)),(by first|rfl|exact f10|(simp only[upd_apply];rfl)|(show I64 _=_;congr 1;omega)),(by first|rfl|exact f12|(simp only[upd_apply];rfl)|(show I64 _=_;congr 1;omega)),((sy.trans st12).trans (StayT.put gnb (.inr rfl) tl.low)),?_,(nx _ _ hL)⟩
     rw[emv] at tl13 ⊢
     exact tl13
    ·have hb:¬ r.getD bb.j 0=(r.getD bb.l 0*bb.r).tmod p:=fun e=>hmv (by rw[eok,decide_eq_true ha,decide_eq_true e];rfl)
     ((try simp (maxSteps:=3000000) (dsimp:=false) (disch:=first|omega|simp only[lnx];omega) only[↓ypre,ypost,↓reduceIte,reduceEqDiff,reduceAdd,reduceSub,reduceLeDiff,zz0,ynew,f0,f6,f7,f8,f10,f12,lnT,decide_eq_true hltk,ixk,rl,rd1_of gA,ixl,rdl,decide_eq_true (show r.getD bb.l 0≠0 from ha),ixj,rdj,bin_rem,decide_eq_false hb,wrap64_in]);try simp only[yback])
     have lst0:True:=trivial
     refine o.app3 (by omega) fun H12 l12 pre12 keep12 lst12=>?_
     obtain⟨w13,tl13⟩:=tl.store (i:=k) (n:=nr) hkL hLk keep12 lst12 (by omega) (by omega)
     rw[←emv] at tl13
     have st12:StayT H1.length K4 H12:=⟨by omega,fun h0 hh q=>pre12 h0 (Nat.le_trans hh lr) q,fun m' b' g q1 q2=>keep12 m' b' (fun e=>by
      unfold Lst at o
      rw[e,o] at g
      cases g
      exact q1 rfl) g⟩
     have gnb:=keep12 _ _ (by have:=tl.ne hkL;rw[hLk] at this;exact this.symm) tl.g
     ((try simp (maxSteps:=3000000) (dsimp:=false) (disch:=first|omega|simp only[lnx];omega) only[↓ypre,ypost,↓reduceIte,reduceEqDiff,reduceAdd,reduceSub,reduceLeDiff,zz0,ynew,f0,f6,f7,f8,f10,f12,ixk,w13,sl_cells,sl_one,wrap64_in]);try simp only[yback])
     refine InvQ_go (rows.length-(k+1)) (by omega) ⟨(k+1),(L.set k (K4.length+1,mvRow p bb.l bb.j bb.r r)),rfl,by omega,(by first|rfl|exact f0|(simp only[upd_apply];rfl)|(show I64 _=_;congr 1;omega)),(by first|rfl|exact f6|(simp only[upd_apply];rfl)|(show I64 _=_;congr 1;omega)),(by first|rfl|exact f7|(simp only[upd_apply];rfl)|(show I64 _=_;congr 1;omega)),(by first|rfl|exact f8|(simp only[upd_apply];rfl)|(show I64 _=_;congr 1;omega)),(by first|rfl|exact f10|(simp only[upd_apply];rfl)|(show I64 _=_;congr 1;omega)),(by first|rfl|exact f12|(simp only[upd_apply];rfl)|(show I64 _=_;congr 1;omega)),((sy.trans st12).trans (StayT.put gnb (.inr rfl) tl.low)),?_,(nx _ _ hL)⟩
     rw[emv] at tl13 ⊢
     exact tl13
  have ek:k=rows.length:=by omega
  subst ek
  ((try simp (maxSteps:=3000000) (dsimp:=false) (disch:=first|omega|simp only[lnx];omega) only[↓ypre,ypost,↓reduceIte,reduceEqDiff,reduceAdd,reduceSub,reduceLeDiff,zz0,ynew,f0,f6,f7,f8,f10,f12,lnT,decide_eq_false hltk]);try simp only[yback])
  rw[←si.len,mvK_all,←eT] at hL
  have hlt:=sg.2
  have dlt:d<nzT rows:=by omega
  refine InvQ_go (nzT rows-(nzT rows-nzT (stepS p s).T)) (by omega) ⟨nzT rows-nzT (stepS p s).T,stepS p s,sv',nb,fl,L,rfl,by omega,f0,f6,f7,f8,by omega,sg.1,sy.pre _ (Nat.le_refl _) pp9,tl,hL,?_,sy.get _ _ g7c (by simp) (by simp),sy.get _ _ g3c (by simp) (by simp),by have:=pre_len pp9;omega⟩
  rw[est]
  exact wv9.keep fun m' c' f' _ _ g=>sy.get _ _ g (by simp) (by simp)
def Col (T:List (List Int)) (i:Nat) (q:List Int):Prop:=q.length=5∧∀ x:Nat,1≤x→x<5→q.getD x 0=((bs T.length fun k=>decide (tb T k i=x):Nat):Int)
theorem Col.at {T:List (List Int)} {i x:Nat} {q:List Int} (c:Col T i q) (h:1≤x∧x<5):(cel .u32 q)[x]?=some (U32 (bs T.length fun k=>decide (tb T k i=x))):=by
 rw[cel_get (by rw[c.1];exact h.2),c.2 x h.1 h.2]
 rfl
theorem bs_none {R:Nat}:bs R (fun _=>false)=0:=(bs_of fun k=>by simp).symm
theorem ixa_u {n off len:Nat} {kk:IntKind} {j:Nat} (h:j<len):ixaV len 1 (.pointer (some ⟨n,off,none⟩)) (.int kk (j:Int))=some (.pointer (some ⟨n,off+j,none⟩)):=by
 rw[ixaV_ptr (by omega),Int.toNat_natCast,Nat.mul_one]
theorem i_rowsWith {p:Int} {W i j r:Nat} {T:List (List Int)} {qa qb:List Int} {h:AH} {Q:Value→AH→Prop} (hp:isP p=true) (g:GT p W T) (hT:T.length≤30) (hi:i<W) (hj:j<W) (ca:Col T i qa) (cb:Col T j qb) (hr:1≤r∧(r:Int)<p)
  (hQ:∀ h',h<+:h'→Q (U32 (bs T.length (mkB p T i j r))) h'):WF S 295 [I64 p,aggV .u32 qa,aggV .u32 qb,I64 r] h Q:=by
 refine WF_fn (fn:=c295) rfl rfl ?_
 dsimp only[c295,oO,oM,oS,oG,oK,oE,oL,oF,oX,oN]
 have hp5:=isP_in hp
 ((try simp (maxSteps:=3000000) (dsimp:=false) (disch:=first|omega|simp only[lnx];omega) only[↓ypre,ypost,↓reduceIte,reduceEqDiff,reduceAdd,reduceSub,reduceLeDiff,zz0,ynew,aggV,cel_all,cellsL_cel]);try simp only[yback])
 generalize hH1:AH.new h _=H1
 obtain⟨hb1,p1,n1⟩:=new_facts hH1
 generalize hH2:AH.new H1 _=H2
 obtain⟨hb2,p2,n2⟩:=new_facts hH2
 have hb1:=pre_get p2 hb1
 obtain⟨fN,hfN⟩:∃ fN:Nat→Nat→Bool,fN=fun (c:Nat) (k:Nat)=>decide (1≤tb T k i∧tb T k i≤(c:Int))&&decide (tb T k j=(tb T k i*r).tmod p):=⟨_,rfl⟩
 have z0:Value.int IntKind.u32 0=U32 (bs T.length (fN 0)):=by
  have:bs T.length (fN 0)=bs T.length fun _=>false:=bs_congr fun k _=>by
   rw[hfN]
   show (decide (1≤tb T k i∧tb T k i≤((0:Nat):Int))&&_)=false
   rw[decide_eq_false (by omega),Bool.false_and]
  rw[this,bs_none]
  rfl
 rw[z0]
 refine WC_loop_inv (fun m f K1=>∃ (c:Nat),m=((p.toNat-1))-c∧c≤((p.toNat-1))∧f 0=I64 p∧f 3=I64 r∧f 5=.pointer (some ⟨h.length,0,none⟩)∧f 6=.pointer (some ⟨H1.length,0,none⟩)∧f 9=U32 (bs T.length (fN c))∧f 10=I64 ((c:Int)+1)∧K1=H2) ?_ (((p.toNat-1))-0) _ _ ⟨0,rfl,by omega,(by first|rfl|simp[upd_apply]),(by first|rfl|simp[upd_apply]),(by first|rfl|simp[upd_apply]),(by first|rfl|simp[upd_apply]),(by first|rfl|simp[upd_apply]),(by first|rfl|simp[upd_apply]),rfl⟩
 rintro m f K1 ⟨c,rfl,hc,f0,f3,f5,f6,f9,f10,rfl⟩
 by_cases hlt:(c:Int)+1<p
 ·have hc:c<p.toNat-1:=by omega
  have nz:=mul_nz hp (a:=((c+1:Nat):Int)) (r:=(r:Int)) (by omega) (by omega)
  have mb:=mul_in (A:=5) (B:=5) (a:=((c+1:Nat):Int)) (b:=(r:Int)) (by omega) (by omega)
  obtain⟨y,hy⟩:∃ y:Nat,(((c+1:Nat):Int)*r).tmod p=y:=⟨_,(Int.toNat_of_nonneg (by omega)).symm⟩
  have eI:(c:Int)+1=((c+1:Nat):Int):=by omega
  rw[eI] at f10
  have ra:=ca.at (x:=c+1) (by omega)
  have rb:=cb.at (x:=y) (by omega)
  have ixA:=ixa_u (n:=h.length) (off:=0) (len:=5) (kk:=.i64) (j:=c+1) (by omega)
  have ixB:=ixa_u (n:=H1.length) (off:=0) (len:=5) (kk:=.i64) (j:=y) (by omega)
  rw[Nat.zero_add] at ixA ixB
  have an:=bin_and (R:=T.length) (f:=fun k=>decide (tb T k i=((c+1:Nat):Int))) (g:=fun k=>decide (tb T k j=((y:Nat):Int))) (by omega)
  have orr:=bin_or (R:=T.length) (f:=fN c) (g:=fun k=>decide (tb T k i=((c+1:Nat):Int))&&decide (tb T k j=((y:Nat):Int))) (by omega)
  have e1:bs T.length (fun k=>fN c k||(decide (tb T k i=((c+1:Nat):Int))&&decide (tb T k j=((y:Nat):Int))))=bs T.length (fN (c+1)):=bs_congr fun k hk=>by
   rw[hfN]
   show (decide (1≤tb T k i∧tb T k i≤(c:Int))&&decide (tb T k j=(tb T k i*r).tmod p)||(decide (tb T k i=((c+1:Nat):Int))&&decide (tb T k j=((y:Nat):Int))))=(decide (1≤tb T k i∧tb T k i≤((c+1:Nat):Int))&&decide (tb T k j=(tb T k i*r).tmod p))
   by_cases e:tb T k i=((c+1:Nat):Int)
   ·rw[decide_eq_false (p:=1≤tb T k i∧tb T k i≤(c:Int)) (by omega),decide_eq_true (p:=tb T k i=((c+1:Nat):Int)) e,decide_eq_true (p:=1≤tb T k i∧tb T k i≤((c+1:Nat):Int)) (by omega),e,hy]
    simp
   ·rw[decide_eq_false (p:=tb T k i=((c+1:Nat):Int)) e]
    by_cases e2:1≤tb T k i∧tb T k i≤(c:Int)
    ·rw[decide_eq_true e2,decide_eq_true (p:=1≤tb T k i∧tb T k i≤((c+1:Nat):Int)) (by omega)]
     simp
    ·rw[decide_eq_false e2,decide_eq_false (p:=1≤tb T k i∧tb T k i≤((c+1:Nat):Int)) (by omega)]
     simp
  rw[e1] at orr
  ((try simp (maxSteps:=3000000) (dsimp:=false) (disch:=first|omega|simp only[lnx];omega) only[↓ypre,ypost,↓reduceIte,reduceEqDiff,reduceAdd,reduceSub,reduceLeDiff,zz0,ynew,f0,f3,f5,f6,f9,f10,decide_eq_true (show ((c+1:Nat):Int)<p by omega),ixA,rd1_of hb1,ra,bin_rem,hy,ixB,rd1_of hb2,rb,an,orr,wrap64_in]);try simp only[yback])
  refine InvQ_go (((p.toNat-1))-(c+1)) (by omega) ⟨(c+1),rfl,by omega,(by first|rfl|exact f0|(simp only[upd_apply];rfl)|(show I64 _=_;congr 1;omega)),(by first|rfl|exact f3|(simp only[upd_apply];rfl)|(show I64 _=_;congr 1;omega)),(by first|rfl|exact f5|(simp only[upd_apply];rfl)|(show I64 _=_;congr 1;omega)),(by first|rfl|exact f6|(simp only[upd_apply];rfl)|(show I64 _=_;congr 1;omega)),(by first|rfl|exact f9|(simp only[upd_apply];rfl)|(show I64 _=_;congr 1;omega)),(by show I64 _=I64 _;congr 1),rfl⟩
 have ec:c=p.toNat-1:=by omega
 subst ec
 ((try simp (maxSteps:=3000000) (dsimp:=false) (disch:=first|omega|simp only[lnx];omega) only[↓ypre,ypost,↓reduceIte,reduceEqDiff,reduceAdd,reduceSub,reduceLeDiff,zz0,ynew,f0,f3,f5,f6,f9,f10,decide_eq_false hlt]);try simp only[yback])
 have e2:bs T.length (fN (p.toNat-1))=bs T.length (mkB p T i j r):=bs_congr fun k hk=>by
  obtain⟨_,gi⟩:=g k hk
  have:=gi i hi
  rw[hfN]
  show (decide (1≤tb T k i∧tb T k i≤((p.toNat-1:Nat):Int))&&_)=(decide (tb T k i≠0)&&_)
  by_cases e:tb T k i=0
  ·rw[decide_eq_false (p:=tb T k i≠0) (fun y=>y e),decide_eq_false (p:=1≤tb T k i∧_) (by omega)]
  ·rw[decide_eq_true (p:=tb T k i≠0) e,decide_eq_true (p:=1≤tb T k i∧_) (by omega)]
 rw[e2]
 exact hQ _ (p1.trans p2)
def slcaW (len sz:Nat) (x c:Value) (h:AH):Option (Value×AH):=xop (.slca len sz (.const x) (some (.const c)) none) (fun _=>undef) h
theorem yWX_slcaW {S:XS} {f:Fr} {h:AH} {Q:Value→AH→Prop} {len sz:Nat} {x:Operand} {c:Value}:WX S (.slca len sz x (some (.const c)) none) f h Q=yOQ (slcaW len sz (ev f x) c h) Q .mk:=by
 rw[WX_op (fun _=>rfl)]
 rfl
theorem slcaW_of {h:AH} {n:Nat} {c:List Value} {e:TypeId} (hg:h.get n=some ⟨c,e,false,true⟩) (hl:c.length=5):slcaW 5 1 (.pointer (some ⟨n,0,none⟩)) (I64 1) h=some (.slice (some ⟨n,1,none⟩) 4 1,h):=by
 simp only[slcaW,xop,ev,hg,bound]
 rw[if_pos ⟨trivial,trivial,by omega,by omega,by omega,by omega⟩]
 rfl
theorem i_mostRows {v:Value} {p:Int} {W:Nat} {T:List (List Int)} {cols:List (List Int)} {h:AH} {Q:Value→AH→Prop} (hv:Els .u32 5 h v cols) (hcw:cols.length=W) (hcol:∀ i,i<W→Col T i (cols.getD i [])) (hp:isP p=true) (g:GT p W T) (hT:1≤T.length∧T.length≤30) (hW:W≤1000)
  (hQ:∀ h',h<+:h'→Q (.tuple #[.agg #[I64 (bst p T).l,I64 (bst p T).j,I64 (bst p T).r],.bool (decide (1<((bst p T).m:Int)))]) h'):WF S 294 [I64 p,v] h Q:=by
 refine WF_fn (fn:=c294) rfl rfl ?_
 dsimp only[c294,oO,oM,oS,oG,oK,oE,oL,oF,oX,oN]
 have hp5:=isP_in hp
 ((try simp (maxSteps:=3000000) (dsimp:=false) (disch:=first|omega|simp only[lnx];omega) only[↓ypre,ypost,↓reduceIte,reduceEqDiff,reduceAdd,reduceSub,reduceLeDiff,zz0,ynew,hv.one]);try simp only[yback])
 generalize hH1:AH.new h _=H1
 obtain⟨hb1,p1,n1⟩:=new_facts hH1
 generalize hH2:AH.new H1 _=H2
 obtain⟨hb2,p2,n2⟩:=new_facts hH2
 have hw0:=(g 0 (by omega)).1
 have hlen:=(hv.pre (p1.trans p2)).len
 rw[hcw] at hlen
 ((try simp (maxSteps:=3000000) (dsimp:=false) (disch:=first|omega|simp only[lnx];omega) only[↓ypre,ypost,↓reduceIte,reduceEqDiff,reduceAdd,reduceSub,reduceLeDiff,zz0,ynew,hlen]);try simp only[yback])
 have hm0:∀ n,(foldI p T W n ⟨0,0,0,1⟩).m≤30:=fun n=>foldI_m (by simp) hT.2
 refine WC_loop_inv (fun m f K1=>∃ (i:Nat),m=W-i∧i≤W∧f 0=I64 p∧f 1=v∧f 4=.pointer (some ⟨h.length,0,none⟩)∧f 6=.pointer (some ⟨H1.length,0,none⟩)∧f 7=I64 (foldI p T W i ⟨0,0,0,1⟩).m∧f 17=v∧f 18=I64 W∧f 19=I64 i∧(H1<+:K1)∧(OwnB K1 H1.length [I64 (foldI p T W i ⟨0,0,0,1⟩).l,I64 (foldI p T W i ⟨0,0,0,1⟩).j,I64 (foldI p T W i ⟨0,0,0,1⟩).r] true)) ?_ (W-0) _ _ ⟨0,rfl,by omega,(by first|rfl|simp[upd_apply]),(by first|rfl|simp[upd_apply]),(by first|rfl|simp[upd_apply]),(by first|rfl|simp[upd_apply]),(by first|rfl|simp[upd_apply]),(by first|rfl|simp[upd_apply]),(by first|rfl|simp[upd_apply]),(by first|rfl|simp[upd_apply]),p2,⟨_,hb2⟩⟩
 rintro m f K1 ⟨i,rfl,hi,f0,f1,f4,f6,f7,f17,f18,f19,pp,g6⟩
 have hvK:=hv.pre (p1.trans pp)
 by_cases hlt:(i:Int)<W
 ·have hi':i<W:=by omega
  obtain⟨s0,hs0⟩:∃ s0,s0=foldI p T W i ⟨0,0,0,1⟩:=⟨_,rfl⟩
  have m0:=hm0 i
  have ei1:foldI p T W (i+1) ⟨0,0,0,1⟩=foldJ p T i (W-(i+1)) s0:=by rw[hs0];rfl
  rw[←hs0] at f7 g6 m0
  have ca:=hcol i hi'
  obtain⟨n5,off5,hix,hrn⟩:=hvK.rdw (i:=i) (by omega)
  have wq:=ca.1
  generalize hq:cols.getD i []=q at *
  have w1:∀ (h1:AH) (e:TypeId),(h1.new ⟨[.int .u32 0,.int .u32 0,.int .u32 0,.int .u32 0,.int .u32 0],e,false,true⟩).wr h1.length 0 (cel .u32 q)=some (h1.new ⟨cel .u32 q,e,false,true⟩):=fun h1 e=>wr_all (by rw[cel_len,wq];rfl)
  ((try simp (maxSteps:=3000000) (dsimp:=false) (disch:=first|omega|simp only[lnx];omega) only[↓ypre,ypost,↓reduceIte,reduceEqDiff,reduceAdd,reduceSub,reduceLeDiff,zz0,ynew,f0,f1,f4,f6,f7,f17,f18,f19,decide_eq_true hlt,hix,hrn,cel_all,cellsL_cel,cel_len,wq,↓w1,wrap64_in]);try simp only[yback])
  generalize hH5:AH.new K1 _=H5
  obtain⟨hb5,p5,n5'⟩:=new_facts hH5
  have sw:=slcaW_of hb5 (by rw[cel_len];exact wq)
  ((try simp (maxSteps:=3000000) (dsimp:=false) (disch:=first|omega|simp only[lnx];omega) only[↓ypre,ypost,↓reduceIte,reduceEqDiff,reduceAdd,reduceSub,reduceLeDiff,zz0,ynew,f0,f1,f4,f6,f7,f17,f18,f19,↓yWX_slcaW,sw]);try simp only[yback])
  obtain⟨fN,hfN⟩:∃ fN:Nat→Nat→Bool,fN=fun (c:Nat) (k:Nat)=>decide (1≤tb T k i∧tb T k i≤(c:Int)):=⟨_,rfl⟩
  have z0:Value.int IntKind.u32 0=U32 (bs T.length (fN 0)):=by
   have:bs T.length (fN 0)=bs T.length fun _=>false:=bs_congr fun k _=>by
    rw[hfN]
    exact decide_eq_false (by omega)
   rw[this,bs_none]
   rfl
  rw[z0]
  refine WC_loop_inv (fun m f K2=>∃ (c:Nat),m=4-c∧c≤4∧f 0=I64 p∧f 1=v∧f 4=.pointer (some ⟨h.length,0,none⟩)∧f 6=.pointer (some ⟨H1.length,0,none⟩)∧f 7=I64 s0.m∧f 8=I64 i∧f 9=.pointer (some ⟨K1.length,0,none⟩)∧f 10=U32 (bs T.length (fN c))∧f 17=v∧f 18=I64 W∧f 19=I64 i∧f 24=.slice (some ⟨K1.length,1,none⟩) 4 1∧f 25=I64 4∧f 26=I64 c∧K2=H5) ?_ (4-0) _ _ ⟨0,rfl,by omega,(by first|rfl|exact f0|(simp[upd_apply];done)),(by first|rfl|exact f1|(simp[upd_apply];done)),(by first|rfl|exact f4|(simp[upd_apply];done)),(by first|rfl|exact f6|(simp[upd_apply];done)),(by first|rfl|exact f7|(simp[upd_apply];done)),(by first|rfl|simp[upd_apply]),(by first|rfl|simp[upd_apply]),(by first|rfl|simp[upd_apply]),(by first|rfl|exact f17|(simp[upd_apply];done)),(by first|rfl|exact f18|(simp[upd_apply];done)),(by first|rfl|exact f19|(simp[upd_apply];done)),(by first|rfl|simp[upd_apply]),(by first|rfl|simp[upd_apply]),(by first|rfl|simp[upd_apply]),rfl⟩
  rintro m f K2 ⟨c,rfl,hc,f0,f1,f4,f6,f7,f8,f9,f10,f17,f18,f19,f24,f25,f26,rfl⟩
  by_cases hltc:(c:Int)<4
  ·have hc4:c<4:=by omega
   have ra:=ca.at (x:=c+1) (by omega)
   have ixc:ixsV 1 (.slice (some ⟨K1.length,1,none⟩) 4 1) (I64 c)=some (.pointer (some ⟨K1.length,c+1,none⟩)):=by
    rw[ixsV_some,if_pos (by omega)]
    simp[Nat.add_comm]
   have orr:=bin_or (R:=T.length) (f:=fN c) (g:=fun k=>decide (tb T k i=((c+1:Nat):Int))) (by omega)
   have e1:bs T.length (fun k=>fN c k||decide (tb T k i=((c+1:Nat):Int)))=bs T.length (fN (c+1)):=bs_congr fun k hk=>by
    rw[hfN]
    show (decide (1≤tb T k i∧tb T k i≤(c:Int))||decide (tb T k i=((c+1:Nat):Int)))=decide (1≤tb T k i∧tb T k i≤((c+1:Nat):Int))
    rw[←Bool.decide_or]
    congr 1
    exact propext ⟨by omega,by omega⟩
   rw[e1] at orr
   ((try simp (maxSteps:=3000000) (dsimp:=false) (disch:=first|omega|simp only[lnx];omega) only[↓ypre,ypost,↓reduceIte,reduceEqDiff,reduceAdd,reduceSub,reduceLeDiff,zz0,ynew,f0,f1,f4,f6,f7,f8,f9,f10,f17,f18,f19,f24,f25,f26,decide_eq_true hltc,ixc,rd1_of hb5,ra,orr,wrap64_in]);try simp only[yback])
   refine InvQ_go (4-(c+1)) (by omega) ⟨(c+1),rfl,by omega,(by first|rfl|exact f0|(simp only[upd_apply];rfl)|(show I64 _=_;congr 1;omega)),(by first|rfl|exact f1|(simp only[upd_apply];rfl)|(show I64 _=_;congr 1;omega)),(by first|rfl|exact f4|(simp only[upd_apply];rfl)|(show I64 _=_;congr 1;omega)),(by first|rfl|exact f6|(simp only[upd_apply];rfl)|(show I64 _=_;congr 1;omega)),(by first|rfl|exact f7|(simp only[upd_apply];rfl)|(show I64 _=_;congr 1;omega)),(by first|rfl|exact f8|(simp only[upd_apply];rfl)|(show I64 _=_;congr 1;omega)),(by first|rfl|exact f9|(simp only[upd_apply];rfl)|(show I64 _=_;congr 1;omega)),(by first|rfl|exact f10|(simp only[upd_apply];rfl)|(show I64 _=_;congr 1;omega)),(by first|rfl|exact f17|(simp only[upd_apply];rfl)|(show I64 _=_;congr 1;omega)),(by first|rfl|exact f18|(simp only[upd_apply];rfl)|(show I64 _=_;congr 1;omega)),(by first|rfl|exact f19|(simp only[upd_apply];rfl)|(show I64 _=_;congr 1;omega)),(by first|rfl|exact f24|(simp only[upd_apply];rfl)|(show I64 _=_;congr 1;omega)),(by first|rfl|exact f25|(simp only[upd_apply];rfl)|(show I64 _=_;congr 1;omega)),(by first|rfl|exact f26|(simp only[upd_apply];rfl)|(show I64 _=_;congr 1;omega)),rfl⟩
  have ec:c=4:=by omega
  subst ec
  have e4:bs T.length (fN 4)=bs T.length fun k=>decide (tb T k i≠0):=bs_congr fun k hk=>by
   obtain⟨_,gi⟩:=g k hk
   have:=gi i hi'
   rw[hfN]
   show decide (1≤tb T k i∧tb T k i≤((4:Nat):Int))=decide (tb T k i≠0)
   congr 1
   exact propext ⟨by omega,by omega⟩
  rw[e4] at f10
  ((try simp (maxSteps:=3000000) (dsimp:=false) (disch:=first|omega|simp only[lnx];omega) only[↓ypre,ypost,↓reduceIte,reduceEqDiff,reduceAdd,reduceSub,reduceLeDiff,zz0,ynew,f0,f1,f4,f6,f7,f8,f9,f10,f17,f18,f19,f24,f25,f26,decide_eq_false hltc]);try simp only[yback])
  refine l_OnesCount (bs_32 (by omega)) ?_
  rw[pop_bs (by omega)]
  have pp5:=pp.trans p5
  by_cases hskip:((cntB (fun k=>decide (tb T k i≠0)) T.length:Nat):Int)≤((s0.m:Nat):Int)
  ·rw[foldJ_skip (fun j r=>by have:=cntT_le (p:=p) (T:=T) (i:=i) (j:=j) (r:=r);omega)] at ei1
   ((try simp (maxSteps:=3000000) (dsimp:=false) (disch:=first|omega|simp only[lnx];omega) only[↓ypre,ypost,↓reduceIte,reduceEqDiff,reduceAdd,reduceSub,reduceLeDiff,zz0,ynew,f0,f1,f4,f6,f7,f8,f9,f10,f17,f18,f19,f24,f25,f26,decide_eq_true hskip,wrap64_in]);try simp only[yback])
   obtain⟨e6,g6⟩:=g6
   refine InvQ_go (W-(i+1)) (by omega) ⟨(i+1),rfl,by omega,(by first|rfl|exact f0|(simp only[upd_apply];rfl)|(show I64 _=_;congr 1;omega)),(by first|rfl|exact f1|(simp only[upd_apply];rfl)|(show I64 _=_;congr 1;omega)),(by first|rfl|exact f4|(simp only[upd_apply];rfl)|(show I64 _=_;congr 1;omega)),(by first|rfl|exact f6|(simp only[upd_apply];rfl)|(show I64 _=_;congr 1;omega)),(by rw[ei1];exact f7),(by first|rfl|exact f17|(simp only[upd_apply];rfl)|(show I64 _=_;congr 1;omega)),(by first|rfl|exact f18|(simp only[upd_apply];rfl)|(show I64 _=_;congr 1;omega)),(by first|rfl|exact f19|(simp only[upd_apply];rfl)|(show I64 _=_;congr 1;omega)),pp5,⟨e6,by rw[ei1];exact pre_get p5 g6⟩⟩
  have hmJ:∀ n,(foldJ p T i n s0).m≤30:=fun n=>foldJ_m m0 hT.2
  ((try simp (maxSteps:=3000000) (dsimp:=false) (disch:=first|omega|simp only[lnx];omega) only[↓ypre,ypost,↓reduceIte,reduceEqDiff,reduceAdd,reduceSub,reduceLeDiff,zz0,ynew,f0,f1,f4,f6,f7,f8,f9,f10,f17,f18,f19,decide_eq_false hskip,wrap64_in]);try simp only[yback])
  obtain⟨e6,g6⟩:=g6
  refine WC_loop_inv (fun m f K3=>∃ (b:Nat),m=((W-(i+1)))-b∧b≤((W-(i+1)))∧f 0=I64 p∧f 1=v∧f 4=.pointer (some ⟨h.length,0,none⟩)∧f 6=.pointer (some ⟨H1.length,0,none⟩)∧f 7=I64 (foldJ p T i b s0).m∧f 8=I64 i∧f 9=.pointer (some ⟨K1.length,0,none⟩)∧f 13=I64 ((i:Int)+1+b)∧f 17=v∧f 18=I64 W∧f 19=I64 i∧(H1<+:K3)∧(OwnB K3 H1.length [I64 (foldJ p T i b s0).l,I64 (foldJ p T i b s0).j,I64 (foldJ p T i b s0).r] true)∧(OwnB K3 K1.length (cel .u32 q) true)) ?_ (((W-(i+1)))-0) _ _ ⟨0,rfl,by omega,(by first|rfl|exact f0|(simp[upd_apply];done)),(by first|rfl|exact f1|(simp[upd_apply];done)),(by first|rfl|exact f4|(simp[upd_apply];done)),(by first|rfl|exact f6|(simp[upd_apply];done)),(by first|rfl|exact f7|(simp[upd_apply];done)),(by first|rfl|exact f8|(simp[upd_apply];done)),(by first|rfl|exact f9|(simp[upd_apply];done)),(by first|rfl|simp[upd_apply]),(by first|rfl|exact f17|(simp[upd_apply];done)),(by first|rfl|exact f18|(simp[upd_apply];done)),(by first|rfl|exact f19|(simp[upd_apply];done)),pp5,⟨e6,pre_get p5 g6⟩,⟨_,hb5⟩⟩
  rintro m f K3 ⟨b,rfl,hb,f0,f1,f4,f6,f7,f8,f9,f13,f17,f18,f19,pp,g6,g9⟩
  by_cases hltb:(i:Int)+1+b<W
  ·obtain⟨j,hj⟩:∃ j:Nat,j=i+1+b:=⟨_,rfl⟩
   have ej:(i:Int)+1+(b:Int)=(j:Int):=by omega
   have hj':j<W:=by omega
   rw[ej] at f13
   have hv3:=hv.pre (p1.trans pp)
   have hlen3:=hv3.len
   rw[hcw] at hlen3
   ((try simp (maxSteps:=3000000) (dsimp:=false) (disch:=first|omega|simp only[lnx];omega) only[↓ypre,ypost,↓reduceIte,reduceEqDiff,reduceAdd,reduceSub,reduceLeDiff,zz0,ynew,f0,f1,f4,f6,f7,f8,f9,f13,f17,f18,f19,hlen3,decide_eq_true (show (j:Int)<W by omega),wrap64_in]);try simp only[yback])
   have hmR:∀ n,(foldR p T i j n (foldJ p T i b s0)).m≤30:=fun n=>foldR_m (hmJ b) hT.2
   refine WC_loop_inv (fun m f K4=>∃ (r:Nat),m=((p.toNat-1))-r∧r≤((p.toNat-1))∧f 0=I64 p∧f 1=v∧f 4=.pointer (some ⟨h.length,0,none⟩)∧f 6=.pointer (some ⟨H1.length,0,none⟩)∧f 7=I64 (foldR p T i j r (foldJ p T i b s0)).m∧f 8=I64 i∧f 9=.pointer (some ⟨K1.length,0,none⟩)∧f 13=I64 j∧f 14=I64 ((r:Int)+1)∧f 17=v∧f 18=I64 W∧f 19=I64 i∧(H1<+:K4)∧(OwnB K4 H1.length [I64 (foldR p T i j r (foldJ p T i b s0)).l,I64 (foldR p T i j r (foldJ p T i b s0)).j,I64 (foldR p T i j r (foldJ p T i b s0)).r] true)∧(OwnB K4 K1.length (cel .u32 q) true)) ?_ (((p.toNat-1))-0) _ _ ⟨0,rfl,by omega,(by first|rfl|exact f0|(simp[upd_apply];done)),(by first|rfl|exact f1|(simp[upd_apply];done)),(by first|rfl|exact f4|(simp[upd_apply];done)),(by first|rfl|exact f6|(simp[upd_apply];done)),(by first|rfl|exact f7|(simp[upd_apply];done)),(by first|rfl|exact f8|(simp[upd_apply];done)),(by first|rfl|exact f9|(simp[upd_apply];done)),(by first|rfl|exact f13|(simp[upd_apply];done)),(by first|rfl|simp[upd_apply]),(by first|rfl|exact f17|(simp[upd_apply];done)),(by first|rfl|exact f18|(simp[upd_apply];done)),(by first|rfl|exact f19|(simp[upd_apply];done)),pp,g6,g9⟩
   rintro m f K4 ⟨r,rfl,hr,f0,f1,f4,f6,f7,f8,f9,f13,f14,f17,f18,f19,pp,g6,g9⟩
   by_cases hltr:(r:Int)+1<p
   ·have hv4:=hv.pre (p1.trans pp)
    obtain⟨n7,off7,hix7,hrn7⟩:=hv4.rdw (i:=j) (by omega)
    have cb:=hcol j hj'
    have er:foldR p T i j (r+1) (foldJ p T i b s0)=upB (foldR p T i j r (foldJ p T i b s0)) i j (r+1) (cntT p T i j (r+1)):=rfl
    have eI:(r:Int)+1=((r+1:Nat):Int):=by omega
    rw[eI] at f14
    have mr:=hmR r
    have mr1:cntT p T i j (r+1)≤T.length:=cntB_le
    obtain⟨e6,g6⟩:=g6
    obtain⟨e9,g9⟩:=g9
    have lt6:=get_lt g6
    generalize foldR p T i j r (foldJ p T i b s0)=s1 at *
    have tk:(cel .u32 q).take 5=cel .u32 q:=List.take_of_length_le (by rw[cel_len];omega)
    ((try simp (maxSteps:=3000000) (dsimp:=false) (disch:=first|omega|simp only[lnx];omega) only[↓ypre,ypost,↓reduceIte,reduceEqDiff,reduceAdd,reduceSub,reduceLeDiff,zz0,ynew,f0,f1,f4,f6,f7,f8,f9,f13,f14,f17,f18,f19,decide_eq_true (show ((r+1:Nat):Int)<p by omega),rdn_of g9,cel_len,wq,tk,hix7,hrn7,wrap64_in]);try simp only[yback])
    refine i_rowsWith (qa:=q) (qb:=cols.getD j []) hp g hT.2 hi' hj' ca cb (r:=r+1) (by omega) fun H8 p8=>?_
    ((try simp (maxSteps:=3000000) (dsimp:=false) (disch:=first|omega|simp only[lnx];omega) only[↓ypre,ypost,↓reduceIte,reduceEqDiff,reduceAdd,reduceSub,reduceLeDiff,zz0,ynew,f0,f1,f4,f6,f7,f8,f9,f13,f14,f17,f18,f19]);try simp only[yback])
    refine l_OnesCount (bs_32 (by omega)) ?_
    rw[pop_bs (by omega)]
    have ec:cntB (mkB p T i j (r+1)) T.length=cntT p T i j (r+1):=rfl
    rw[ec]
    generalize cntT p T i j (r+1)=c1 at *
    unfold upB at er
    have g6:=pre_get p8 g6
    have g9:=pre_get p8 g9
    have lt6:=get_lt g6
    have lt9:=get_lt g9
    have k8:=pre_len p8
    by_cases hcc:s1.m<c1
    ·rw[if_pos hcc] at er
     ((try simp (maxSteps:=3000000) (dsimp:=false) (disch:=first|omega|simp only[lnx];omega) only[↓ypre,ypost,↓reduceIte,reduceEqDiff,reduceAdd,reduceSub,reduceLeDiff,zz0,ynew,f0,f1,f4,f6,f7,f8,f9,f13,f14,f17,f18,f19,decide_eq_true (show ((s1.m:Nat):Int)<((c1:Nat):Int) by omega),wr_of g6,wrap64_in]);try simp only[yback])
     refine InvQ_go (((p.toNat-1))-(r+1)) (by omega) ⟨(r+1),rfl,by omega,(by first|rfl|exact f0|(simp only[upd_apply];rfl)|(show I64 _=_;congr 1;omega)),(by first|rfl|exact f1|(simp only[upd_apply];rfl)|(show I64 _=_;congr 1;omega)),(by first|rfl|exact f4|(simp only[upd_apply];rfl)|(show I64 _=_;congr 1;omega)),(by first|rfl|exact f6|(simp only[upd_apply];rfl)|(show I64 _=_;congr 1;omega)),(by rw[er];rfl),(by first|rfl|exact f8|(simp only[upd_apply];rfl)|(show I64 _=_;congr 1;omega)),(by first|rfl|exact f9|(simp only[upd_apply];rfl)|(show I64 _=_;congr 1;omega)),(by first|rfl|exact f13|(simp only[upd_apply];rfl)|(show I64 _=_;congr 1;omega)),(by show I64 _=I64 _;congr 1),(by first|rfl|exact f17|(simp only[upd_apply];rfl)|(show I64 _=_;congr 1;omega)),(by first|rfl|exact f18|(simp only[upd_apply];rfl)|(show I64 _=_;congr 1;omega)),(by first|rfl|exact f19|(simp only[upd_apply];rfl)|(show I64 _=_;congr 1;omega)),(pre_put (pp.trans p8) (Nat.le_refl _)),⟨e6,by rw[er];exact get_put_same lt6⟩,⟨e9,by rw[get_put_ne (by have:=get_lt (show K1.get H1.length=_ from by assumption);omega)];exact g9⟩⟩
    ·rw[if_neg hcc] at er
     ((try simp (maxSteps:=3000000) (dsimp:=false) (disch:=first|omega|simp only[lnx];omega) only[↓ypre,ypost,↓reduceIte,reduceEqDiff,reduceAdd,reduceSub,reduceLeDiff,zz0,ynew,f0,f1,f4,f6,f7,f8,f9,f13,f14,f17,f18,f19,decide_eq_false (show ¬ ((s1.m:Nat):Int)<((c1:Nat):Int) by omega),wrap64_in]);try simp only[yback])
     refine InvQ_go (((p.toNat-1))-(r+1)) (by omega) ⟨(r+1),rfl,by omega,(by first|rfl|exact f0|(simp only[upd_apply];rfl)|(show I64 _=_;congr 1;omega)),(by first|rfl|exact f1|(simp only[upd_apply];rfl)|(show I64 _=_;congr 1;omega)),(by first|rfl|exact f4|(simp only[upd_apply];rfl)|(show I64 _=_;congr 1;omega)),(by first|rfl|exact f6|(simp only[upd_apply];rfl)|(show I64 _=_;congr 1;omega)),(by rw[er];exact f7),(by first|rfl|exact f8|(simp only[upd_apply];rfl)|(show I64 _=_;congr 1;omega)),(by first|rfl|exact f9|(simp only[upd_apply];rfl)|(show I64 _=_;congr 1;omega)),(by first|rfl|exact f13|(simp only[upd_apply];rfl)|(show I64 _=_;congr 1;omega)),(by show I64 _=I64 _;congr 1),(by first|rfl|exact f17|(simp only[upd_apply];rfl)|(show I64 _=_;congr 1;omega)),(by first|rfl|exact f18|(simp only[upd_apply];rfl)|(show I64 _=_;congr 1;omega)),(by first|rfl|exact f19|(simp only[upd_apply];rfl)|(show I64 _=_;congr 1;omega)),(pp.trans p8),⟨e6,by rw[er];exact g6⟩,⟨e9,g9⟩⟩
   have er:r=p.toNat-1:=by omega
   subst er
   ((try simp (maxSteps:=3000000) (dsimp:=false) (disch:=first|omega|simp only[lnx];omega) only[↓ypre,ypost,↓reduceIte,reduceEqDiff,reduceAdd,reduceSub,reduceLeDiff,zz0,ynew,f0,f1,f4,f6,f7,f8,f9,f13,f14,f17,f18,f19,decide_eq_false hltr,wrap64_in]);try simp only[yback])
   have ef:foldJ p T i (b+1) s0=foldR p T i j (p.toNat-1) (foldJ p T i b s0):=by rw[hj];rfl
   refine InvQ_go (((W-(i+1)))-(b+1)) (by omega) ⟨(b+1),rfl,by omega,(by first|rfl|exact f0|(simp only[upd_apply];rfl)|(show I64 _=_;congr 1;omega)),(by first|rfl|exact f1|(simp only[upd_apply];rfl)|(show I64 _=_;congr 1;omega)),(by first|rfl|exact f4|(simp only[upd_apply];rfl)|(show I64 _=_;congr 1;omega)),(by first|rfl|exact f6|(simp only[upd_apply];rfl)|(show I64 _=_;congr 1;omega)),(by rw[ef];exact f7),(by first|rfl|exact f8|(simp only[upd_apply];rfl)|(show I64 _=_;congr 1;omega)),(by first|rfl|exact f9|(simp only[upd_apply];rfl)|(show I64 _=_;congr 1;omega)),(by show I64 _=I64 _;congr 1;omega),(by first|rfl|exact f17|(simp only[upd_apply];rfl)|(show I64 _=_;congr 1;omega)),(by first|rfl|exact f18|(simp only[upd_apply];rfl)|(show I64 _=_;congr 1;omega)),(by first|rfl|exact f19|(simp only[upd_apply];rfl)|(show I64 _=_;congr 1;omega)),pp,(by rw[ef];exact g6),g9⟩
  have eb:b=W-(i+1):=by omega
  subst eb
  have hlen3:=(hv.pre (p1.trans pp)).len
  rw[hcw] at hlen3
  ((try simp (maxSteps:=3000000) (dsimp:=false) (disch:=first|omega|simp only[lnx];omega) only[↓ypre,ypost,↓reduceIte,reduceEqDiff,reduceAdd,reduceSub,reduceLeDiff,zz0,ynew,f0,f1,f4,f6,f7,f8,f9,f13,f17,f18,f19,hlen3,decide_eq_false hltb,wrap64_in]);try simp only[yback])
  refine InvQ_go (W-(i+1)) (by omega) ⟨(i+1),rfl,by omega,(by first|rfl|exact f0|(simp only[upd_apply];rfl)|(show I64 _=_;congr 1;omega)),(by first|rfl|exact f1|(simp only[upd_apply];rfl)|(show I64 _=_;congr 1;omega)),(by first|rfl|exact f4|(simp only[upd_apply];rfl)|(show I64 _=_;congr 1;omega)),(by first|rfl|exact f6|(simp only[upd_apply];rfl)|(show I64 _=_;congr 1;omega)),(by rw[ei1];exact f7),(by first|rfl|exact f17|(simp only[upd_apply];rfl)|(show I64 _=_;congr 1;omega)),(by first|rfl|exact f18|(simp only[upd_apply];rfl)|(show I64 _=_;congr 1;omega)),(by first|rfl|exact f19|(simp only[upd_apply];rfl)|(show I64 _=_;congr 1;omega)),pp,(by rw[ei1];exact g6)⟩
 have ei:i=W:=by omega
 subst ei
 obtain⟨e6,g6⟩:=g6
 have hb1:=pre_get pp hb1
 have lt1:=get_lt hb1
 ((try simp (maxSteps:=3000000) (dsimp:=false) (disch:=first|omega|simp only[lnx];omega) only[↓ypre,ypost,↓reduceIte,reduceEqDiff,reduceAdd,reduceSub,reduceLeDiff,zz0,ynew,f0,f1,f4,f6,f7,f17,f18,f19,decide_eq_false hlt,rdn_of g6,wr_of hb1]);try simp only[yback])
 have:=hQ _ (pre_put (b:=⟨[I64 (bst p T).l,I64 (bst p T).j,I64 (bst p T).r],248,false,true⟩) (p1.trans pp) (Nat.le_refl _))
 unfold bst at this
 rw[hw0] at this
 exact this
end Go.Proofs.Ytapafdpnmakekaa.X

set_option linter.unusedVariables false
set_option linter.unusedSimpArgs false
set_option maxRecDepth 20000
set_option maxHeartbeats 4000000
namespace Go.Proofs.Ytapafdpnmakekaa.X
open Go Go.RowKit
theorem flat_cell {w c x:Nat} {L:List (List Int)} {v:Int} (hw:Wid w L) (hc:c<L.length) (hx:x<w):L.flatten.set (c*w+x) v=(L.set c ((L.getD c []).set x v)).flatten:=by
 have hq:(L.getD c []).length=w:=by
  rw[List.getD_eq_getElem?_getD,List.getElem?_eq_getElem hc]
  exact hw _ (List.getElem_mem hc)
 have e0:=flat_set (r:=L.getD c []) hw hc
 have e1:=flat_set (r:=(L.getD c []).set x v) hw hc
 have es:L.set c (L.getD c [])=L:=by
  rw[List.getD_eq_getElem?_getD,List.getElem?_eq_getElem hc]
  exact List.set_getElem_self hc
 rw[es] at e0
 have hrow:=mul_row (w:=w) hc
 have hl:(L.flatten.take (c*w)).length=c*w:=by
  rw[List.length_take,flat_len hw]
  omega
 rw[←e1]
 conv=>lhs;rw[←e0]
 rw[List.set_append_left _ _ (by rw[List.length_append,hl,hq];omega),List.set_append_right _ _ (by rw[hl];omega),hl,show c*w+x-c*w=x by omega]
structure ColT (h:AH) (nb:Nat) (full:Bool) (L:List (List Int)):Prop where
 g:h.get nb=some ⟨cel .u32 L.flatten,246,false,full⟩
 wid:Wid 5 L
def tv (nb len:Nat):Value:=.slice (some ⟨nb,0,none⟩) len 5
section
variable {h h':AH} {nb:Nat} {full:Bool} {L:List (List Int)}
theorem ColT.pre (o:ColT h nb full L) (p:h<+:h'):ColT h' nb full L:=⟨pre_get p o.g,o.wid⟩
theorem ColT.put_ne {m:Nat} {b:Blk} (o:ColT h nb full L) (e:m≠nb):ColT (h.put m b) nb full L:=⟨by rw[get_put_ne e];exact o.g,o.wid⟩
theorem ColT.get (o:ColT h nb full L) (hk:h'.get nb=h.get nb):ColT h' nb full L:=⟨by rw[hk];exact o.g,o.wid⟩
theorem ColT.ix {c len:Nat} {kk:IntKind} (hc:c<len):ixsV 5 (tv nb len) (.int kk (c:Int))=some (.pointer (some ⟨nb,c*5,none⟩)):=by
 unfold tv
 rw[ixsV_some,if_pos (by omega)]
 simp
theorem ColT.row (o:ColT h nb full L) {c:Nat} (hc:c<L.length):(L.getD c []).length=5:=by
 rw[List.getD_eq_getElem?_getD,List.getElem?_eq_getElem hc]
 exact o.wid _ (List.getElem_mem hc)
theorem ColT.rd (o:ColT h nb full L) {c x:Nat} (hc:c<L.length) (hx:x<5):h.rd1 nb (c*5+x)=some (.int .u32 ((L.getD c []).getD x 0)):=by
 rw[rd1_of o.g]
 have hf:=flat_len o.wid
 have hrow:=mul_row (w:=5) hc
 show (cel .u32 L.flatten)[c*5+x]?=_
 rw[cel_get (by omega)]
 have hg:=flat_get o.wid hc
 rw[←hg]
 rw[List.getD_eq_getElem?_getD,List.getD_eq_getElem?_getD,List.getElem?_take,if_pos hx,List.getElem?_drop]
theorem ColT.rdn (o:ColT h nb full L) {c:Nat} (hc:c<L.length):h.rdn nb (c*5) 5=some (cel .u32 (L.getD c [])):=by
 rw[rdn_of o.g]
 have hf:=flat_len o.wid
 have hrow:=mul_row (w:=5) hc
 show (if c*5+5≤(cel .u32 L.flatten).length then some (((cel .u32 L.flatten).drop (c*5)).take 5) else none)=_
 rw[if_pos (by rw[cel_len];omega),cel_drop,cel_take,flat_get o.wid hc]
theorem ColT.wr (o:ColT h nb full L) {c x:Nat} {v:Int} (hc:c<L.length) (hx:x<5) :
  ∃ h',h.wr nb (c*5+x) [.int .u32 v]=some h'∧h'=h.put nb ⟨cel .u32 (L.set c ((L.getD c []).set x v)).flatten,246,false,full⟩∧ColT h' nb full (L.set c ((L.getD c []).set x v)):=by
 have hf:=flat_len o.wid
 have hrow:=mul_row (w:=5) hc
 refine⟨_,?_,rfl,get_put_same (get_lt o.g),?_⟩
 ·rw[wr_of o.g,if_pos ⟨rfl,by simp only[cel_len,List.length_singleton];omega⟩,cel_set (by omega),flat_cell o.wid hc hx]
 ·intro q hq
  rcases List.mem_or_eq_of_mem_set hq with hq|rfl
  ·exact o.wid q hq
  ·rw[List.length_set]
   exact o.row hc
theorem ColT.els (o:ColT h nb full L):Els .u32 5 h (tv nb L.length) L:=by
 refine .inr ⟨nb,0,_,rfl,o.g,fun i hi=>?_⟩
 have:=mul_row (w:=5) hi
 simp only[cel_len,flat_len o.wid,Nat.zero_add,cel_drop,cel_take,flat_get o.wid hi]
 exact⟨by omega,trivial⟩
theorem ColT.way (o:ColT h nb full L) {lo:Nat} {ex:List Nat} (h1:lo≤nb) (h2:nb∉ex):WayX (246) .u32 5 h lo ex (tv nb L.length) L:=⟨o.wid,.inr ⟨nb,full,rfl,h1,h2,o.g⟩⟩
theorem WayX.colT {lo:Nat} {ex:List Nat} {sv:Value} (o:WayX (246) .u32 5 h lo ex sv L) (h0:L≠[]):∃ nb full,sv=tv nb L.length∧lo≤nb∧ColT h nb full L:=by
 obtain⟨hw,⟨_,e⟩|⟨kb,full,e1,e2,e3,e4⟩⟩:=o
 ·exact absurd e h0
 ·exact⟨kb,full,e1,e2,e4,hw⟩
end
def fl0 (rows:List (List Int)) (i c j:Nat) (x:Nat) (k:Nat):Bool:=(decide (k<i)||(decide (k=i)&&decide (j<c)))&&decide (tb rows k j=(x:Int))
def col0 (rows:List (List Int)) (i c j:Nat):List Int:=gen 5 fun x=>(bs rows.length (fl0 rows i c j x):Nat)
def cols0 (rows:List (List Int)) (N i c:Nat):List (List Int):=(List.range N).map fun j=>col0 rows i c j
section
variable {rows:List (List Int)} {N i c:Nat}
theorem cols0_len:(cols0 rows N i c).length=N:=by simp[cols0]
theorem cols0_get {j:Nat} (hj:j<N):(cols0 rows N i c).getD j []=col0 rows i c j:=by
 simp[cols0,List.getD_eq_getElem?_getD,List.getElem?_map,List.getElem?_range hj]
theorem cols0_wid:Wid 5 (cols0 rows N i c):=wid_of fun j hj=>by
 rw[cols0_len] at hj
 rw[cols0_get hj]
 exact gen_len
theorem cols0_zero:cols0 rows N 0 0=List.replicate N (List.replicate 5 0):=by
 refine getD_ext (by rw[cols0_len];simp) fun j hj=>?_
 rw[cols0_len] at hj
 rw[cols0_get hj]
 have:(List.replicate N (List.replicate 5 (0:Int))).getD j []=List.replicate 5 0:=by
  rw[List.getD_eq_getElem?_getD,List.getElem?_replicate,if_pos hj]
  rfl
 rw[this]
 refine (gen_ext (by simp) fun x hx=>?_).symm
 have e:bs rows.length (fl0 rows 0 0 j x)=0:=(bs_congr fun k hk=>by
   unfold fl0
   rw[decide_eq_false (p:=k<0) (by omega),decide_eq_false (p:=j<0) (by omega),Bool.and_false,Bool.or_false,Bool.false_and]).trans bs_none
 rw[e,List.getD_eq_getElem?_getD,List.getElem?_replicate,if_pos hx]
 rfl
theorem cols0_next:cols0 rows N i N=cols0 rows N (i+1) 0:=by
 refine getD_ext (by rw[cols0_len,cols0_len]) fun j hj=>?_
 rw[cols0_len] at hj
 rw[cols0_get hj,cols0_get hj]
 refine gen_congr fun x hx=>?_
 congr 1
 refine bs_congr fun k hk=>?_
 unfold fl0
 congr 1
 rw[decide_eq_true hj,decide_eq_false (p:=j<0) (by omega),Bool.and_true,Bool.and_false,Bool.or_false,←Bool.decide_or]
 congr 1
 exact propext ⟨by omega,by omega⟩
theorem cols0_set {x:Nat} (hc:c<N) (hi:i<rows.length) (hx:x<5) (ht:tb rows i c=(x:Int)) :
  (cols0 rows N i c).set c ((col0 rows i c c).set x ((bs rows.length (fun k=>fl0 rows i c c x k||(k==i)):Nat):Int))=cols0 rows N i (c+1):=by
 refine getD_ext (by rw[List.length_set,cols0_len,cols0_len]) fun j hj=>?_
 rw[List.length_set,cols0_len] at hj
 rw[set_getD' (by rw[cols0_len];exact hc),cols0_get hj,cols0_get hj]
 by_cases hjc:j=c
 ·subst hjc
  rw[if_pos rfl]
  refine gen_ext (by rw[List.length_set];exact gen_len) fun y hy=>?_
  have gl:(col0 rows i j j).length=5:=gen_len
  rw[set_getD (by rw[gl];exact hx)]
  by_cases hyx:y=x
  ·subst hyx
   rw[if_pos rfl]
   congr 1
   refine bs_congr fun k hk=>?_
   unfold fl0
   by_cases hki:k=i
   ·subst hki
    rw[ht]
    simp
   ·have:(k==i)=false:=by simpa using hki
    rw[this,Bool.or_false,decide_eq_false hki,Bool.false_and,Bool.false_and]
  ·rw[if_neg hyx]
   show (gen 5 _).getD y 0=_
   rw[gen_get hy]
   congr 1
   refine bs_congr fun k hk=>?_
   unfold fl0
   by_cases hki:k=i
   ·subst hki
    rw[ht,decide_eq_false (p:=(x:Int)=(y:Int)) (by omega),Bool.and_false,Bool.and_false]
   ·rw[decide_eq_false hki,Bool.false_and,Bool.false_and]
 ·rw[if_neg hjc]
  refine gen_congr fun y hy=>?_
  congr 1
  refine bs_congr fun k hk=>?_
  unfold fl0
  congr 2
  congr 1
  congr 1
  exact propext ⟨by omega,by omega⟩
theorem cols0_col {j:Nat} (hj:j<N):Col rows j ((cols0 rows N rows.length 0).getD j []):=by
 rw[cols0_get hj]
 refine⟨gen_len,fun x h1 h2=>?_⟩
 show (gen 5 _).getD x 0=_
 rw[gen_get h2]
 congr 1
 refine bs_congr fun k hk=>?_
 unfold fl0
 rw[decide_eq_true hk,Bool.true_or,Bool.true_and]
end
section
variable {p:Int} {T:List (List Int)} {s:BS}
def mvS (p:Int) (s:BS) (T:List (List Int)) (k:Nat):Bool:=mkB p T s.l s.j s.r k
def lcol (T:List (List Int)) (S:Nat→Bool) (i c:Nat) (q:List Int):List Int:=gen 5 fun x=>if 1≤x∧x≤c then (bs T.length (fun k=>decide (tb T k i=(x:Int))&&!S k):Nat) else q.getD x 0
def ncol (T:List (List Int)) (S:Nat→Bool) (i c:Nat):List Int:=gen 5 fun x=>if 1≤x∧x≤c then (bs T.length (fun k=>decide (tb T k i=(x:Int))&&S k):Nat) else 0
theorem lcol_zero {S:Nat→Bool} {i:Nat} {q:List Int} (hq:q.length=5):lcol T S i 0 q=q:=(gen_ext hq fun x hx=>by rw[if_neg (by omega)]).symm
theorem ncol_zero {S:Nat→Bool} {i:Nat}:ncol T S i 0=List.replicate 5 0:=(gen_ext (by simp) fun x hx=>by rw[if_neg (by omega),List.getD_eq_getElem?_getD,List.getElem?_replicate,if_pos hx];rfl).symm
theorem lcol_set {S:Nat→Bool} {i c:Nat} {q:List Int} (hc:c+1<5):(lcol T S i c q).set (c+1) ((bs T.length (fun k=>decide (tb T k i=((c+1:Nat):Int))&&!S k):Nat):Int)=lcol T S i (c+1) q:=by
 have gl:(lcol T S i c q).length=5:=gen_len
 refine gen_ext (by rw[List.length_set,gl]) fun x hx=>?_
 rw[set_getD (by rw[gl];exact hc)]
 by_cases h:x=c+1
 ·subst h
  rw[if_pos rfl,if_pos ⟨by omega,Nat.le_refl _⟩]
 ·rw[if_neg h]
  show (gen 5 _).getD x 0=_
  rw[gen_get hx]
  by_cases h2:1≤x∧x≤c
  ·rw[if_pos h2,if_pos (by omega)]
  ·rw[if_neg h2,if_neg (by omega)]
theorem ncol_set {S:Nat→Bool} {i c:Nat} (hc:c+1<5):(ncol T S i c).set (c+1) ((bs T.length (fun k=>decide (tb T k i=((c+1:Nat):Int))&&S k):Nat):Int)=ncol T S i (c+1):=by
 have gl:(ncol T S i c).length=5:=gen_len
 refine gen_ext (by rw[List.length_set,gl]) fun x hx=>?_
 rw[set_getD (by rw[gl];exact hc)]
 by_cases h:x=c+1
 ·subst h
  rw[if_pos rfl,if_pos ⟨by omega,Nat.le_refl _⟩]
 ·rw[if_neg h]
  show (gen 5 _).getD x 0=_
  rw[gen_get hx]
  by_cases h2:1≤x∧x≤c
  ·rw[if_pos h2,if_pos (by omega)]
  ·rw[if_neg h2,if_neg (by omega)]
theorem lcol_at {S:Nat→Bool} {i c:Nat} {q:List Int} (cq:Col T i q) (hc:c+1<5):(lcol T S i c q).getD (c+1) 0=((bs T.length fun k=>decide (tb T k i=((c+1:Nat):Int)):Nat):Int):=by
 show (gen 5 _).getD (c+1) 0=_
 rw[gen_get hc,if_neg (by omega)]
 exact cq.2 (c+1) (by omega) hc
theorem tb_mv {W k i:Nat} (g:GT p W T) (hk:k<T.length) (hl:s.l<W) (hj:s.j<W) (hi:i≤W) :
  tb (mvT p s T) k i=if i=W then (if mvS p s T k=true then tb T k s.l else 0) else if mvS p s T k=true∧(i=s.l∨i=s.j) then 0 else tb T k i:=by
 obtain⟨gw,gi⟩:=g k hk
 have e:tb (mvT p s T) k i=(mvRow p s.l s.j s.r (T.getD k [])).getD i 0:=by unfold tb;rw[mvT_get hk]
 rw[e,mvRow_at (by omega) (by omega) (by omega),gw]
 rfl
theorem col_left {W:Nat} {q:List Int} (g:GT p W T) (hp:2≤p∧p≤5) (hl:s.l<W) (hj:s.j<W) {i:Nat} (hi:i=s.l∨i=s.j) (cq:Col T i q):Col (mvT p s T) i (lcol T (mvS p s T) i (p.toNat-1) q):=by
 refine⟨gen_len,fun x h1 h2=>?_⟩
 have hiW:i<W:=by rcases hi with rfl|rfl<;>assumption
 have e:(lcol T (mvS p s T) i (p.toNat-1) q).getD x 0=((bs T.length (fun k=>decide (tb T k i=(x:Int))&&!mvS p s T k):Nat):Int):=by
  show (gen 5 _).getD x 0=_
  rw[gen_get h2]
  by_cases hx:x≤p.toNat-1
  ·rw[if_pos ⟨h1,hx⟩]
  ·rw[if_neg (by omega),cq.2 x h1 h2]
   congr 1
   refine bs_congr fun k hk=>?_
   have:=(g k hk).2 i hiW
   rw[decide_eq_false (by omega),Bool.false_and]
 rw[e,mvT_len]
 congr 1
 refine bs_congr fun k hk=>?_
 rw[tb_mv g hk hl hj (by omega),if_neg (by omega)]
 cases hS:mvS p s T k with
 | true=>
  rw[if_pos ⟨rfl,hi⟩,decide_eq_false (p:=(0:Int)=(x:Int)) (by omega)]
  simp
 | false=>
  rw[if_neg (by simp)]
  simp
theorem col_new {W:Nat} (g:GT p W T) (hp:2≤p∧p≤5) (hl:s.l<W) (hj:s.j<W):Col (mvT p s T) W (ncol T (mvS p s T) s.l (p.toNat-1)):=by
 refine⟨gen_len,fun x h1 h2=>?_⟩
 have e:(ncol T (mvS p s T) s.l (p.toNat-1)).getD x 0=((bs T.length (fun k=>decide (tb T k s.l=(x:Int))&&mvS p s T k):Nat):Int):=by
  show (gen 5 _).getD x 0=_
  rw[gen_get h2]
  by_cases hx:x≤p.toNat-1
  ·rw[if_pos ⟨h1,hx⟩]
  ·rw[if_neg (by omega),show (0:Int)=((bs T.length (fun _=>false):Nat):Int) by rw[bs_none];rfl]
   congr 1
   refine bs_congr fun k hk=>?_
   have:=(g k hk).2 s.l hl
   rw[decide_eq_false (by omega),Bool.false_and]
 rw[e,mvT_len]
 congr 1
 refine bs_congr fun k hk=>?_
 rw[tb_mv g hk hl hj (Nat.le_refl _),if_pos rfl]
 cases hS:mvS p s T k with
 | true=>simp
 | false=>
  rw[if_neg (by simp),decide_eq_false (p:=(0:Int)=(x:Int)) (by omega)]
  simp
theorem col_other {W i:Nat} {q:List Int} (g:GT p W T) (hl:s.l<W) (hj:s.j<W) (hi:i<W) (h1:i≠s.l) (h2:i≠s.j) (cq:Col T i q):Col (mvT p s T) i q:=by
 refine⟨cq.1,fun x hx1 hx2=>?_⟩
 rw[cq.2 x hx1 hx2,mvT_len]
 congr 1
 refine bs_congr fun k hk=>?_
 rw[tb_mv g hk hl hj (by omega),if_neg (by omega),if_neg (fun h=>h.2.elim h1 h2)]
end
end Go.Proofs.Ytapafdpnmakekaa.X
