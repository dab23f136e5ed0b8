/- Texts of one claim, put together by merge.py: XP8, XP4, XP6, XP12, XP13, XT2, XT3, XT4, XT5, XT6, XT7, XT8, XT9, XU1, XD3, XS6, XS7, XS16, XS17, XS19, XD4, XD5, XD6, XD7, XD8, XQ1, XR1, XQ2, XF34, XF35, XR2, XF11, XF12, XF13, XF14, XF15, XQ3, XD9, XDA, XDB, XDC, XDF, XDG, XDI, XDJ, XDK, XZ1, XZ2, XZ3, XZ4, XZ5, XZ6, XDL, XDM, XP7, XU2, XU3, XU4. -/
import Derived.Test.YtigpfopobpoamaaGreatRE8
set_option linter.unusedVariables false
set_option linter.unusedSimpArgs false
set_option maxRecDepth 20000
set_option maxHeartbeats 4000000
namespace Go.Proofs.YtigpfopobpoamaaGreat.X
open Go Go.RowKit
def WayX (e:TypeId) (k:IntKind) (w:Nat) (h:AH) (lo:Nat) (ex:List Nat) (sv:Value) (L:List (List Int)):Prop:=
 Wid w L∧((sv=.slice none 0 0∧L=[])∨∃ kb full,sv=.slice (some ⟨kb,0,none⟩) L.length w∧lo≤kb∧kb∉ex∧h.get kb=some ⟨cel k L.flatten,e,false,full⟩)
section
variable {e:TypeId} {k:IntKind} {w:Nat} {h h':AH} {lo:Nat} {ex:List Nat} {sv:Value} {L:List (List Int)}
theorem WayX.pre (o:WayX e k w h lo ex sv L) (p:h<+:h'):WayX e k w h' lo ex sv L:=by
 obtain⟨hw,o|⟨kb,full,h1,h2,h3,h4⟩⟩:=o
 ·exact⟨hw,.inl o⟩
 ·exact⟨hw,.inr ⟨kb,full,h1,h2,h3,pre_get p h4⟩⟩
theorem WayX.one (o:WayX e k w h lo ex sv L):isOne sv=true:=by
 obtain⟨hw,⟨rfl,_⟩|⟨kb,full,rfl,h2,h3,h4⟩⟩:=o<;>rfl
theorem WayX.cells (o:WayX e k w h lo ex sv L):cellsL sv=[sv]:=by
 obtain⟨hw,⟨rfl,_⟩|⟨kb,full,rfl,h2,h3,h4⟩⟩:=o<;>rfl
theorem WayX.len (o:WayX e k w h lo ex sv L):lenV sv=some (I64 L.length):=by
 obtain⟨hw,⟨rfl,rfl⟩|⟨kb,full,rfl,h2,h3,h4⟩⟩:=o<;>rfl
theorem WayX.put {n:Nat} {b:Blk} (o:WayX e k w h lo ex sv L) (hn:n<lo∨n∈ex):WayX e k w (h.put n b) lo ex sv L:=by
 obtain⟨hw,o|⟨kb,full,h1,h2,h3,h4⟩⟩:=o
 ·exact⟨hw,.inl o⟩
 ·refine⟨hw,.inr ⟨kb,full,h1,h2,h3,?_⟩⟩
  rw[get_put_ne]
  ·exact h4
  ·rintro rfl
   rcases hn with hn|hn
   ·omega
   ·exact h3 hn
end
def Bls (h:AH) (n:Nat) (bs:List Bool):Prop:=h.get n=some ⟨bs.map Value.bool,4,false,true⟩
section
variable {h h':AH} {n:Nat} {bs:List Bool}
theorem Bls.pre (o:Bls h n bs) (p:h<+:h'):Bls h' n bs:=pre_get p o
theorem Bls.rd {j:Nat} (o:Bls h n bs) (hj:j<bs.length):h.rd1 n j=some (.bool (bs.getD j false)):=by
 rw[rd1_of o]
 simp[List.getD_eq_getElem?_getD,hj]
end
def rpOK (x:Prg) (ns:List Int):Prop:=allIn x.p ns=true∧(ns.length:Int)=x.n
instance {x:Prg} {ns:List Int}:Decidable (rpOK x ns):=by unfold rpOK;infer_instance
theorem Ints.cell {h:AH} {v:Value} {ns:List Int} (hv:Ints h v ns) {j:Nat} (hj:j<ns.length):∃ n off,(∀ kk:IntKind,ixsV 1 v (.int kk (j:Int))=some (.pointer (some ⟨n,off,none⟩)))∧h.rd1 n off=some (I64 (ns.getD j 0)):=by
 rcases hv with⟨rfl,t,_,rfl⟩|⟨b,off,blk,rfl,h2,h3,h4⟩
 ·simp at hj
 ·refine⟨b,off+j,fun kk=>?_,?_⟩
  ·rw[ixsV_some,if_pos (by omega)]
   simp
  ·rw[rd1_of h2]
   exact h4 j hj
theorem Rows.len {h:AH} {v:Value} {rows:List (List Int)} (hv:Rows h v rows):lenV v=some (I64 rows.length):=by
 obtain⟨cs,h1,h2,h3⟩:=hv
 rw[h1.len,h2]
theorem Rows.row {h:AH} {v:Value} {rows:List (List Int)} (hv:Rows h v rows) {i:Nat} (hi:i<rows.length) :
  ∃ n off x,(∀ kk:IntKind,ixsV 1 v (.int kk (i:Int))=some (.pointer (some ⟨n,off,none⟩)))∧h.rd1 n off=some x∧Ints h x (rows.getD i []):=by
 obtain⟨cs,hc,hl,hr⟩:=hv
 rcases hc with⟨rfl,t,_,rfl⟩|⟨b,off,blk,rfl,h2,h3,h4⟩
 ·simp at hl
  omega
 ·refine⟨b,off+i,cs.getD i undef,fun kk=>?_,?_,hr i hi⟩
  ·rw[ixsV_some,if_pos (by omega)]
   simp
  ·rw[rd1_of h2]
   exact h4 i (by omega)
structure BS where
 l:Nat
 j:Nat
 r:Nat
 m:Nat
section
variable (p:Int) (T:List (List Int))
end
structure TabL (h:AH) (lo nb:Nat) (full:Bool) (L:List (Nat×List Int)):Prop where
 g:h.get nb=some ⟨L.map rowV,56,false,full⟩
 low:lo≤nb
 rows:∀ i (hi:i<L.length),lo≤(L[i]).1∧∃ fu,Lst h (L[i]).1 (L[i]).2 fu
 dist:∀ i j (hi:i<L.length) (hj:j<L.length),i≠j→(L[i]).1≠(L[j]).1
section
variable {h h':AH} {lo nb:Nat} {full:Bool} {L:List (Nat×List Int)}
theorem TabL.keep (s:TabL h lo nb full L) (hk:∀ m b,(b.e=2∨b.e=56)→h.get m=some b→h'.get m=some b):TabL h' lo nb full L:=
 ⟨hk _ _ (.inr rfl) s.g,s.low,fun i hi=>⟨(s.rows i hi).1,by obtain⟨fu,o⟩:=(s.rows i hi).2;exact⟨fu,hk _ _ (.inl rfl) o⟩⟩,s.dist⟩
theorem TabL.pre (s:TabL h lo nb full L) (p:h<+:h'):TabL h' lo nb full L:=s.keep fun m b _ g=>pre_get p g
theorem TabL.put (s:TabL h lo nb full L) {n:Nat} {b b':Blk} (g:h.get n=some b') (hb:b'.e≠2∧b'.e≠56):TabL (h.put n b) lo nb full L:=s.keep fun m c hc g'=>by
 rw[get_put_ne]
 ·exact g'
 ·rintro rfl
  rw[g] at g'
  cases g'
  rcases hc with hc|hc
  ·exact hb.1 hc
  ·exact hb.2 hc
theorem TabL.rd (s:TabL h lo nb full L) {i:Nat} (hi:i<L.length):h.rd1 nb i=some (sl (L[i]).1 (L[i]).2.length):=by
 rw[rd1_of s.g]
 simp[hi,rowV,sl]
end
structure StayT (lo:Nat) (h h':AH):Prop where
 len:h.length≤h'.length
 pre:∀ h0:AH,h0.length≤lo→h0<+:h→h0<+:h'
 get:∀ m b,h.get m=some b→b.e≠2→b.e≠56→h'.get m=some b
theorem StayT.trans {lo:Nat} {h h1 h2:AH} (a:StayT lo h h1) (b:StayT lo h1 h2):StayT lo h h2:=
 ⟨Nat.le_trans a.len b.len,fun h0 hl p=>b.pre h0 hl (a.pre h0 hl p),fun m c g h1 h2=>b.get m c (a.get m c g h1 h2) h1 h2⟩
theorem StayT.put {lo n:Nat} {h:AH} {b b':Blk} (g:h.get n=some b') (hb:b'.e=2∨b'.e=56) (hlo:lo≤n):StayT lo h (h.put n b):=
 ⟨by rw[len_put];exact Nat.le_refl _,fun h0 hl p=>pre_put p (by omega),fun m c g' h1 h2=>by
  rw[get_put_ne]
  ·exact g'
  ·rintro rfl
   rw[g] at g'
   cases g'
   rcases hb with hb|hb
   ·exact h1 hb
   ·exact h2 hb⟩
structure StayI (lo:Nat) (h h':AH):Prop where
 len:h.length≤h'.length
 pre:∀ h0:AH,h0.length≤lo→h0<+:h→h0<+:h'
 get:∀ m b,h.get m=some b→(b.e=2∨b.e=56)→h'.get m=some b
theorem StayI.trans {lo:Nat} {h h1 h2:AH} (a:StayI lo h h1) (b:StayI lo h1 h2):StayI lo h h2:=
 ⟨Nat.le_trans a.len b.len,fun h0 hl p=>b.pre h0 hl (a.pre h0 hl p),fun m c g h1=>b.get m c (a.get m c g h1) h1⟩
theorem StayI.put {lo n:Nat} {h:AH} {b b':Blk} (g:h.get n=some b') (hb:b'.e≠2∧b'.e≠56) (hlo:lo≤n):StayI lo h (h.put n b):=
 ⟨by rw[len_put];exact Nat.le_refl _,fun h0 hl p=>pre_put p (by omega),fun m c g' h1=>by
  rw[get_put_ne]
  ·exact g'
  ·rintro rfl
   rw[g] at g'
   cases g'
   rcases h1 with h1|h1
   ·exact hb.1 h1
   ·exact hb.2 h1⟩
theorem ixa_u {n off len:Nat} {kk:IntKind} {j:Nat} (h:j<len):ixaV len 1 (.pointer (some ⟨n,off,none⟩)) (.int kk (j:Int))=some (.pointer (some ⟨n,off+j,none⟩)):=by
 rw[ixaV_ptr (by omega),Int.toNat_natCast,Nat.mul_one]
def tv (nb len:Nat):Value:=.slice (some ⟨nb,0,none⟩) len 5
section
variable {h h':AH} {nb:Nat} {full:Bool} {L:List (List Int)}
theorem ColT.ix {c len:Nat} {kk:IntKind} (hc:c<len):ixsV 5 (tv nb len) (.int kk (c:Int))=some (.pointer (some ⟨nb,c*5,none⟩)):=by
 unfold tv
 rw[ixsV_some,if_pos (by omega)]
 simp
end
section
variable {rows:List (List Int)} {N i c:Nat}
end
section
variable {p:Int} {T:List (List Int)} {s:BS}
end
theorem isX_facts {x:Sch} (h:isX x=true):SZ x∧isP x.p=true∧x.ps.length≤30∧∀ j,j<x.ps.length→okProd x (x.ps.getD j [])=true:=by
 unfold isX at h
 simp only[Bool.and_eq_true,decide_eq_true_eq] at h
 obtain⟨⟨h1,h2⟩,h3⟩:=h
 refine⟨szX_facts h1,?_,h2,fun j hj=>?_⟩
 ·unfold szX at h1
  simp only[Bool.and_eq_true] at h1
  exact h1.1.1.1
 ·rw[List.all_eq_true] at h3
  refine h3 _ ?_
  rw[List.getD_eq_getElem?_getD,List.getElem?_eq_getElem hj]
  exact List.getElem_mem hj
end Go.Proofs.YtigpfopobpoamaaGreat.X

set_option linter.unusedVariables false
set_option linter.unusedSimpArgs false
set_option maxRecDepth 20000
set_option maxHeartbeats 4000000
namespace Go.Proofs.YtigpfopobpoamaaGreat.X
open Go Go.RowKit
open Nat (reduceEqDiff reduceAdd reduceSub reduceLeDiff)
theorem wrap8_in {x:Int} (h0:0≤x) (h1:x≤255):IntKind.u8.wrap x=x:=by
 simp only[IntKind.wrap]
 have:IntKind.u8.bits=8:=rfl
 rw[this,show IntKind.u8.signed=false from rfl,Bool.false_and,if_neg (by decide)]
 omega
theorem By.set {w:Nat} {q:List Int} {j:Nat} {x:Int} (hq:By w q) (hx:0≤x∧x≤255) (hj:j<w):By w (q.set j x):=by
 refine⟨by rw[List.length_set];exact hq.1,fun i hi=>?_⟩
 rw[set_getD (by rw[hq.1];exact hj)]
 split
 ·exact hx
 ·exact hq.2 i hi
def FQ (p m:Int) (q:List Int):Prop:=By 9 q∧okForm p m q=true
theorem okForm_at {p m:Int} {q:List Int} (h:okForm p m q=true) {j:Nat} (hj:j<9):q.getD j 0<p∧(m≤(j:Int)→q.getD j 0=0):=by
 unfold okForm at h
 have:=List.all_eq_true.1 h j (List.mem_range.2 hj)
 exact of_decide_eq_true this
theorem FQ.set {p m:Int} {q:List Int} {j:Nat} {x:Int} (f:FQ p m q) (hp:p≤255) (hx:0≤x∧x<p) (hj:j<9) (hm:(j:Int)<m):FQ p m (q.set j x):=by
 refine⟨f.1.set ⟨hx.1,by omega⟩ hj,okForm_t fun i hi=>?_⟩
 have:=okForm_at f.2 hi
 refine decide_eq_true ?_
 rw[set_getD (by rw[f.1.1];exact hj)]
 split
 ·exact⟨hx.2,fun h=>by omega⟩
 ·exact this
theorem FQ.zero {p m:Int} (hp:1≤p):FQ p m z9:=by
 have hz:∀ j,z9.getD j 0=0:=fun j=>by
  show (List.replicate 9 (0:Int)).getD j 0=0
  rw[List.getD_eq_getElem?_getD,List.getElem?_replicate]
  split<;>rfl
 refine⟨⟨rfl,fun j _=>by rw[hz];omega⟩,okForm_t fun j hj=>decide_eq_true ?_⟩
 rw[hz]
 omega
theorem isZ_set {q:List Int} {j:Nat} {x:Int} (hq:q.length=9) (hj:j<9) (hx:x≠0):isZ (q.set j x)=false:=by
 cases e:isZ (q.set j x) with
 | false=>rfl
 | true=>
  exfalso
  have h1:q.set j x=z9:=by simpa [isZ] using e
  have h2:(q.set j x).getD j 0=x:=by rw[set_getD (by omega),if_pos rfl]
  rw[h1] at h2
  have:z9.getD j 0=0:=by
   show (List.replicate 9 (0:Int)).getD j 0=0
   rw[List.getD_eq_getElem?_getD,List.getElem?_replicate]
   split<;>rfl
  omega
theorem Kp.len {n:Nat} {h h':AH} (k:Kp n h h'):h.length≤h'.length:=k.1
theorem sp9:splice (cel .u8 (List.replicate 9 0)) 0 (cel .u8 (List.replicate 9 0))=cel .u8 z9:=rfl
theorem s_l01DrawForm {h0 h:AH} {n w:Nat} {p:Int} {Q:Value→AH→Prop} (s:Src h0 h n) (hp:2≤p∧p≤5) (hw:1≤w∧w≤9)
  (hQ:∀ q h',Kp n h h'→Src h0 h' n→FQ p w q→isZ q=false→Q (aggV .u8 q) h'):WF S 37 [srcP n,I64 p,I64 w] h Q:=by
 refine WF_fn (fn:=c37) rfl rfl ?_
 dsimp only[c37,oO,oM,oS,oG,oK,oE,oL,oF,oX,oN]
 have lt:=s.lt
 ((try simp (maxSteps:=3000000) (dsimp:=false) (disch:=first|omega|simp only[lnx];omega) only[↓ypre,ypost,↓reduceIte,reduceEqDiff,reduceAdd,reduceSub,reduceLeDiff,zz0,ynew,zeros9,fillL]);try simp only[yback])
 generalize hH1:AH.new h _=H1
 obtain⟨hb1,p1,n1⟩:=new_facts hH1
 ((try simp (maxSteps:=3000000) (dsimp:=false) (disch:=first|omega|simp only[lnx];omega) only[↓ypre,ypost,↓reduceIte,reduceEqDiff,reduceAdd,reduceSub,reduceLeDiff,zz0,ynew,zeros9,cel_len,List.length_replicate,cel_all,sp9]);try simp only[yback])
 generalize hH2:AH.new H1 _=H2
 obtain⟨hb2,p2,n2⟩:=new_facts hH2
 refine WC_loop_inv (fun m f K1=>∃ (i:Nat) (q:List Int),m=w-i∧i≤w∧f 0=srcP n∧f 1=I64 p∧f 2=I64 w∧f 6=.pointer (some ⟨h.length,0,none⟩)∧f 7=.pointer (some ⟨H1.length,0,none⟩)∧f 8=I64 i∧(Kp n h K1)∧(Src h0 K1 n)∧(FQ p w q)∧(K1.get h.length=some ⟨cel .u8 (List.replicate 9 0),34,false,true⟩)∧(K1.get H1.length=some ⟨cel .u8 q,34,false,true⟩)) ?_ (w-0) _ _ ⟨0,z9,rfl,by omega,(by first|rfl|simp[upd_apply]),(by first|rfl|simp[upd_apply]),(by first|rfl|simp[upd_apply]),(by first|rfl|simp[upd_apply]),(by first|rfl|simp[upd_apply]),(by first|rfl|simp[upd_apply]),Kp.of (p1.trans p2),s.kp (p1.trans p2),FQ.zero (by omega),pre_get p2 hb1,hb2⟩
 rintro m f K1 ⟨i,q,rfl,hi,f0,f1,f2,f6,f7,f8,kk,ss,fq,hg1,hg2⟩
 have q9:=fq.1.1
 by_cases hlt:(i:Int)<w
 ·((try simp (maxSteps:=3000000) (dsimp:=false) (disch:=first|omega|simp only[lnx];omega) only[↓ypre,ypost,↓reduceIte,reduceEqDiff,reduceAdd,reduceSub,reduceLeDiff,zz0,ynew,f0,f1,f2,f6,f7,f8,decide_eq_true hlt]);try simp only[yback])
  refine s_l01Next ss fun r h1 k1 l1 s1 hr _=>?_
  have g1:=k1.get (by omega) hg1
  have g2:=k1.get (by omega) hg2
  by_cases h0':r=0
  ·((try simp (maxSteps:=3000000) (dsimp:=false) (disch:=first|omega|simp only[lnx];omega) only[↓ypre,ypost,↓reduceIte,reduceEqDiff,reduceAdd,reduceSub,reduceLeDiff,zz0,ynew,f0,f1,f2,f6,f7,f8,decide_eq_true h0']);try simp only[yback])
   refine s_l01Next s1 fun r2 h2 k2 l2 s2 hr2 _=>?_
   have g1:=k2.get (by omega) g1
   have g2:=k2.get (by omega) g2
   have hr2:=hr2 (by omega)
   have st:=cel_set (k:=.u8) (q:=q) (j:=i) (x:=r2) (by omega)
   ((try simp (maxSteps:=3000000) (dsimp:=false) (disch:=first|omega|simp only[lnx];omega) only[↓ypre,ypost,↓reduceIte,reduceEqDiff,reduceAdd,reduceSub,reduceLeDiff,zz0,ynew,f0,f1,f2,f6,f7,f8,wrap8_in,↓WX_ixa,ixaV_ptr,Int.toNat_natCast,Nat.mul_one,wr_of g2,st,cel_len,q9]);try simp only[yback])
   refine⟨by omega,?_⟩
   ((try simp (maxSteps:=3000000) (dsimp:=false) (disch:=first|omega|simp only[lnx];omega) only[↓ypre,ypost,↓reduceIte,reduceEqDiff,reduceAdd,reduceSub,reduceLeDiff,zz0,ynew,f0,f1,f2,f6,f7,f8,wrap64_in]);try simp only[yback])
   refine InvQ_go (w-(i+1)) (by omega) ⟨(i+1),(_),rfl,by omega,(by first|rfl|exact f0|(simp only[upd_apply];rfl)|(show I64 _=_;congr 1;omega)),(by first|rfl|exact f1|(simp only[upd_apply];rfl)|(show I64 _=_;congr 1;omega)),(by first|rfl|exact f2|(simp only[upd_apply];rfl)|(show I64 _=_;congr 1;omega)),(by first|rfl|exact f6|(simp only[upd_apply];rfl)|(show I64 _=_;congr 1;omega)),(by first|rfl|exact f7|(simp only[upd_apply];rfl)|(show I64 _=_;congr 1;omega)),(by first|rfl|exact f8|(simp only[upd_apply];rfl)|(show I64 _=_;congr 1;omega)),((kk.trans (k1.trans k2)).putb (by omega)),(s2.putb (by omega) (by have:=pre_len s.p;omega)),(fq.set (by omega) hr2 (by omega) (by omega)),(by rw[get_put_ne (by omega)];exact g1),(get_put_same (get_lt g2))⟩
  ·((try simp (maxSteps:=3000000) (dsimp:=false) (disch:=first|omega|simp only[lnx];omega) only[↓ypre,ypost,↓reduceIte,reduceEqDiff,reduceAdd,reduceSub,reduceLeDiff,zz0,ynew,f0,f1,f2,f6,f7,f8,decide_eq_false h0',wrap64_in]);try simp only[yback])
   refine InvQ_go (w-(i+1)) (by omega) ⟨(i+1),(_),rfl,by omega,(by first|rfl|exact f0|(simp only[upd_apply];rfl)|(show I64 _=_;congr 1;omega)),(by first|rfl|exact f1|(simp only[upd_apply];rfl)|(show I64 _=_;congr 1;omega)),(by first|rfl|exact f2|(simp only[upd_apply];rfl)|(show I64 _=_;congr 1;omega)),(by first|rfl|exact f6|(simp only[upd_apply];rfl)|(show I64 _=_;congr 1;omega)),(by first|rfl|exact f7|(simp only[upd_apply];rfl)|(show I64 _=_;congr 1;omega)),(by first|rfl|exact f8|(simp only[upd_apply];rfl)|(show I64 _=_;congr 1;omega)),(kk.trans k1),s1,fq,g1,g2⟩
 ·((try simp (maxSteps:=3000000) (dsimp:=false) (disch:=first|omega|simp only[lnx];omega) only[↓ypre,ypost,↓reduceIte,reduceEqDiff,reduceAdd,reduceSub,reduceLeDiff,zz0,ynew,f0,f1,f2,f6,f7,f8,decide_eq_false hlt]);try simp only[yback])
  have t9:∀ q:List Int,q.length=9→(cel .u8 q).take 9=cel .u8 q:=fun q h=>List.take_of_length_le (by rw[cel_len,h];exact Nat.le_refl _)
  have fin:∀ (q':List Int) (h':AH),FQ p w q'→isZ q'=false→Kp n h h'→Src h0 h' n→h'.get h.length=some ⟨cel .u8 (List.replicate 9 0),34,false,true⟩ →
    Q (aggV .u8 q') (h'.put h.length ⟨cel .u8 q',34,false,true⟩):=fun q' h' fq' z kp' ss' g=>
   hQ q' _ (kp'.putb (Nat.le_refl _)) (ss'.putb (by omega) (pre_len s.p)) fq' z
  ((try simp (maxSteps:=3000000) (dsimp:=false) (disch:=first|omega|simp only[lnx];omega) only[↓ypre,ypost,↓reduceIte,reduceEqDiff,reduceAdd,reduceSub,reduceLeDiff,zz0,ynew,f0,f1,f2,f6,f7,f8,rdn_of hg2,cel_len,q9,t9]);try simp only[yback])
  refine s_l01Zero q9 fun h1 p1'=>?_
  have g1:=pre_get p1' hg1
  have g2:=pre_get p1' hg2
  cases z:isZ q with
  | true=>
   ((try simp (maxSteps:=3000000) (dsimp:=false) (disch:=first|omega|simp only[lnx];omega) only[↓ypre,ypost,↓reduceIte,reduceEqDiff,reduceAdd,reduceSub,reduceLeDiff,zz0,ynew,f0,f1,f2,f6,f7,f8]);try simp only[yback])
   refine s_l01Next (ss.kp p1') fun r h2 k2 l2 s2 hr _=>?_
   ((try simp (maxSteps:=3000000) (dsimp:=false) (disch:=first|omega|simp only[lnx];omega) only[↓ypre,ypost,↓reduceIte,reduceEqDiff,reduceAdd,reduceSub,reduceLeDiff,zz0,ynew,f0,f1,f2,f6,f7,f8,wrap64_in]);try simp only[yback])
   refine s_l01Next s2 fun r2 h3 k3 l3 s3 hr2 _=>?_
   have g1:=(k2.trans k3).get (by omega) g1
   have g2:=(k2.trans k3).get (by omega) g2
   have hr:=hr (by omega)
   have hr2:=hr2 (by omega)
   obtain⟨j,rfl⟩:∃ j:Nat,r=j:=⟨r.toNat,by omega⟩
   have st:=cel_set (k:=.u8) (q:=q) (j:=j) (x:=1+r2) (by omega)
   ((try simp (maxSteps:=3000000) (dsimp:=false) (disch:=first|omega|simp only[lnx];omega) only[↓ypre,ypost,↓reduceIte,reduceEqDiff,reduceAdd,reduceSub,reduceLeDiff,zz0,ynew,f0,f1,f2,f6,f7,f8,wrap64_in,wrap8_in,↓WX_ixa,ixaV_ptr,Int.toNat_natCast,Nat.mul_one,wr_of g2,st,cel_len,q9]);try simp only[yback])
   refine⟨by omega,?_⟩
   have fq':FQ p w (q.set j (1+r2)):=fq.set (by omega) (by omega) (by omega) (by omega)
   generalize hP:AH.put h3 _ _=H5
   have g5:H5.get H1.length=some ⟨cel .u8 (q.set j (1+r2)),34,false,true⟩:=by rw[←hP];exact get_put_same (get_lt g2)
   have g51:H5.get h.length=some ⟨cel .u8 (List.replicate 9 0),34,false,true⟩:=by rw[←hP,get_put_ne (by omega)];exact g1
   have w5:=wr_full (vs:=cel .u8 (q.set j (1+r2))) g51 (by rw[cel_len,cel_len,fq'.1.1];rfl)
   have s5:Src h0 H5 n:=by rw[←hP];exact s3.putb (by omega) (by have:=pre_len s.p;omega)
   have k5:Kp n h H5:=by rw[←hP];exact (((kk.trans (Kp.of p1')).trans k2).trans k3).putb (by omega)
   have lg:=get_lt g51
   have l9:=fq'.1.1
   ((try simp (maxSteps:=3000000) (dsimp:=false) (disch:=first|omega|simp only[lnx];omega) only[↓ypre,ypost,↓reduceIte,reduceEqDiff,reduceAdd,reduceSub,reduceLeDiff,zz0,ynew,f0,f1,f2,f6,f7,f8,rdn_of g5,cel_len,l9,t9,cel_all,w5,rdn_put_same]);try simp only[yback])
   exact fin _ _ fq' (isZ_set q9 (by omega) (by omega)) k5 s5 g51
  | false=>
   have w5:=wr_full (vs:=cel .u8 q) g1 (by rw[cel_len,cel_len,q9];rfl)
   have lg:=get_lt g1
   ((try simp (maxSteps:=3000000) (dsimp:=false) (disch:=first|omega|simp only[lnx];omega) only[↓ypre,ypost,↓reduceIte,reduceEqDiff,reduceAdd,reduceSub,reduceLeDiff,zz0,ynew,f0,f1,f2,f6,f7,f8,rdn_of g2,cel_len,q9,t9,cel_all,w5,rdn_put_same]);try simp only[yback])
   exact fin _ _ fq z (kk.trans (Kp.of p1')) (ss.kp p1') g1
end Go.Proofs.YtigpfopobpoamaaGreat.X

set_option linter.unusedVariables false
set_option linter.unusedSimpArgs false
set_option maxRecDepth 20000
set_option maxHeartbeats 4000000
namespace Go.Proofs.YtigpfopobpoamaaGreat.X
open Go Go.RowKit
theorem isX_sz {x:Sch} (h:isX x=true):SZ x∧x.ps.length≤30:=by
 unfold isX at h
 simp only[Bool.and_eq_true,decide_eq_true_eq] at h
 exact⟨szX_facts h.1.1,h.1.2⟩
end Go.Proofs.YtigpfopobpoamaaGreat.X

set_option linter.unusedVariables false
set_option linter.unusedSimpArgs false
set_option maxRecDepth 20000
set_option maxHeartbeats 4000000
namespace Go.Proofs.YtigpfopobpoamaaGreat.X
open Go Go.RowKit
open Nat (reduceEqDiff reduceAdd reduceSub reduceLeDiff)
theorem i_areSchemes {v u:Value} {t s:Sch} {h:AH} {n:Nat} {e:TypeId} {ro full:Bool} {Q:Value→AH→Prop} (hv:Prods h v t.ps) (hu:Prods h u s.ps) (hl:SmallX t.ps) (hl':SmallX s.ps)
  (hb:h.get n=some ⟨[I64 t.p,I64 t.n,I64 t.m,I64 t.k,v,I64 s.p,I64 s.n,I64 s.m,I64 s.k,u],e,ro,full⟩)
  (hQ:∀ h',h<+:h'→Q (.bool (isX t&&isX s)) h'):WF S 76 [.slice (some ⟨n,0,none⟩) 2 5] h Q:=by
 refine WF_fn (fn:=c76) rfl rfl ?_
 dsimp only[c76,oO,oM,oS,oG,oK,oE,oL,oF,oX,oN]
 try simp (maxSteps:=3000000) (disch:=first|omega|simp only[lnx];omega) only[↓xpre,xpost,↓reduceIte,reduceEqDiff,reduceAdd,reduceSub,reduceLeDiff,zz0]
 refine WC_loop ?_
 try simp (maxSteps:=3000000) (disch:=first|omega|simp only[lnx];omega) only[↓xpre,xpost,↓reduceIte,reduceEqDiff,reduceAdd,reduceSub,reduceLeDiff,zz0,IfW_dec]
 refine⟨fun _=>?_,fun h=>absurd h (by decide)⟩
 try simp (maxSteps:=3000000) (disch:=first|omega|simp only[lnx];omega) only[↓xpre,xpost,↓reduceIte,reduceEqDiff,reduceAdd,reduceSub,reduceLeDiff,zz0,ixsV_some]
 refine⟨by decide,?_⟩
 try simp (maxSteps:=3000000) (disch:=first|omega|simp only[lnx];omega) only[↓xpre,xpost,↓reduceIte,reduceEqDiff,reduceAdd,reduceSub,reduceLeDiff,zz0,rdn_of hb,Int.toNat_zero,Nat.zero_mul,hv.one]
 generalize hH1:AH.new h _=H1
 obtain⟨hb1,p1,n1⟩:=new_facts hH1
 refine i_IsScheme (x:=t) (hv.pre p1) hl fun H2 p2=>?_
 cases h1:isX t with
 | false=>
  try simp (maxSteps:=3000000) (disch:=first|omega|simp only[lnx];omega) only[↓xpre,xpost,↓reduceIte,reduceEqDiff,reduceAdd,reduceSub,reduceLeDiff,zz0]
  have:=hQ _ (p1.trans p2)
  rw[h1] at this
  exact this
 | true=>
  try simp (maxSteps:=3000000) (disch:=first|omega|simp only[lnx];omega) only[↓xpre,xpost,↓reduceIte,reduceEqDiff,reduceAdd,reduceSub,reduceLeDiff,zz0,wrap64_in]
  rw[LoopQ_n]
  refine WC_loop ?_
  try simp (maxSteps:=3000000) (disch:=first|omega|simp only[lnx];omega) only[↓xpre,xpost,↓reduceIte,reduceEqDiff,reduceAdd,reduceSub,reduceLeDiff,zz0,IfW_dec]
  refine⟨fun _=>?_,fun h=>absurd h (by decide)⟩
  try simp (maxSteps:=3000000) (disch:=first|omega|simp only[lnx];omega) only[↓xpre,xpost,↓reduceIte,reduceEqDiff,reduceAdd,reduceSub,reduceLeDiff,zz0,ixsV_some]
  refine⟨by decide,?_⟩
  have hb:=pre_get (p1.trans p2) hb
  have e1:((0+1:Int).toNat*5)=5:=by decide
  try simp (maxSteps:=3000000) (disch:=first|omega|simp only[lnx];omega) only[↓xpre,xpost,↓reduceIte,reduceEqDiff,reduceAdd,reduceSub,reduceLeDiff,zz0,e1,rdn_of hb,hu.one]
  generalize hH3:AH.new H2 _=H3
  obtain⟨hb3,p3,n3⟩:=new_facts hH3
  refine i_IsScheme (x:=s) (hu.pre ((p1.trans p2).trans p3)) hl' fun H4 p4=>?_
  cases h2:isX s with
  | false=>
   try simp (maxSteps:=3000000) (disch:=first|omega|simp only[lnx];omega) only[↓xpre,xpost,↓reduceIte,reduceEqDiff,reduceAdd,reduceSub,reduceLeDiff,zz0]
   have:=hQ _ (((p1.trans p2).trans p3).trans p4)
   rw[h1,h2] at this
   exact this
  | true=>
   try simp (maxSteps:=3000000) (disch:=first|omega|simp only[lnx];omega) only[↓xpre,xpost,↓reduceIte,reduceEqDiff,reduceAdd,reduceSub,reduceLeDiff,zz0,wrap64_in]
   rw[LoopQ_n]
   refine WC_loop ?_
   try simp (maxSteps:=3000000) (disch:=first|omega|simp only[lnx];omega) only[↓xpre,xpost,↓reduceIte,reduceEqDiff,reduceAdd,reduceSub,reduceLeDiff,zz0,IfW_dec]
   refine⟨fun h=>absurd h (by decide),fun _=>?_⟩
   try simp (maxSteps:=3000000) (disch:=first|omega|simp only[lnx];omega) only[↓xpre,xpost,↓reduceIte,reduceEqDiff,reduceAdd,reduceSub,reduceLeDiff,zz0]
   have:=hQ _ (((p1.trans p2).trans p3).trans p4)
   rw[h1,h2] at this
   exact this
def smT (g:Nat→Int):Nat→Int
 | 0=>0
 | n+1=>smT g n+g n
theorem smT_in {g:Nat→Int} {b:Int}:∀ {n:Nat},(∀ j,j<n→0≤g j∧g j≤b)→0≤smT g n∧smT g n≤b*n
 | 0,_=>by simp[smT]
 | n+1,h=>by
  have h1:=smT_in (n:=n) (fun j hj=>h j (by omega))
  have h2:=h n (by omega)
  simp only[smT]
  rw[show ((n+1:Nat):Int)=(n:Int)+1 by omega,Int.mul_add,Int.mul_one]
  omega
def tm (q:List Int) (a b c:Nat):Int:=q.getD a 0*q.getD (9+b) 0*q.getD (18+c) 0
def lsS (L:List (List Int)) (a b c i:Nat):Int:=smT (fun j=>tm (L.getD j []) a b c) i
def lsX (x:Sch) (a b c:Nat):Int:=(lsS x.ps a b c x.ps.length).tmod x.p
theorem tm_in {q:List Int} (hq:By 27 q) {a b c:Nat} (ha:a<9) (hb:b<9) (hc:c<9):(0≤q.getD a 0*q.getD (9+b) 0∧q.getD a 0*q.getD (9+b) 0≤65025)∧0≤tm q a b c∧tm q a b c≤16581375:=by
 have h1:=hq.2 a (by omega)
 have h2:=hq.2 (9+b) (by omega)
 have h3:=hq.2 (18+c) (by omega)
 have m1:=mul_in (A:=255) (B:=255) h1 h2
 exact⟨m1,mul_in (A:=65025) (B:=255) m1 h3⟩
theorem lsX_in {x:Sch} {h:AH} {v:Value} (hv:Prods h v x.ps) (z:SZ x) {a b c:Nat} (ha:a<9) (hb:b<9) (hc:c<9):0≤lsX x a b c∧lsX x a b c<x.p:=by
 have:=smT_in (g:=fun j=>tm (x.ps.getD j []) a b c) (b:=16581375) (n:=x.ps.length) (fun j hj=>(tm_in (hv.by hj) ha hb hc).2)
 have zp:=z.p
 exact tmod_nn this.1 (by omega)
theorem s_l01Sum {v:Value} {x:Sch} {a b c:Nat} {h:AH} {Q:Value→AH→Prop} (hv:Prods h v x.ps) (z:SZ x) (hl:x.ps.length≤30) (ha:a<9) (hb:b<9) (hc:c<9)
  (hQ:∀ h',h<+:h'→Q (I64 (lsX x a b c)) h'):WF S 61 [schV x v,I64 a,I64 b,I64 c] h Q:=by
 refine WF_fn (fn:=c61) rfl rfl ?_
 dsimp only[c61,oO,oM,oS,oG,oK,oE,oL,oF,oX,oN]
 have zp:=z.p
 try simp (maxSteps:=3000000) (disch:=first|omega|simp only[lnx];omega) only[↓xpre,xpost,↓reduceIte,reduceEqDiff,reduceAdd,reduceSub,reduceLeDiff,zz0,schV,hv.one]
 generalize hH1:AH.new h _=H1
 obtain⟨hb1,p1,n1⟩:=new_facts hH1
 refine WC_loop_inv (fun m f K1=>∃ (i:Nat),m=x.ps.length-i∧i≤x.ps.length∧f 1=I64 a∧f 2=I64 b∧f 3=I64 c∧f 4=.pointer (some ⟨h.length,0,none⟩)∧f 9=I64 (lsS x.ps a b c i)∧f 10=I64 i∧(H1<+:K1)) ?_ (x.ps.length-0) _ _ ⟨0,rfl,by omega,(by first|rfl|simp[upd_apply]),(by first|rfl|simp[upd_apply]),(by first|rfl|simp[upd_apply]),(by first|rfl|simp[upd_apply]),(by first|rfl|simp[upd_apply]),(by first|rfl|simp[upd_apply]),List.prefix_refl _⟩
 rintro m f K1 ⟨i,rfl,hi,f1,f2,f3,f4,f9,f10,pp⟩
 have hbK:=pre_get pp hb1
 have hvK:=hv.pre (p1.trans pp)
 by_cases hlt:(i:Int)<x.ps.length
 ·have hi':i<x.ps.length:=by omega
  obtain⟨n,off,hix,hrn,hr1⟩:=hvK.1.at hi'
  have r27:=hrn 0 27 (by omega)
  have wi:=hvK.1.wid hi'
  rw[List.drop_zero,List.take_of_length_le (by omega),Nat.add_zero] at r27
  have byq:=hvK.by hi'
  have bs:=smT_in (g:=fun j=>tm (x.ps.getD j []) a b c) (b:=16581375) (n:=i) (fun j hj=>(tm_in (hv.by (by omega)) ha hb hc).2)
  have es:lsS x.ps a b c (i+1)=lsS x.ps a b c i+tm (x.ps.getD i []) a b c:=rfl
  have bs':0≤lsS x.ps a b c i∧lsS x.ps a b c i≤497441250:=⟨bs.1,by have:=bs.2;show smT _ i≤_;omega⟩
  generalize hq:x.ps.getD i []=q at *
  have w1:∀ (h1:AH) (e:TypeId),(h1.new ⟨[.int .u8 0,.int .u8 0,.int .u8 0,.int .u8 0,.int .u8 0,.int .u8 0,.int .u8 0,.int .u8 0,.int .u8 0,.int .u8 0,.int .u8 0,.int .u8 0,.int .u8 0,.int .u8 0,.int .u8 0,.int .u8 0,.int .u8 0,.int .u8 0,.int .u8 0,.int .u8 0,.int .u8 0,.int .u8 0,.int .u8 0,.int .u8 0,.int .u8 0,.int .u8 0,.int .u8 0],e,false,true⟩).wr h1.length 0 (cel .u8 q)=some (h1.new ⟨cel .u8 q,e,false,true⟩):=fun h1 e=>wr_all (by rw[cel_len,wi];rfl)
  have ga:=cel_get (k:=.u8) (q:=q) (j:=a) (by omega)
  have gb:=cel_get (k:=.u8) (q:=q) (j:=9+b) (by omega)
  have gc:=cel_get (k:=.u8) (q:=q) (j:=18+c) (by omega)
  have ba:=byq.2 a (by omega)
  have bb:=byq.2 (9+b) (by omega)
  have bc:=byq.2 (18+c) (by omega)
  have bt:=tm_in byq ha hb hc
  have et:q.getD a 0*q.getD (9+b) 0*q.getD (18+c) 0=tm q a b c:=rfl
  try simp (maxSteps:=3000000) (disch:=first|omega|simp only[lnx];omega) only[↓xpre,xpost,↓reduceIte,reduceEqDiff,reduceAdd,reduceSub,reduceLeDiff,zz0,f1,f2,f3,f4,f9,f10,rd1_of hbK,hvK.1.len,decide_eq_true hlt,hix,r27,cel_all,cel_len,wi,↓w1,↓WX_ixa,ixaV_ptr,Int.toNat_natCast,Nat.mul_one,ga,gb,gc,wrap64_in,et]
  refine InvQ_go (x.ps.length-(i+1)) (by omega) ⟨(i+1),rfl,by omega,(by first|rfl|exact f1|(simp only[upd_apply];rfl)|(show I64 _=_;congr 1;omega)),(by first|rfl|exact f2|(simp only[upd_apply];rfl)|(show I64 _=_;congr 1;omega)),(by first|rfl|exact f3|(simp only[upd_apply];rfl)|(show I64 _=_;congr 1;omega)),(by first|rfl|exact f4|(simp only[upd_apply];rfl)|(show I64 _=_;congr 1;omega)),(by show I64 _=I64 _;rw[es]),(by first|rfl|exact f10|(simp only[upd_apply];rfl)|(show I64 _=_;congr 1;omega)),(pp.trans (pre_new (List.prefix_refl _)))⟩
 ·have ei:i=x.ps.length:=by omega
  subst ei
  try simp (maxSteps:=3000000) (disch:=first|omega|simp only[lnx];omega) only[↓xpre,xpost,↓reduceIte,reduceEqDiff,reduceAdd,reduceSub,reduceLeDiff,zz0,f1,f2,f3,f4,f9,f10,rd1_of hbK,hvK.1.len,decide_eq_false hlt,bin_rem]
  exact hQ _ (p1.trans pp)
theorem i_leftSide {v:Value} {x:Sch} {a b c:Nat} {h:AH} {Q:Value→AH→Prop} (hv:Prods h v x.ps) (z:SZ x) (hl:x.ps.length≤30) (ha:a<9) (hb:b<9) (hc:c<9)
  (hQ:∀ h',h<+:h'→Q (I64 (lsX x a b c)) h'):WF S 79 [schV x v,I64 a,I64 b,I64 c] h Q:=by
 refine WF_fn (fn:=c79) rfl rfl ?_
 dsimp only[c79,oO,oM,oS,oG,oK,oE,oL,oF,oX,oN]
 have zp:=z.p
 try simp (maxSteps:=3000000) (disch:=first|omega|simp only[lnx];omega) only[↓xpre,xpost,↓reduceIte,reduceEqDiff,reduceAdd,reduceSub,reduceLeDiff,zz0,schV,hv.one]
 generalize hH1:AH.new h _=H1
 obtain⟨hb1,p1,n1⟩:=new_facts hH1
 try simp (maxSteps:=3000000) (disch:=first|omega|simp only[lnx];omega) only[↓xpre,xpost,↓reduceIte,reduceEqDiff,reduceAdd,reduceSub,reduceLeDiff,zz0,rd1_of hb1,(hv.pre p1).1.len]
 refine WC_loop_inv (fun m f K1=>∃ (i:Nat),m=x.ps.length-i∧i≤x.ps.length∧f 1=I64 a∧f 2=I64 b∧f 3=I64 c∧f 4=.pointer (some ⟨h.length,0,none⟩)∧f 9=I64 (lsS x.ps a b c i)∧f 13=v∧f 14=I64 x.ps.length∧f 15=I64 i∧(H1<+:K1)) ?_ (x.ps.length-0) _ _ ⟨0,rfl,by omega,(by first|rfl|simp[upd_apply]),(by first|rfl|simp[upd_apply]),(by first|rfl|simp[upd_apply]),(by first|rfl|simp[upd_apply]),(by first|rfl|simp[upd_apply]),(by first|rfl|simp[upd_apply]),(by first|rfl|simp[upd_apply]),(by first|rfl|simp[upd_apply]),List.prefix_refl _⟩
 rintro m f K1 ⟨i,rfl,hi,f1,f2,f3,f4,f9,f13,f14,f15,pp⟩
 have hbK:=pre_get pp hb1
 have hvK:=hv.pre (p1.trans pp)
 by_cases hlt:(i:Int)<x.ps.length
 ·have hi':i<x.ps.length:=by omega
  obtain⟨n,off,hix,hrn,hr1⟩:=hvK.1.at hi'
  have r27:=hrn 0 27 (by omega)
  have wi:=hvK.1.wid hi'
  rw[List.drop_zero,List.take_of_length_le (by omega),Nat.add_zero] at r27
  have byq:=hvK.by hi'
  have bs:=smT_in (g:=fun j=>tm (x.ps.getD j []) a b c) (b:=16581375) (n:=i) (fun j hj=>(tm_in (hv.by (by omega)) ha hb hc).2)
  have es:lsS x.ps a b c (i+1)=lsS x.ps a b c i+tm (x.ps.getD i []) a b c:=rfl
  have bs':0≤lsS x.ps a b c i∧lsS x.ps a b c i≤497441250:=⟨bs.1,by have:=bs.2;show smT _ i≤_;omega⟩
  generalize hq:x.ps.getD i []=q at *
  have w1:∀ (h1:AH) (e:TypeId),(h1.new ⟨[.int .u8 0,.int .u8 0,.int .u8 0,.int .u8 0,.int .u8 0,.int .u8 0,.int .u8 0,.int .u8 0,.int .u8 0,.int .u8 0,.int .u8 0,.int .u8 0,.int .u8 0,.int .u8 0,.int .u8 0,.int .u8 0,.int .u8 0,.int .u8 0,.int .u8 0,.int .u8 0,.int .u8 0,.int .u8 0,.int .u8 0,.int .u8 0,.int .u8 0,.int .u8 0,.int .u8 0],e,false,true⟩).wr h1.length 0 (cel .u8 q)=some (h1.new ⟨cel .u8 q,e,false,true⟩):=fun h1 e=>wr_all (by rw[cel_len,wi];rfl)
  have ga:=cel_get (k:=.u8) (q:=q) (j:=a) (by omega)
  have gb:=cel_get (k:=.u8) (q:=q) (j:=9+b) (by omega)
  have gc:=cel_get (k:=.u8) (q:=q) (j:=18+c) (by omega)
  have ba:=byq.2 a (by omega)
  have bb:=byq.2 (9+b) (by omega)
  have bc:=byq.2 (18+c) (by omega)
  have bt:=tm_in byq ha hb hc
  have et:q.getD a 0*q.getD (9+b) 0*q.getD (18+c) 0=tm q a b c:=rfl
  try simp (maxSteps:=3000000) (disch:=first|omega|simp only[lnx];omega) only[↓xpre,xpost,↓reduceIte,reduceEqDiff,reduceAdd,reduceSub,reduceLeDiff,zz0,f1,f2,f3,f4,f9,f13,f14,f15,decide_eq_true hlt,hix,r27,cel_all,cel_len,wi,↓w1,↓WX_ixa,ixaV_ptr,Int.toNat_natCast,Nat.mul_one,ga,gb,gc,wrap64_in,et]
  refine InvQ_go (x.ps.length-(i+1)) (by omega) ⟨(i+1),rfl,by omega,(by first|rfl|exact f1|(simp only[upd_apply];rfl)|(show I64 _=_;congr 1;omega)),(by first|rfl|exact f2|(simp only[upd_apply];rfl)|(show I64 _=_;congr 1;omega)),(by first|rfl|exact f3|(simp only[upd_apply];rfl)|(show I64 _=_;congr 1;omega)),(by first|rfl|exact f4|(simp only[upd_apply];rfl)|(show I64 _=_;congr 1;omega)),(by show I64 _=I64 _;rw[es]),(by first|rfl|exact f13|(simp only[upd_apply];rfl)|(show I64 _=_;congr 1;omega)),(by first|rfl|exact f14|(simp only[upd_apply];rfl)|(show I64 _=_;congr 1;omega)),(by first|rfl|exact f15|(simp only[upd_apply];rfl)|(show I64 _=_;congr 1;omega)),(pp.trans (pre_new (List.prefix_refl _)))⟩
 ·have ei:i=x.ps.length:=by omega
  subst ei
  try simp (maxSteps:=3000000) (disch:=first|omega|simp only[lnx];omega) only[↓xpre,xpost,↓reduceIte,reduceEqDiff,reduceAdd,reduceSub,reduceLeDiff,zz0,f1,f2,f3,f4,f9,f13,f14,f15,rd1_of hbK,decide_eq_false hlt,bin_rem]
  exact hQ _ (p1.trans pp)
def lsN (x:Sch) (a b c:Int):Int:=lsX x a.toNat b.toNat c.toNat
def tofX (x:Sch):Ten:=tenT x.p (x.n*x.m) (x.m*x.k) (x.n*x.k) (lsN x)
theorem tenG_at {p:Int} {I J K a b c:Nat} {num:Int→Int→Int→Int} (hb:b<J) (hc:c<K):tenG p J K num ((a*J+b)*K+c)=(num a b c).tmod p:=by
 unfold tenG
 have e1:(((a*J+b)*K+c:Nat):Int)=((a*J+b:Nat):Int)*(K:Int)+(c:Int):=by push_cast;rfl
 have e2:((a*J+b:Nat):Int)=(a:Int)*(J:Int)+(b:Int):=by push_cast;rfl
 have d1:=dec (a:=((a*J+b:Nat):Int)) (i:=(c:Int)) (I:=(K:Int)) (by omega)
 have d2:=dec (a:=(a:Int)) (i:=(b:Int)) (I:=(J:Int)) (by omega)
 rw[e1,d1.1,d1.2,e2,d2.1,d2.2]
theorem lsN_in {x:Sch} {h:AH} {v:Value} (hv:Prods h v x.ps) (z:SZ x) {a b c:Nat} (ha:a<9) (hb:b<9) (hc:c<9):(lsN x a b c).tmod x.p=lsX x a b c:=by
 have:=lsX_in hv z ha hb hc
 unfold lsN
 rw[Int.toNat_natCast,Int.toNat_natCast,Int.toNat_natCast]
 exact Int.tmod_eq_of_lt this.1 this.2
theorem i_tensorOf1 {v:Value} {x:Sch} {n:Nat} {e:TypeId} {ro full:Bool} {h0:AH} (hv:Prods h0 v x.ps) (z:SZ x) (hl:x.ps.length≤30) (hb:h0.get n=some ⟨[I64 x.p,I64 x.n,I64 x.m,I64 x.k,v],e,ro,full⟩) :
  Tells S h0 (.func (.func 78) #[] #[.pointer (some ⟨n,0,none⟩)]) (x.n*x.m) (x.m*x.k) (x.n*x.k) (lsN x):=by
 intro a b c ha hb' hc h1 hp Q hQ
 rw[WK_func]
 have zi:=z.nm
 have zj:=z.mk2
 have zk:=z.nk
 obtain⟨A,rfl⟩:∃ A:Nat,a=A:=⟨a.toNat,by omega⟩
 obtain⟨B,rfl⟩:∃ B:Nat,b=B:=⟨b.toNat,by omega⟩
 obtain⟨C,rfl⟩:∃ C:Nat,c=C:=⟨c.toNat,by omega⟩
 have hb1:=pre_get hp hb
 refine WF_fn (fn:=c78) rfl rfl ?_
 dsimp only[c78,oO,oM,oS,oG,oK,oE,oL,oF,oX,oN]
 try simp (maxSteps:=3000000) (disch:=first|omega|simp only[lnx];omega) only[↓xpre,xpost,↓reduceIte,reduceEqDiff,reduceAdd,reduceSub,reduceLeDiff,zz0,rdn_of hb1]
 refine i_leftSide (hv.pre hp) z hl (by omega) (by omega) (by omega) fun h2 p2=>?_
 try simp (maxSteps:=3000000) (disch:=first|omega|simp only[lnx];omega) only[↓xpre,xpost,↓reduceIte,reduceEqDiff,reduceAdd,reduceSub,reduceLeDiff,zz0]
 have:=hQ h2 p2
 unfold lsN at this
 rw[Int.toNat_natCast,Int.toNat_natCast,Int.toNat_natCast] at this
 exact this
theorem i_tensorOf {v:Value} {x:Sch} {h:AH} {Q:Value→AH→Prop} (hv:Prods h v x.ps) (z:SZ x) (hl:x.ps.length≤30)
  (hQ:∀ v' h',h<+:h'→OwnR h h' v' (tofX x).ns→Q (tenV (tofX x) v') h'):WF S 34 [schV x v] h Q:=by
 refine WF_fn (fn:=c34) rfl rfl ?_
 dsimp only[c34,oO,oM,oS,oG,oK,oE,oL,oF,oX,oN]
 try simp (maxSteps:=3000000) (disch:=first|omega|simp only[lnx];omega) only[↓xpre,xpost,↓reduceIte,reduceEqDiff,reduceAdd,reduceSub,reduceLeDiff,zz0,schV,hv.one]
 generalize hH1:AH.new h _=H1
 obtain⟨hb1,p1,n1⟩:=new_facts hH1
 generalize hH2:AH.new H1 _=H2
 obtain⟨hb2,p2,n2⟩:=new_facts hH2
 have hb1:=pre_get p2 hb1
 try simp (maxSteps:=3000000) (disch:=first|omega|simp only[lnx];omega) only[↓xpre,xpost,↓reduceIte,reduceEqDiff,reduceAdd,reduceSub,reduceLeDiff,zz0,rdn_of hb1]
 refine i_placesOf hv.one z fun H3 p3=>?_
 have hb1:=pre_get p3 hb1
 have hb2:=pre_get p3 hb2
 have ix0:∀ n:Nat,ixaV 3 1 (.pointer (some ⟨n,0,none⟩)) (I64 0)=some (.pointer (some ⟨n,0,none⟩)):=fun n=>rfl
 have ix1:∀ n:Nat,ixaV 3 1 (.pointer (some ⟨n,0,none⟩)) (I64 1)=some (.pointer (some ⟨n,1,none⟩)):=fun n=>rfl
 have ix2:∀ n:Nat,ixaV 3 1 (.pointer (some ⟨n,0,none⟩)) (I64 2)=some (.pointer (some ⟨n,2,none⟩)):=fun n=>rfl
 have lt1:=get_lt hb1
 try simp (maxSteps:=3000000) (disch:=first|omega|simp only[lnx];omega) only[↓xpre,xpost,↓reduceIte,reduceEqDiff,reduceAdd,reduceSub,reduceLeDiff,zz0,↓WX_ixa,ix0,ix1,ix2,rd1_of hb1]
 generalize hH4:AH.new H3 _=H4
 obtain⟨hb4,p4,n4⟩:=new_facts hH4
 have hb1:=pre_get p4 hb1
 have hb2:=pre_get p4 hb2
 have zi:=z.nm
 have zj:=z.mk2
 have zk:=z.nk
 have zp:=z.p
 refine i_tensor (num:=lsN x) (by omega) zi zj zk (i_tensorOf1 (hv.pre ((p1.trans p2).trans (p3.trans p4))) z hl hb1) fun v' H5 p5 o=>?_
 have hb2:=pre_get p5 hb2
 have lt2:=get_lt hb2
 try simp (maxSteps:=3000000) (disch:=first|omega|simp only[lnx];omega) only[↓xpre,xpost,↓reduceIte,reduceEqDiff,reduceAdd,reduceSub,reduceLeDiff,zz0,tenV,o.ints.one,wr_of hb2]
 have l3:=pre_len p3
 exact hQ v' _ (pre_put (((p1.trans p2).trans (p3.trans p4)).trans p5) (show h.length≤H1.length by omega)) ((o.put_ne (by omega)).lo (by omega))
theorem tofX_small {x:Sch} (z:SZ x):SmallS (tofX x).ns:=by
 have ij:=mul_in1 (A:=9) (B:=9) z.nm z.mk2
 have ijk:=mul_in1 (A:=81) (B:=9) ij z.nk
 unfold SmallS tofX tenT
 rw[gen_len]
 omega
def o9:List Int:=List.replicate 9 0
def un9 (a:Nat):List Int:=o9.set a 1
def un27 (a b c:Nat):List Int:=un9 a++(un9 b++un9 c)
theorem un9_len {a:Nat}:(un9 a).length=9:=by simp[un9,o9]
theorem un27_len {a b c:Nat}:(un27 a b c).length=27:=by simp[un27,un9_len]
theorem un27_set {a b c:Nat} (ha:a<9) (hb:b<9) (hc:c<9):(((List.replicate 27 0).set a 1).set (9+b) 1).set (18+c) 1=un27 a b c:=by
 have e:List.replicate 27 (0:Int)=o9++(o9++o9):=rfl
 have lz:o9.length=9:=rfl
 have l1:(o9.set a 1).length=9:=by rw[List.length_set,lz]
 have l2:(o9.set b 1).length=9:=by rw[List.length_set,lz]
 rw[e,List.set_append_left _ _ (by rw[lz];exact ha),List.set_append_right _ _ (by rw[l1];omega),List.set_append_right _ _ (by rw[l1];omega),l1,Nat.add_sub_cancel_left,
  List.set_append_left _ _ (by rw[lz];exact hb),List.set_append_right _ _ (by rw[l2];omega),l2]
 rw[show 18+c-9-9=c by omega]
 rfl
theorem un9_in {a j:Nat}:0≤(un9 a).getD j 0∧(un9 a).getD j 0≤1:=by
 unfold un9
 rw[List.getD_eq_getElem?_getD,List.getElem?_set]
 split
 ·split<;>simp
 ·unfold o9
  rw[List.getElem?_replicate]
  split<;>simp
theorem un27_in {a b c j:Nat}:0≤(un27 a b c).getD j 0∧(un27 a b c).getD j 0≤255:=by
 unfold un27
 by_cases h:j<9
 ·rw[getD_app_l (by rw[un9_len];exact h)]
  have:=un9_in (a:=a) (j:=j)
  omega
 ·rw[getD_app_r (by rw[un9_len];omega),un9_len]
  by_cases h2:j-9<9
  ·rw[getD_app_l (by rw[un9_len];exact h2)]
   have:=un9_in (a:=b) (j:=j-9)
   omega
  ·rw[getD_app_r (by rw[un9_len];omega),un9_len]
   have:=un9_in (a:=c) (j:=j-9-9)
   omega
def stdG (m k t:Nat):List Int:=un27 (t / k / m*m+t / k%m) (t / k%m*k+t%k) (t / k / m*k+t%k)
def stdL (m k:Nat):Nat→List (List Int)
 | 0=>[]
 | t+1=>stdL m k t++[stdG m k t]
theorem stdL_len {m k:Nat}:∀ {t:Nat},(stdL m k t).length=t
 | 0=>rfl
 | t+1=>by simp[stdL,stdL_len (t:=t)]
theorem stdL_byt {m k:Nat}:∀ {t:Nat},Byt 27 (stdL m k t)
 | 0=>fun i hi=>by simp[stdL] at hi
 | t+1=>fun i hi j hj=>by
  rw[stdL_len] at hi
  unfold stdL
  by_cases h:i<t
  ·rw[getD_app_l (by rw[stdL_len];exact h)]
   exact stdL_byt (t:=t) i (by rw[stdL_len];exact h) j hj
  ·rw[getD_app_r (by rw[stdL_len];omega),stdL_len,show i-t=0 by omega]
   exact un27_in
theorem stdG_at {m k i j l:Nat} (hj:j<m) (hl:l<k):stdG m k ((i*m+j)*k+l)=un27 (i*m+j) (j*k+l) (i*k+l):=by
 unfold stdG
 have e1:((i*m+j)*k+l) / k=i*m+j:=by
  rw[Nat.mul_comm,Nat.mul_add_div (by omega),Nat.div_eq_of_lt hl,Nat.add_zero]
 have e2:((i*m+j)*k+l)%k=l:=by
  rw[Nat.mul_comm,Nat.mul_add_mod,Nat.mod_eq_of_lt hl]
 have e3:(i*m+j) / m=i:=by
  rw[Nat.mul_comm,Nat.mul_add_div (by omega),Nat.div_eq_of_lt hj,Nat.add_zero]
 have e4:(i*m+j)%m=j:=by
  rw[Nat.mul_comm,Nat.mul_add_mod,Nat.mod_eq_of_lt hj]
 rw[e1,e2,e3,e4]
def stdX (p n m k:Int):Sch:=⟨p,n,m,k,stdL m.toNat k.toNat (n*m*k).toNat⟩
theorem splice_27 {q:List Int} (hq:q.length=27):splice [.int .u8 0,.int .u8 0,.int .u8 0,.int .u8 0,.int .u8 0,.int .u8 0,.int .u8 0,.int .u8 0,.int .u8 0,.int .u8 0,.int .u8 0,.int .u8 0,.int .u8 0,.int .u8 0,.int .u8 0,.int .u8 0,.int .u8 0,.int .u8 0,.int .u8 0,.int .u8 0,.int .u8 0,.int .u8 0,.int .u8 0,.int .u8 0,.int .u8 0,.int .u8 0,.int .u8 0] 0 (cel .u8 q)=cel .u8 q:=by
 rw[splice_eq,cel_len,hq]
 simp
theorem splice_lenW {c vs:List Value} {off:Nat} (h:off+vs.length≤c.length):(splice c off vs).length=c.length:=by
 rw[splice_eq]
 simp
 omega
theorem wr_27 {h1:AH} {e:TypeId}:(h1.new ⟨[.int .u8 0,.int .u8 0,.int .u8 0,.int .u8 0,.int .u8 0,.int .u8 0,.int .u8 0,.int .u8 0,.int .u8 0,.int .u8 0,.int .u8 0,.int .u8 0,.int .u8 0,.int .u8 0,.int .u8 0,.int .u8 0,.int .u8 0,.int .u8 0,.int .u8 0,.int .u8 0,.int .u8 0,.int .u8 0,.int .u8 0,.int .u8 0,.int .u8 0,.int .u8 0,.int .u8 0],e,false,true⟩).wr h1.length 0 [.int .u8 0,.int .u8 0,.int .u8 0,.int .u8 0,.int .u8 0,.int .u8 0,.int .u8 0,.int .u8 0,.int .u8 0,.int .u8 0,.int .u8 0,.int .u8 0,.int .u8 0,.int .u8 0,.int .u8 0,.int .u8 0,.int .u8 0,.int .u8 0,.int .u8 0,.int .u8 0,.int .u8 0,.int .u8 0,.int .u8 0,.int .u8 0,.int .u8 0,.int .u8 0,.int .u8 0]=some (h1.new ⟨cel .u8 (List.replicate 27 0),e,false,true⟩):=wr_all rfl
theorem wr_set1 {h1:AH} {e:TypeId} {q:List Int} {j:Nat} {x:Int} (hj:j<q.length):(h1.new ⟨cel .u8 q,e,false,true⟩).wr h1.length j [.int .u8 x]=some (h1.new ⟨cel .u8 (q.set j x),e,false,true⟩):=by
 rw[wr_new_same,if_pos ⟨rfl,by rw[cel_len];simp only[List.length_singleton];omega⟩,cel_set hj]
theorem s_l01Standard {p n m k:Int} {h:AH} {Q:Value→AH→Prop} (z:SZ (stdX p n m k)) (hQ:∀ v' h',h<+:h'→InX h.length h'.length h' v' (stdX p n m k).ps→Q (schV (stdX p n m k) v') h'):WF S 93 [I64 p,I64 n,I64 m,I64 k] h Q:=by
 obtain⟨zp,zn,zm,zk,znm,zmk,znk⟩:=z
 simp only[stdX] at zp zn zm zk znm zmk znk
 unfold stdX at hQ
 obtain⟨N,rfl⟩:∃ N:Nat,n=N:=⟨n.toNat,by omega⟩
 obtain⟨M,rfl⟩:∃ N:Nat,m=N:=⟨m.toNat,by omega⟩
 obtain⟨K,rfl⟩:∃ N:Nat,k=N:=⟨k.toNat,by omega⟩
 rw[Int.toNat_natCast,Int.toNat_natCast,show (N:Int)*(M:Int)*(K:Int)=((N*M*K:Nat):Int) by push_cast;rfl,Int.toNat_natCast] at hQ
 have enm:(N:Int)*(M:Int)=((N*M:Nat):Int):=by push_cast;rfl
 have emk:(M:Int)*(K:Int)=((M*K:Nat):Int):=by push_cast;rfl
 have enk:(N:Int)*(K:Int)=((N*K:Nat):Int):=by push_cast;rfl
 have zijk:N*M*K≤27:=by
  have:=mul_in1 (A:=9) (B:=3) znm zk
  rw[enm,←Int.natCast_mul] at this
  omega
 rw[enm] at znm
 rw[emk] at zmk
 rw[enk] at znk
 refine WF_fn (fn:=c93) rfl rfl ?_
 dsimp only[c93,oO,oM,oS,oG,oK,oE,oL,oF,oX,oN]
 try simp (maxSteps:=3000000) (disch:=first|omega|simp only[lnx];omega) only[↓xpre,xpost,↓reduceIte,reduceEqDiff,reduceAdd,reduceSub,reduceLeDiff,zz0]
 generalize hH1:AH.new h _=H1
 obtain⟨hb1,p1,n1⟩:=new_facts hH1
 try simp (maxSteps:=3000000) (disch:=first|omega|simp only[lnx];omega) only[↓xpre,xpost,↓reduceIte,reduceEqDiff,reduceAdd,reduceSub,reduceLeDiff,zz0,zrep,fillL]
 generalize hH2:AH.new H1 _=H2
 obtain⟨hb2,p2,n2⟩:=new_facts hH2
 try simp (maxSteps:=3000000) (disch:=first|omega|simp only[lnx];omega) only[↓xpre,xpost,↓reduceIte,reduceEqDiff,reduceAdd,reduceSub,reduceLeDiff,zz0,zrep,fillL,wr_all]
 generalize hH3:AH.new H2 _=H3
 obtain⟨hb3,p3,n3⟩:=new_facts hH3
 have w0:WayE (53) .u8 27 H3 H1.length H2.length (.slice (some ⟨H1.length,0,none⟩) 0 27) (stdL M K 0):=⟨fun r hr=>by simp[stdL] at hr,.inr ⟨H1.length,true,rfl,Nat.le_refl _,by omega,pre_get p3 hb2⟩⟩
 refine WC_loop_inv (fun m f K1=>∃ (i:Nat) (sv:Value),m=N-i∧i≤N∧f 1=I64 N∧f 2=I64 M∧f 3=I64 K∧f 8=.pointer (some ⟨h.length,0,none⟩)∧f 9=.pointer (some ⟨H2.length,0,none⟩)∧f 10=I64 i∧(H1<+:K1)∧(H3.length≤K1.length)∧(OwnB K1 H2.length [I64 p,I64 N,I64 M,I64 K,sv] true)∧(WayE (53) .u8 27 K1 H1.length H2.length sv (stdL M K (i*M*K)))) ?_ (N-0) _ _ ⟨0,.slice (some ⟨H1.length,0,none⟩) 0 27,rfl,by omega,(by first|rfl|simp[upd_apply]),(by first|rfl|simp[upd_apply]),(by first|rfl|simp[upd_apply]),(by first|rfl|simp[upd_apply]),(by first|rfl|simp[upd_apply]),(by first|rfl|simp[upd_apply]),p2.trans p3,Nat.le_refl _,⟨_,hb3⟩,(by rw[Nat.zero_mul,Nat.zero_mul];exact w0)⟩
 rintro m f K1 ⟨i,sv,rfl,hi,f1,f2,f3,f8,f9,f10,pp,l1,g,w⟩
 by_cases hla:(i:Int)<N
 ·try simp (maxSteps:=3000000) (disch:=first|omega|simp only[lnx];omega) only[↓xpre,xpost,↓reduceIte,reduceEqDiff,reduceAdd,reduceSub,reduceLeDiff,zz0,f1,f2,f3,f8,f9,f10,decide_eq_true hla]
  refine WC_loop_inv (fun m f K2=>∃ (j:Nat) (sv:Value),m=M-j∧j≤M∧f 1=I64 N∧f 2=I64 M∧f 3=I64 K∧f 8=.pointer (some ⟨h.length,0,none⟩)∧f 9=.pointer (some ⟨H2.length,0,none⟩)∧f 10=I64 i∧f 11=I64 j∧(H1<+:K2)∧(H3.length≤K2.length)∧(OwnB K2 H2.length [I64 p,I64 N,I64 M,I64 K,sv] true)∧(WayE (53) .u8 27 K2 H1.length H2.length sv (stdL M K ((i*M+j)*K)))) ?_ (M-0) _ _ ⟨0,sv,rfl,by omega,(by first|rfl|exact f1|(simp[upd_apply];done)),(by first|rfl|exact f2|(simp[upd_apply];done)),(by first|rfl|exact f3|(simp[upd_apply];done)),(by first|rfl|exact f8|(simp[upd_apply];done)),(by first|rfl|exact f9|(simp[upd_apply];done)),(by first|rfl|exact f10|(simp[upd_apply];done)),(by first|rfl|simp[upd_apply]),pp,l1,g,(by rw[Nat.add_zero];exact w)⟩
  rintro m f K2 ⟨j,sv,rfl,hj,f1,f2,f3,f8,f9,f10,f11,pp,l1,g,w⟩
  by_cases hlb:(j:Int)<M
  ·try simp (maxSteps:=3000000) (disch:=first|omega|simp only[lnx];omega) only[↓xpre,xpost,↓reduceIte,reduceEqDiff,reduceAdd,reduceSub,reduceLeDiff,zz0,f1,f2,f3,f8,f9,f10,f11,decide_eq_true hlb]
   refine WC_loop_inv (fun m f K3=>∃ (l:Nat) (sv:Value),m=K-l∧l≤K∧f 1=I64 N∧f 2=I64 M∧f 3=I64 K∧f 8=.pointer (some ⟨h.length,0,none⟩)∧f 9=.pointer (some ⟨H2.length,0,none⟩)∧f 10=I64 i∧f 11=I64 j∧f 12=I64 l∧(H1<+:K3)∧(H3.length≤K3.length)∧(OwnB K3 H2.length [I64 p,I64 N,I64 M,I64 K,sv] true)∧(WayE (53) .u8 27 K3 H1.length H2.length sv (stdL M K ((i*M+j)*K+l)))) ?_ (K-0) _ _ ⟨0,sv,rfl,by omega,(by first|rfl|exact f1|(simp[upd_apply];done)),(by first|rfl|exact f2|(simp[upd_apply];done)),(by first|rfl|exact f3|(simp[upd_apply];done)),(by first|rfl|exact f8|(simp[upd_apply];done)),(by first|rfl|exact f9|(simp[upd_apply];done)),(by first|rfl|exact f10|(simp[upd_apply];done)),(by first|rfl|exact f11|(simp[upd_apply];done)),(by first|rfl|simp[upd_apply]),pp,l1,g,w⟩
   rintro m f K3 ⟨l,sv,rfl,hl,f1,f2,f3,f8,f9,f10,f11,f12,pp,l1,g,w⟩
   by_cases hlc:(l:Int)<K
   ·have m1:i*M+M≤N*M:=mul_row (by omega)
    have m2:(i*M+j)*K+K≤N*M*K:=mul_row (by omega)
    have m3:j*K+K≤M*K:=mul_row (by omega)
    have m4:i*K+K≤N*K:=mul_row (by omega)
    have e1:(i:Int)*(M:Int)=((i*M:Nat):Int):=by push_cast;rfl
    have e2:((i*M:Nat):Int)+(j:Int)=((i*M+j:Nat):Int):=by push_cast;rfl
    have e3:(j:Int)*(K:Int)=((j*K:Nat):Int):=by push_cast;rfl
    have e4:((j*K:Nat):Int)+(l:Int)=((j*K+l:Nat):Int):=by push_cast;rfl
    have e5:(i:Int)*(K:Int)=((i*K:Nat):Int):=by push_cast;rfl
    have e6:((i*K:Nat):Int)+(l:Int)=((i*K+l:Nat):Int):=by push_cast;rfl
    have lt27:(i*M+j)*K+l<27:=by omega
    obtain⟨eg,hg⟩:=g
    have hgn:∀ b,(AH.new K3 b).get H2.length=some ⟨[I64 p,I64 N,I64 M,I64 K,sv],eg,false,true⟩:=fun b=>get_new_any hg
    have w2:∀ e:TypeId,(K3.new ⟨cel .u8 (List.replicate 27 0),e,false,true⟩).wr K3.length (i*M+j) [.int .u8 1]=_:=fun e=>wr_set1 (by rw[List.length_replicate];omega)
    have w3:∀ e:TypeId,(K3.new ⟨cel .u8 ((List.replicate 27 0).set (i*M+j) 1),e,false,true⟩).wr K3.length (9+(j*K+l)) [.int .u8 1]=_:=fun e=>wr_set1 (by rw[List.length_set,List.length_replicate];omega)
    have w4:∀ e:TypeId,(K3.new ⟨cel .u8 (((List.replicate 27 0).set (i*M+j) 1).set (9+(j*K+l)) 1),e,false,true⟩).wr K3.length (18+(i*K+l)) [.int .u8 1]=_:=fun e=>wr_set1 (by rw[List.length_set,List.length_set,List.length_replicate];omega)
    rw[un27_set (by omega) (by omega) (by omega)] at w4
    have r1:∀ e:TypeId,(K3.new ⟨cel .u8 (un27 (i*M+j) (j*K+l) (i*K+l)),e,false,true⟩).rdn K3.length 0 27=some (cel .u8 (un27 (i*M+j) (j*K+l) (i*K+l))):=fun e=>by
     rw[rdn_new_same,if_pos (by simp only[cel_len,un27_len];omega),List.drop_zero,List.take_of_length_le (by rw[cel_len,un27_len];omega)]
    have sp1:=splice_27 (q:=un27 (i*M+j) (j*K+l) (i*K+l)) un27_len
    ((try simp (maxSteps:=3000000) (dsimp:=false) (disch:=first|omega|simp only[lnx];omega) only[↓ypre,ypost,↓reduceIte,reduceEqDiff,reduceAdd,reduceSub,reduceLeDiff,zz0,f1,f2,f3,f8,f9,f10,f11,f12,decide_eq_true hlc,wr_27,e1,e2,e3,e4,e5,e6,wrap64_in,ixaV_ptr,Int.toNat_natCast,Nat.mul_one,w2,w3,w4,r1,sp1,cel_all,cel_len,un27_len,rd1_of (hgn _)]);try simp only[yback])
    generalize hK4:AH.new K3 _=K4
    obtain⟨hb4,p4,n4⟩:=new_facts hK4
    refine (w.pre p4).app un27_len (by rw[stdL_len];omega) (by rw[stdL_len];omega) (by omega) (by omega) fun sv' H' l' pre' _ own' w'=>?_
    obtain⟨e5,g5⟩:=own' _ _ ⟨eg,pre_get p4 hg⟩
    have lt5:=get_lt g5
    ((try simp (maxSteps:=3000000) (dsimp:=false) (disch:=first|omega|simp only[lnx];omega) only[↓ypre,ypost,↓reduceIte,reduceEqDiff,reduceAdd,reduceSub,reduceLeDiff,zz0,ynew,f1,f2,f3,f8,f9,f10,f11,f12,w'.one,w'.cells,wr_of g5,wrap64_in]);try simp only[yback])
    have lts:=lt27
    refine InvQ_go (K-(l+1)) (by omega) ⟨(l+1),sv',rfl,by omega,(by first|rfl|exact f1|(simp only[upd_apply];rfl)|(show I64 _=_;congr 1;omega)),(by first|rfl|exact f2|(simp only[upd_apply];rfl)|(show I64 _=_;congr 1;omega)),(by first|rfl|exact f3|(simp only[upd_apply];rfl)|(show I64 _=_;congr 1;omega)),(by first|rfl|exact f8|(simp only[upd_apply];rfl)|(show I64 _=_;congr 1;omega)),(by first|rfl|exact f9|(simp only[upd_apply];rfl)|(show I64 _=_;congr 1;omega)),(by first|rfl|exact f10|(simp only[upd_apply];rfl)|(show I64 _=_;congr 1;omega)),(by first|rfl|exact f11|(simp only[upd_apply];rfl)|(show I64 _=_;congr 1;omega)),(by first|rfl|exact f12|(simp only[upd_apply];rfl)|(show I64 _=_;congr 1;omega)),(pre_put (pre' _ (Nat.le_refl _) (pp.trans p4)) (by omega)),(by rw[len_put];omega),⟨_,get_put_same lt5⟩,(by have:=w'.put (b:=⟨[I64 p,I64 N,I64 M,I64 K,sv'],e5,false,true⟩);rw[←stdG_at (by omega) (by omega)] at this;exact this)⟩
   ·have ec:l=K:=by omega
    subst ec
    try simp (maxSteps:=3000000) (disch:=first|omega|simp only[lnx];omega) only[↓xpre,xpost,↓reduceIte,reduceEqDiff,reduceAdd,reduceSub,reduceLeDiff,zz0,f1,f2,f3,f8,f9,f10,f11,f12,decide_eq_false hlc,wrap64_in]
    refine InvQ_go (M-(j+1)) (by omega) ⟨(j+1),sv,rfl,by omega,(by first|rfl|exact f1|(simp only[upd_apply];rfl)|(show I64 _=_;congr 1;omega)),(by first|rfl|exact f2|(simp only[upd_apply];rfl)|(show I64 _=_;congr 1;omega)),(by first|rfl|exact f3|(simp only[upd_apply];rfl)|(show I64 _=_;congr 1;omega)),(by first|rfl|exact f8|(simp only[upd_apply];rfl)|(show I64 _=_;congr 1;omega)),(by first|rfl|exact f9|(simp only[upd_apply];rfl)|(show I64 _=_;congr 1;omega)),(by first|rfl|exact f10|(simp only[upd_apply];rfl)|(show I64 _=_;congr 1;omega)),(by first|rfl|exact f11|(simp only[upd_apply];rfl)|(show I64 _=_;congr 1;omega)),pp,l1,g,(by rw[show (i*M+(j+1))*l=(i*M+j)*l+l by rw[←Nat.add_assoc,Nat.succ_mul]];exact w)⟩
  ·have eb:j=M:=by omega
   subst eb
   try simp (maxSteps:=3000000) (disch:=first|omega|simp only[lnx];omega) only[↓xpre,xpost,↓reduceIte,reduceEqDiff,reduceAdd,reduceSub,reduceLeDiff,zz0,f1,f2,f3,f8,f9,f10,f11,decide_eq_false hlb,wrap64_in]
   refine InvQ_go (N-(i+1)) (by omega) ⟨(i+1),sv,rfl,by omega,(by first|rfl|exact f1|(simp only[upd_apply];rfl)|(show I64 _=_;congr 1;omega)),(by first|rfl|exact f2|(simp only[upd_apply];rfl)|(show I64 _=_;congr 1;omega)),(by first|rfl|exact f3|(simp only[upd_apply];rfl)|(show I64 _=_;congr 1;omega)),(by first|rfl|exact f8|(simp only[upd_apply];rfl)|(show I64 _=_;congr 1;omega)),(by first|rfl|exact f9|(simp only[upd_apply];rfl)|(show I64 _=_;congr 1;omega)),(by first|rfl|exact f10|(simp only[upd_apply];rfl)|(show I64 _=_;congr 1;omega)),pp,l1,g,(by rw[Nat.succ_mul];exact w)⟩
 ·have ea:i=N:=by omega
  subst ea
  obtain⟨e6,g6⟩:=g
  have hb1K:=pre_get pp hb1
  have lt2:=get_lt hb1K
  try simp (maxSteps:=3000000) (disch:=first|omega|simp only[lnx];omega) only[↓xpre,xpost,↓reduceIte,reduceEqDiff,reduceAdd,reduceSub,reduceLeDiff,zz0,f1,f2,f3,f8,f9,f10,decide_eq_false hla,rdn_of g6,wr_of hb1K]
  exact⟨w.one,hQ sv _ (pre_put (p1.trans pp) (Nat.le_refl _)) ⟨(w.putb (by omega)).inE.mono (by omega) (Nat.le_refl _),stdL_byt⟩⟩
theorem sp27 {a b c:List Int} (ha:a.length=9) (hb:b.length=9) (hc:c.length=9) :
  (splice (cel .u8 (List.replicate 27 0)) 0 (cel .u8 a)).length=27∧(splice (splice (cel .u8 (List.replicate 27 0)) 0 (cel .u8 a)) 9 (cel .u8 b)).length=27 ∧
  splice (splice (splice (cel .u8 (List.replicate 27 0)) 0 (cel .u8 a)) 9 (cel .u8 b)) 18 (cel .u8 c)=cel .u8 (a++b++c):=by
 have l27:(cel .u8 (List.replicate 27 0)).length=27:=rfl
 have s1:(splice (cel .u8 (List.replicate 27 0)) 0 (cel .u8 a)).length=27:=by rw[splice_lenW (by rw[cel_len,ha,l27];omega),l27]
 have s2:(splice (splice (cel .u8 (List.replicate 27 0)) 0 (cel .u8 a)) 9 (cel .u8 b)).length=27:=by rw[splice_lenW (by rw[cel_len,hb,s1];omega),s1]
 refine⟨s1,s2,?_⟩
 rw[cel_splice,cel_splice,cel_splice]
 congr 1
 have h0:(List.replicate 27 (0:Int)).length=27:=rfl
 generalize List.replicate 27 (0:Int)=o at h0
 simp[List.take_append,List.drop_append,ha,hb,hc,h0,List.take_of_length_le,List.drop_of_length_le]
section
variable {a b c:List Int}
theorem seg_0 (ha:a.length=9):seg (a++b++c) 0=a:=by simp[seg,ha,List.append_assoc]
theorem seg_1 (ha:a.length=9) (hb:b.length=9):seg (a++b++c) 1=b:=by
 unfold seg
 rw[List.append_assoc,List.drop_append,List.drop_of_length_le (by omega),ha]
 simp[hb]
theorem seg_2 (ha:a.length=9) (hb:b.length=9) (hc:c.length=9):seg (a++b++c) 2=c:=by
 unfold seg
 rw[List.drop_append,List.drop_of_length_le (by simp[ha,hb]),List.length_append,ha,hb]
 simp[hc,List.take_of_length_le]
theorem by_27 (ha:By 9 a) (hb:By 9 b) (hc:By 9 c):By 27 (a++b++c):=by
 refine⟨by simp[ha.1,hb.1,hc.1],fun j hj=>?_⟩
 by_cases h1:j<9
 ·rw[List.append_assoc,getD_app_l (by rw[ha.1];exact h1)]
  exact ha.2 j h1
 ·by_cases h2:j<18
  ·rw[getD_app_l (by simp[ha.1,hb.1];omega),getD_app_r (by rw[ha.1];omega),ha.1]
   exact hb.2 _ (by omega)
  ·rw[getD_app_r (by simp[ha.1,hb.1];omega)]
   simp only[List.length_append,ha.1,hb.1]
   exact hc.2 _ (by omega)
end
theorem okProd_of {x:Sch} {a b c:List Int} (fa:FQ x.p (pl x 0) a) (fb:FQ x.p (pl x 1) b) (fc:FQ x.p (pl x 2) c) (za:isZ a=false) (zb:isZ b=false) (zc:isZ c=false):okProd x (a++b++c)=true:=by
 unfold okProd hasZ
 rw[seg_0 fa.1.1,seg_1 fa.1.1 fb.1.1,seg_2 fa.1.1 fb.1.1 fc.1.1,fa.2,fb.2,fc.2,za,zb,zc]
 rfl
theorem s_l01DrawOf {h0 h:AH} {n:Nat} {x:Sch} {v:Value} {Q:Value→AH→Prop} (s:Src h0 h n) (z:SZ x) (hv:isOne v=true)
  (hQ:∀ q h',Kp n h h'→Src h0 h' n→By 27 q→okProd x q=true→Q (aggV .u8 q) h'):WF S 86 [srcP n,schV x v] h Q:=by
 refine WF_fn (fn:=c86) rfl rfl ?_
 dsimp only[c86,oO,oM,oS,oG,oK,oE,oL,oF,oX,oN]
 have lt:=s.lt
 have l0:=pre_len s.p
 have znm:=z.nm
 have zmk:=z.mk2
 have znk:=z.nk
 obtain⟨A,hA⟩:∃ A:Nat,x.n*x.m=A:=⟨(x.n*x.m).toNat,by omega⟩
 obtain⟨B,hB⟩:∃ B:Nat,x.m*x.k=B:=⟨(x.m*x.k).toNat,by omega⟩
 obtain⟨C,hC⟩:∃ C:Nat,x.n*x.k=C:=⟨(x.n*x.k).toNat,by omega⟩
 ((try simp (maxSteps:=3000000) (dsimp:=false) (disch:=first|omega|simp only[lnx];omega) only[↓ypre,ypost,↓reduceIte,reduceEqDiff,reduceAdd,reduceSub,reduceLeDiff,zz0,ynew,schV,hv,zeros27]);try simp only[yback])
 generalize hH1:AH.new h _=H1
 obtain⟨hb1,p1,n1⟩:=new_facts hH1
 generalize hH2:AH.new H1 _=H2
 obtain⟨hb2,p2,n2⟩:=new_facts hH2
 have hb1:=pre_get p2 hb1
 ((try simp (maxSteps:=3000000) (dsimp:=false) (disch:=first|omega|simp only[lnx];omega) only[↓ypre,ypost,↓reduceIte,reduceEqDiff,reduceAdd,reduceSub,reduceLeDiff,zz0,ynew,rdn_of hb1,List.length_cons,List.length_nil,List.drop_zero,List.take_succ_cons,List.take_nil]);try simp only[yback])
 refine s_l01Lengths hv z fun H3 p3=>?_
 have k3:Kp n h H3:=Kp.of ((p1.trans p2).trans p3)
 have s3:Src h0 H3 n:=s.kp ((p1.trans p2).trans p3)
 have g1:=pre_get p3 hb1
 have g2:=pre_get p3 hb2
 rw[hA,hB,hC]
 ((try simp (maxSteps:=3000000) (dsimp:=false) (disch:=first|omega|simp only[lnx];omega) only[↓ypre,ypost,↓reduceIte,reduceEqDiff,reduceAdd,reduceSub,reduceLeDiff,zz0,ynew,rd1_of g1]);try simp only[yback])
 refine s_l01DrawForm s3 z.p (by omega) fun a H4 k4 s4 fa za=>?_
 have g1:=k4.get (by omega) g1
 have g2:=k4.get (by omega) g2
 ((try simp (maxSteps:=3000000) (dsimp:=false) (disch:=first|omega|simp only[lnx];omega) only[↓ypre,ypost,↓reduceIte,reduceEqDiff,reduceAdd,reduceSub,reduceLeDiff,zz0,ynew,rd1_of g1]);try simp only[yback])
 refine⟨k4,by omega,?_⟩
 refine s_l01DrawForm s4 z.p (by omega) fun b H5 k5 s5 fb zb=>?_
 have g1:=k5.get (by omega) g1
 have g2:=k5.get (by omega) g2
 ((try simp (maxSteps:=3000000) (dsimp:=false) (disch:=first|omega|simp only[lnx];omega) only[↓ypre,ypost,↓reduceIte,reduceEqDiff,reduceAdd,reduceSub,reduceLeDiff,zz0,ynew,rd1_of g1]);try simp only[yback])
 refine⟨k5,by omega,?_⟩
 refine s_l01DrawForm s5 z.p (by omega) fun c H6 k6 s6 fc zc=>?_
 have g2:=k6.get (by omega) g2
 have ha:=fa.1.1
 have hb:=fb.1.1
 have hc:=fc.1.1
 have lf:(a++b++c).length=27:=by simp[ha,hb,hc]
 have w5:=wr_full (vs:=cel .u8 (a++b++c)) g2 (by rw[cel_len,lf];rfl)
 have tk:(cel .u8 (a++b++c)).take 27=cel .u8 (a++b++c):=List.take_of_length_le (by rw[cel_len,lf];exact Nat.le_refl _)
 have lg:=get_lt g2
 obtain⟨sp1,sp2,sp3⟩:=sp27 ha hb hc
 ((try simp (maxSteps:=3000000) (dsimp:=false) (disch:=first|omega|simp only[lnx];omega) only[↓ypre,ypost,↓reduceIte,reduceEqDiff,reduceAdd,reduceSub,reduceLeDiff,zz0,ynew,aggV,zeros27,ha,hb,hc,List.length_replicate,sp1,sp2,sp3,cel_all,cel_len,lf,w5,rdn_put_same,tk]);try simp only[yback])
 refine hQ _ _ (Kp.putb (m:=H1.length) ((k3.trans (k4.trans k5)).trans k6) (by omega)) (Src.putb (m:=H1.length) s6 (by omega) (by omega)) (by_27 fa.1 fb.1 fc.1) (okProd_of ?_ ?_ ?_ za zb zc)
 ·show FQ x.p (x.n*x.m) a
  rw[hA];exact fa
 ·show FQ x.p (x.m*x.k) b
  rw[hB];exact fb
 ·show FQ x.p (x.n*x.k) c
  rw[hC];exact fc
theorem sz_of {n:Int} (h:n=1∨n=2∨n=3):sz n=true:=by
 rcases h with rfl|rfl|rfl<;>rfl
theorem isP_of {p:Int} (h:p=2∨p=3∨p=5):isP p=true:=by
 rcases h with rfl|rfl|rfl<;>rfl
theorem s_l01DrawSizes {h0 h:AH} {n:Nat} {Q:Value→AH→Prop} (s:Src h0 h n)
  (hQ:∀ (p a b c:Int) (nb:Nat) h',Kp n h h'→Src h0 h' n→h.length≤nb→h'.get nb=some ⟨[],53,false,true⟩→(p=2∨p=3∨p=5)→(a=1∨a=2∨a=3)→(b=1∨b=2∨b=3)→(c=1∨c=2∨c=3) →
   Q (schV ⟨p,a,b,c,[]⟩ (.slice (some ⟨nb,0,none⟩) 0 27)) h'):WF S 91 [srcP n] h Q:=by
 refine WF_fn (fn:=c91) rfl rfl ?_
 dsimp only[c91,oO,oM,oS,oG,oK,oE,oL,oF,oX,oN]
 have lt:=s.lt
 have l0:=pre_len s.p
 ((try simp (maxSteps:=3000000) (dsimp:=false) (disch:=first|omega|simp only[lnx];omega) only[↓ypre,ypost,↓reduceIte,reduceEqDiff,reduceAdd,reduceSub,reduceLeDiff,zz0,ynew]);try simp only[yback])
 generalize hH1:AH.new h _=H1
 obtain⟨hb1,p1,n1⟩:=new_facts hH1
 ((try simp (maxSteps:=3000000) (dsimp:=false) (disch:=first|omega|simp only[lnx];omega) only[↓ypre,ypost,↓reduceIte,reduceEqDiff,reduceAdd,reduceSub,reduceLeDiff,zz0,ynew,fillL,zrep]);try simp only[yback])
 generalize hH2:AH.new H1 _=H2
 obtain⟨hb2,p2,n2⟩:=new_facts hH2
 have kv:=kp_new (n:=n) (ns:=[2,2,2,3,5]) hH2 (by omega)
 refine s_l01Pick (s.kp (p1.trans p2)) kv (by simp) (by simp) fun j H3 k3 l3 s3 hj=>?_
 have hp:([2,2,2,3,5]:List Int).getD j 0=2∨([2,2,2,3,5]:List Int).getD j 0=3∨([2,2,2,3,5]:List Int).getD j 0=5:=by
  simp at hj
  have:j=0∨j=1∨j=2∨j=3∨j=4:=by omega
  rcases this with rfl|rfl|rfl|rfl|rfl<;>simp
 generalize ([2,2,2,3,5]:List Int).getD j 0=p at hp
 have g1:=k3.get (by omega) (pre_get p2 hb1)
 ((try simp (maxSteps:=3000000) (dsimp:=false) (disch:=first|omega|simp only[lnx];omega) only[↓ypre,ypost,↓reduceIte,reduceEqDiff,reduceAdd,reduceSub,reduceLeDiff,zz0,ynew,fillL,zrep]);try simp only[yback])
 generalize hH4:AH.new H3 _=H4
 obtain⟨hb4,p4,n4⟩:=new_facts hH4
 ((try simp (maxSteps:=3000000) (dsimp:=false) (disch:=first|omega|simp only[lnx];omega) only[↓ypre,ypost,↓reduceIte,reduceEqDiff,reduceAdd,reduceSub,reduceLeDiff,zz0,ynew,fillL,zrep]);try simp only[yback])
 generalize hH5:AH.new H4 _=H5
 obtain⟨hb5,p5,n5⟩:=new_facts hH5
 have k5:Kp n h H5:=(Kp.of (p1.trans p2)).trans (k3.trans (Kp.of (p4.trans p5)))
 have s5:Src h0 H5 n:=s3.kp (p4.trans p5)
 have g1:=pre_get (p4.trans p5) g1
 have g4:=pre_get p5 hb4
 have g5:=hb5
 have fin:∀ (a b c:Int) (h':AH),Kp n h h'→Src h0 h' n→h'.get h.length=some ⟨[.int .i64 0,.int .i64 0,.int .i64 0,.int .i64 0,.slice none 0 0],26,false,true⟩→h'.get H3.length=some ⟨[],53,false,true⟩ →
   (a=1∨a=2∨a=3)→(b=1∨b=2∨b=3)→(c=1∨c=2∨c=3) →
   Q (schV ⟨p,a,b,c,[]⟩ (.slice (some ⟨H3.length,0,none⟩) 0 27)) (h'.put h.length ⟨[I64 p,I64 a,I64 b,I64 c,.slice (some ⟨H3.length,0,none⟩) 0 27],26,false,true⟩):=fun a b c h' kk ss gg g4 ha hb hc=>
  hQ p a b c H3.length _ (kk.putb (Nat.le_refl _)) (ss.putb (by omega) (by omega)) (by omega) (by rw[get_put_ne (by omega)];exact g4) hp ha hb hc
 have pick3:∀ j,j<([1,2,3]:List Int).length→(([1,2,3]:List Int).getD j 0=1∨([1,2,3]:List Int).getD j 0=2∨([1,2,3]:List Int).getD j 0=3):=fun j hj=>by
  simp at hj
  have:j=0∨j=1∨j=2:=by omega
  rcases this with rfl|rfl|rfl<;>simp
 ((try simp (maxSteps:=3000000) (dsimp:=false) (disch:=first|omega|simp only[lnx];omega) only[↓ypre,ypost,↓reduceIte,reduceEqDiff,reduceAdd,reduceSub,reduceLeDiff,zz0,ynew]);try simp only[yback])
 refine s_l01Next s5 fun r H6 k6 l6 s6 hr _=>?_
 have g1:=k6.get (by omega) g1
 have g4:=k6.get (by omega) g4
 have g5:=k6.get (by omega) g5
 by_cases h0':r=0
 case neg=>
  have lg:=get_lt g1
  ((try simp (maxSteps:=3000000) (dsimp:=false) (disch:=first|omega|simp only[lnx];omega) only[↓ypre,ypost,↓reduceIte,reduceEqDiff,reduceAdd,reduceSub,reduceLeDiff,zz0,ynew,decide_eq_false h0',rdn_of g5,wr_of g1,splice_eq,rdn_put_same]);try simp only[yback])
  exact fin 2 2 2 H6 (k5.trans k6) s6 g1 g4 (by omega) (by omega) (by omega)
 ((try simp (maxSteps:=3000000) (dsimp:=false) (disch:=first|omega|simp only[lnx];omega) only[↓ypre,ypost,↓reduceIte,reduceEqDiff,reduceAdd,reduceSub,reduceLeDiff,zz0,ynew,decide_eq_true h0',fillL,zrep]);try simp only[yback])
 generalize hH7:AH.new H6 _=H7
 obtain⟨hb7,p7,n7⟩:=new_facts hH7
 have kv:=kp_new (n:=n) (ns:=[1,2,3]) hH7 (by omega)
 refine s_l01Pick (s6.kp p7) kv (by simp) (by simp) fun j1 H8 k8 l8 s8 hj1=>?_
 have ha:=pick3 j1 hj1
 generalize ([1,2,3]:List Int).getD j1 0=a at ha
 have g1:=k8.get (by omega) (pre_get p7 g1)
 have g4:=k8.get (by omega) (pre_get p7 g4)
 have g5:=k8.get (by omega) (pre_get p7 g5)
 have k8':Kp n h H8:=(k5.trans k6).trans ((Kp.of p7).trans k8)
 ((try simp (maxSteps:=3000000) (dsimp:=false) (disch:=first|omega|simp only[lnx];omega) only[↓ypre,ypost,↓reduceIte,reduceEqDiff,reduceAdd,reduceSub,reduceLeDiff,zz0,ynew,wr_of g5,splice_eq]);try simp only[yback])
 generalize hH9:AH.put H8 _ _=H9
 obtain⟨q9,l9,o9,u9⟩:=put_facts hH9
 have k9:=u9 _ _ k8' (by omega)
 have s9:=s8.put hH9 (by omega) (by omega)
 have g1:=q9 _ _ (by omega) g1
 have g4:=q9 _ _ (by omega) g4
 have g5':=o9 (get_lt g5)
 ((try simp (maxSteps:=3000000) (dsimp:=false) (disch:=first|omega|simp only[lnx];omega) only[↓ypre,ypost,↓reduceIte,reduceEqDiff,reduceAdd,reduceSub,reduceLeDiff,zz0,ynew,fillL,zrep]);try simp only[yback])
 generalize hH7:AH.new H9 _=HA
 obtain⟨hbA,pA,nA⟩:=new_facts hH7
 have kv:=kp_new (n:=n) (ns:=[1,2,3]) hH7 (by have:=s9.lt;omega)
 refine s_l01Pick (s9.kp pA) kv (by simp) (by simp) fun j2 HB kB lB sB hj2=>?_
 have hb:=pick3 j2 hj2
 generalize ([1,2,3]:List Int).getD j2 0=b at hb
 have g1:=kB.get (by omega) (pre_get pA g1)
 have g4:=kB.get (by omega) (pre_get pA g4)
 have g5:=kB.get (by omega) (pre_get pA g5')
 have kB':Kp n h HB:=k9.trans ((Kp.of pA).trans kB)
 ((try simp (maxSteps:=3000000) (dsimp:=false) (disch:=first|omega|simp only[lnx];omega) only[↓ypre,ypost,↓reduceIte,reduceEqDiff,reduceAdd,reduceSub,reduceLeDiff,zz0,ynew,wr_of g5,splice_eq]);try simp only[yback])
 generalize hHC:AH.put HB _ _=HC
 obtain⟨qC,lC,oC,uC⟩:=put_facts hHC
 have kC:=uC _ _ kB' (by omega)
 have sC:=sB.put hHC (by omega) (by omega)
 have g1:=qC _ _ (by omega) g1
 have g4:=qC _ _ (by omega) g4
 have g5':=oC (get_lt g5)
 ((try simp (maxSteps:=3000000) (dsimp:=false) (disch:=first|omega|simp only[lnx];omega) only[↓ypre,ypost,↓reduceIte,reduceEqDiff,reduceAdd,reduceSub,reduceLeDiff,zz0,ynew,fillL,zrep]);try simp only[yback])
 generalize hH7:AH.new HC _=HD
 obtain⟨hbD,pD,nD⟩:=new_facts hH7
 have kv:=kp_new (n:=n) (ns:=[1,2,3]) hH7 (by have:=sC.lt;omega)
 refine s_l01Pick (sC.kp pD) kv (by simp) (by simp) fun j3 HE kE lE sE hj3=>?_
 have hc:=pick3 j3 hj3
 generalize ([1,2,3]:List Int).getD j3 0=c at hc
 have g1:=kE.get (by omega) (pre_get pD g1)
 have g4:=kE.get (by omega) (pre_get pD g4)
 have g5:=kE.get (by omega) (pre_get pD g5')
 have kE':Kp n h HE:=kC.trans ((Kp.of pD).trans kE)
 have lg:=get_lt g1
 have lg5:=get_lt g5
 ((try simp (maxSteps:=3000000) (dsimp:=false) (disch:=first|omega|simp only[lnx];omega) only[↓ypre,ypost,↓reduceIte,reduceEqDiff,reduceAdd,reduceSub,reduceLeDiff,zz0,ynew,wr_of g5,wr_of g1,splice_eq,rdn_put_same]);try simp only[yback])
 exact hQ p a b c H3.length _ ((kE'.putb (m:=h.length) (Nat.le_refl _)).putb (m:=H4.length) (by omega)) ((sE.putb (m:=h.length) (by omega) (by omega)).putb (m:=H4.length) (by omega) (by omega)) (by omega) (by rw[get_put_ne (by omega),get_put_ne (by omega)];exact g4) hp ha hb hc
def stra (m:Int):List (List Int):=[[1,0,0,1,0,0,0,0,0,1,0,0,1,0,0,0,0,0,1,0,0,1,0,0,0,0,0],
 [0,0,1,1,0,0,0,0,0,1,0,0,0,0,0,0,0,0,0,0,1,m,0,0,0,0,0],
 [1,0,0,0,0,0,0,0,0,0,1,0,m,0,0,0,0,0,0,1,0,1,0,0,0,0,0],
 [0,0,0,1,0,0,0,0,0,m,0,1,0,0,0,0,0,0,1,0,1,0,0,0,0,0,0],
 [1,1,0,0,0,0,0,0,0,0,0,0,1,0,0,0,0,0,m,1,0,0,0,0,0,0,0],
 [m,0,1,0,0,0,0,0,0,1,1,0,0,0,0,0,0,0,0,0,0,1,0,0,0,0,0],
 [0,1,0,m,0,0,0,0,0,0,0,1,1,0,0,0,0,0,1,0,0,0,0,0,0,0,0]]
theorem app_zeroW {e:TypeId} {w bytes:Nat} {h:AH} {k n' off m:Nat} {news:List Value} {full:Bool} (hk:h.get k=some ⟨[],e,false,full⟩) (hn:h.rdn n' off (m*w)=some news) (hm:0<m)
  (hs:(m:Int)*bytes≤140737488355328∧(m:Int)≤9223372036854775807) :
  appV e w bytes (.slice (some ⟨k,0,none⟩) 0 w) (.slice (some ⟨n',off,none⟩) m w) h=some (.slice (some ⟨h.length,0,none⟩) m w,(h.kill k).new ⟨news,e,false,false⟩):=by
 simp only[appV,xop,ev,if_true,hn,hk]
 rw[if_pos (by simpa using hs),if_neg (by omega)]
 simp
theorem s_l01Strassen {h:AH} {p:Int} {Q:Value→AH→Prop} (hp:2≤p∧p≤5)
  (hQ:∀ (nb:Nat) (h':AH),h<+:h'→h.length≤nb→h'.get nb=some ⟨cel .u8 (stra (p-1)).flatten,53,false,false⟩→Q (schV ⟨p,2,2,2,stra (p-1)⟩ (.slice (some ⟨nb,0,none⟩) 7 27)) h'):WF S 92 [I64 p] h Q:=by
 refine WF_fn (fn:=c92) rfl rfl ?_
 dsimp only[c92,oO,oM,oS,oG,oK,oE,oL,oF,oX,oN]
 ((try simp (maxSteps:=3000000) (dsimp:=false) (disch:=first|omega|simp only[lnx];omega) only[↓ypre,ypost,↓reduceIte,reduceEqDiff,reduceAdd,reduceSub,reduceLeDiff,zz0,ynew]);try simp only[yback])
 generalize hH1:AH.new h _=H1
 obtain⟨hb1,p1,n1⟩:=new_facts hH1
 ((try simp (maxSteps:=3000000) (dsimp:=false) (disch:=first|omega|simp only[lnx];omega) only[↓ypre,ypost,↓reduceIte,reduceEqDiff,reduceAdd,reduceSub,reduceLeDiff,zz0,ynew,fillL,zrep]);try simp only[yback])
 generalize hH2:AH.new H1 _=H2
 obtain⟨hb2,p2,n2⟩:=new_facts hH2
 ((try simp (maxSteps:=3000000) (dsimp:=false) (disch:=first|omega|simp only[lnx];omega) only[↓ypre,ypost,↓reduceIte,reduceEqDiff,reduceAdd,reduceSub,reduceLeDiff,zz0,ynew,fillL,zrep]);try simp only[yback])
 generalize hH3:AH.new H2 _=H3
 obtain⟨hb3,p3,n3⟩:=new_facts hH3
 ((try simp (maxSteps:=3000000) (dsimp:=false) (disch:=first|omega|simp only[lnx];omega) only[↓ypre,ypost,↓reduceIte,reduceEqDiff,reduceAdd,reduceSub,reduceLeDiff,zz0,ynew,wrap64_in,wrap8_in,rd1_of hb3,zrep,fillL]);try simp only[yback])
 generalize hH4:AH.new H3 _=H4
 obtain⟨hb4,p4,n4⟩:=new_facts hH4
 have hb4:H4.get H3.length=some ⟨cel .u8 (stra (p-1)).flatten,53,false,true⟩:=hb4
 have g2:=pre_get (p3.trans p4) hb2
 have g3:=pre_get p4 hb3
 have g1:=pre_get (p2.trans (p3.trans p4)) hb1
 have l189:(cel .u8 (stra (p-1)).flatten).length=189:=rfl
 have rd:H4.rdn H3.length 0 (7*27)=some (cel .u8 (stra (p-1)).flatten):=by
  rw[rdn_of hb4]
  rfl
 rw[app_zeroW g2 rd (by omega) (by omega),OQ_some]
 generalize hH5:AH.new _ _=H5
 have k5:∀ m b,m≠H1.length→H4.get m=some b→H5.get m=some b:=fun m b hm g=>by
  rw[←hH5]
  exact get_new_any (by rw[get_kill_ne (Ne.symm hm)];exact g)
 have g5:H5.get H4.length=some ⟨cel .u8 (stra (p-1)).flatten,53,false,false⟩:=by
  rw[←hH5]
  exact get_new_eq (by rw[len_kill])
 have l5:H5.length=H4.length+1:=by rw[←hH5,len_new,len_kill]
 have q5:h<+:H5:=by
  rw[←hH5]
  exact pre_new (pre_kill (p1.trans (p2.trans (p3.trans p4))) (by omega))
 have g3:=k5 _ _ (by omega) g3
 have g1:=k5 _ _ (by omega) g1
 have lg:=get_lt g1
 have lg3:=get_lt g3
 ((try simp (maxSteps:=3000000) (dsimp:=false) (disch:=first|omega|simp only[lnx];omega) only[↓ypre,ypost,↓reduceIte,reduceEqDiff,reduceAdd,reduceSub,reduceLeDiff,zz0,ynew,wr_of g3,wr_of g1,splice_eq,rdn_put_same]);try simp only[yback])
 exact hQ H4.length _ (pre_put (pre_put q5 (Nat.le_refl _)) (by omega)) (by omega) (by rw[get_put_ne (by omega),get_put_ne (by omega)];exact g5)
end Go.Proofs.YtigpfopobpoamaaGreat.X

set_option linter.unusedVariables false
set_option linter.unusedSimpArgs false
set_option maxRecDepth 20000
set_option maxHeartbeats 4000000
namespace Go.Proofs.YtigpfopobpoamaaGreat.X
open Go Go.RowKit
section
variable {n m:Nat} {h0 h h' h'':AH}
theorem Kp.over (k:Kp n h h') (d:Kp m h' h'') (hm:h.length≤m):Kp n h h'':=⟨Nat.le_trans k.1 d.1,fun j hj hn=>(d.2 j (Nat.lt_of_lt_of_le hj k.1) (by omega)).trans (k.2 j hj hn)⟩
theorem Src.over (s:Src h0 h' n) (d:Kp m h' h'') (hm:m≠n) (hl:h0.length≤m):Src h0 h'' n:=s.keep (d.pre s.p hl) fun _ g=>d.get (Ne.symm hm) g
end
theorem app_kp {e:TypeId} {k:IntKind} {w bytes nb:Nat} {L:List (List Int)} {q:List Int} {full ro fu:Bool} {H:AH} {e':TypeId} (hk:H.get nb=some ⟨cel k L.flatten,e,false,full⟩) (hw:Wid w L) (hq:q.length=w)
  (hl:((L.length:Int)+1)*bytes≤140737488355328) (hn:(L.length:Int)<1048576) {Q:Value→AH→Prop}
  (hQ:∀ H':AH,H'.length=H.length+2→Kp nb H H'→H'.get (H.length+1)=some ⟨cel k (L++[q]).flatten,e,false,false⟩→Wid w (L++[q])→Q (.slice (some ⟨H.length+1,0,none⟩) (L.length+1) w) H') :
  OQ (appV e w bytes (.slice (some ⟨nb,0,none⟩) L.length w) (.slice (some ⟨H.length,0,none⟩) 1 w) (H.new ⟨cel k q,e',ro,fu⟩)) Q:=by
 have hr:(H.new ⟨cel k q,e',ro,fu⟩).rdn H.length 0 w=some (cel k q):=by
  rw[rdn_of get_new_same]
  simp only
  rw[if_pos (by rw[cel_len,hq];omega),List.drop_zero,List.take_of_length_le (by rw[cel_len,hq];omega)]
 have hk':(H.new ⟨cel k q,e',ro,fu⟩).get nb=some ⟨cel k L.flatten,e,false,full⟩:=get_new_any hk
 have hkb:=get_lt hk
 rw[app_ownW hk' (by rw[cel_len,flat_len hw]) hr ⟨hl,by omega⟩,OQ_some,len_new]
 refine hQ _ (by rw[len_new,len_kill,len_new]) ⟨by rw[len_new,len_kill,len_new];omega,fun j hj hne=>?_⟩ ?_ ?_
 ·have e1:(((H.new ⟨cel k q,e',ro,fu⟩).kill nb).new ⟨cel k L.flatten++cel k q,e,false,false⟩).get j=((H.new ⟨cel k q,e',ro,fu⟩).kill nb).get j:=prefix_get (pre_new (List.prefix_refl _)) (by rw[len_kill,len_new];omega)
  rw[e1,get_kill_ne (Ne.symm hne)]
  exact prefix_get (pre_new (List.prefix_refl _)) hj
 ·rw[get_new_eq (by rw[len_kill,len_new])]
  simp[cel_app]
 ·intro r hr
  rcases List.mem_append.1 hr with hr|hr
  ·exact hw r hr
  ·rw[List.mem_singleton.1 hr,hq]
theorem InE.kN {k:IntKind} {w a b lo:Nat} {h:AH} {v:Value} {L:List (List Int)} (o:InE k w a b h v L) (hn:lo≤a):KN lo h fun h'=>Els k w h' v L:=by
 intro h' l g
 rcases o with⟨rfl,rfl⟩|⟨m,e,full,h1,rfl,h2,h3⟩
 ·exact .inl ⟨rfl,0,by omega,rfl⟩
 ·exact InE.rd (.inr ⟨m,e,full,h1,rfl,by rw[g m (by omega) (get_lt h2)];exact h2,h3⟩)
theorem blk_kN {k:IntKind} {w lo m:Nat} {h:AH} {L:List (List Int)} {e:TypeId} {full:Bool} (hg:h.get m=some ⟨cel k L.flatten,e,false,full⟩) (hw:Wid w L) (hn:lo≤m):KN lo h fun h'=>Els k w h' (.slice (some ⟨m,0,none⟩) L.length w) L:=
 fun h' l g=>InE.rd (.inr ⟨m,e,full,⟨Nat.le_refl _,Nat.lt_succ_self _⟩,rfl,by rw[g m hn (get_lt hg)];exact hg,hw⟩)
theorem stra_wid {m:Int}:Wid 27 (stra m):=by
 intro q hq
 simp only[stra,List.mem_cons,List.not_mem_nil,or_false] at hq
 rcases hq with rfl|rfl|rfl|rfl|rfl|rfl|rfl<;>rfl
theorem stra_isX {p:Int} (hp:p=2∨p=3∨p=5):isX ⟨p,2,2,2,stra (p-1)⟩=true:=by
 rcases hp with rfl|rfl|rfl<;>decide
theorem byt_isX {x:Sch} (hx:isX x=true) (hw:Wid 27 x.ps) (hb:∀ q∈x.ps,∀ j,j<27→0≤q.getD j 0):Byt 27 x.ps:=by
 obtain⟨z,hp,_,ho⟩:=isX_facts hx
 have zp:=z.p
 intro i hi j hj
 have hm:x.ps.getD i []∈x.ps:=by
  rw[List.getD_eq_getElem?_getD,List.getElem?_eq_getElem hi]
  exact List.getElem_mem _
 refine⟨hb _ hm j hj,?_⟩
 have h1:=ho i hi
 unfold okProd at h1
 simp only[Bool.and_eq_true] at h1
 have at9:∀ s,s<3→∀ l,l<9→(seg (x.ps.getD i []) s).getD l 0<x.p:=fun s hs l hl=>by
  have:s=0∨s=1∨s=2:=by omega
  rcases this with rfl|rfl|rfl
  ·exact (okForm_at h1.1.1.1 hl).1
  ·exact (okForm_at h1.1.1.2 hl).1
  ·exact (okForm_at h1.1.2 hl).1
 have h2:=at9 (j / 9) (by omega) (j%9) (by omega)
 have e:(seg (x.ps.getD i []) (j / 9)).getD (j%9) 0=(x.ps.getD i []).getD j 0:=by
  unfold seg
  rw[cut_get (by omega)]
  congr 1
  omega
 rw[e] at h2
 omega
theorem std_isX {p n m k:Int} (hp:p=2∨p=3∨p=5) (hn:n=1∨n=2∨n=3) (hm:m=1∨m=2∨m=3) (hk:k=1∨k=2∨k=3):isX (stdX p n m k)=true:=by
 rcases hp with rfl|rfl|rfl<;>rcases hn with rfl|rfl|rfl<;>rcases hm with rfl|rfl|rfl<;>rcases hk with rfl|rfl|rfl<;>decide +kernel
end Go.Proofs.YtigpfopobpoamaaGreat.X

set_option linter.unusedVariables false
set_option linter.unusedSimpArgs false
set_option maxRecDepth 20000
set_option maxHeartbeats 4000000
namespace Go.Proofs.YtigpfopobpoamaaGreat.X
open Go Go.RowKit
open Nat (reduceEqDiff reduceAdd reduceSub reduceLeDiff)
structure DL (x:Sch) (L:List (List Int)):Prop where
 w:Wid 27 L
 by':∀ q∈L,By 27 q
 ok:∀ q∈L,okProd x q=true
theorem DL.nil {x:Sch}:DL x []:=⟨fun q h=>by simp at h,fun q h=>by simp at h,fun q h=>by simp at h⟩
theorem DL.snoc {x:Sch} {L:List (List Int)} {q:List Int} (d:DL x L) (hb:By 27 q) (ho:okProd x q=true):DL x (L++[q]):=by
 refine⟨fun r h=>?_,fun r h=>?_,fun r h=>?_⟩<;>rcases List.mem_append.1 h with h|h
 ·exact d.w r h
 ·rw[List.mem_singleton.1 h];exact hb.1
 ·exact d.by' r h
 ·rw[List.mem_singleton.1 h];exact hb
 ·exact d.ok r h
 ·rw[List.mem_singleton.1 h];exact ho
theorem DL.byt {x:Sch} {L:List (List Int)} (d:DL x L):Byt 27 L:=fun i hi j hj=>by
 have hm:L.getD i []∈L:=by
  rw[List.getD_eq_getElem?_getD,List.getElem?_eq_getElem hi]
  exact List.getElem_mem _
 exact (d.by' _ hm).2 j hj
theorem DL.isX {x:Sch} (d:DL x x.ps) (hs:szX x=true) (hl:x.ps.length≤30):isX x=true:=by
 unfold X.isX
 rw[hs,decide_eq_true hl]
 simp only[Bool.true_and]
 exact List.all_eq_true.2 d.ok
def NK (v:Value):Prop:=(v=.slice none 0 0∨v=.slice none 0 3)∨∃ b n w,v=.slice (some ⟨b,0,none⟩) n w
theorem InE.nk {k:IntKind} {w a b:Nat} {h:AH} {v:Value} {L:List (List Int)} (o:InE k w a b h v L):NK v:=by
 rcases o with⟨rfl,_⟩|⟨m,e,full,_,rfl,_⟩
 ·exact .inl (.inl rfl)
 ·exact .inr ⟨_,_,_,rfl⟩
def SchD (lo:Nat) (h:AH) (v:Value) (x:Sch):Prop:=KN lo h fun h'=>Prods h' v x.ps
theorem zrep27:zrep 1 [.int .u8 0,.int .u8 0,.int .u8 0,.int .u8 0,.int .u8 0,.int .u8 0,.int .u8 0,.int .u8 0,.int .u8 0,.int .u8 0,.int .u8 0,.int .u8 0,.int .u8 0,.int .u8 0,.int .u8 0,.int .u8 0,.int .u8 0,.int .u8 0,.int .u8 0,.int .u8 0,.int .u8 0,.int .u8 0,.int .u8 0,.int .u8 0,.int .u8 0,.int .u8 0,.int .u8 0]=cel .u8 (List.replicate 27 0):=rfl
theorem sp27z {q:List Int} (hq:q.length=27):splice (cel .u8 (List.replicate 27 0)) 0 (cel .u8 q)=cel .u8 q:=splice_27 hq
theorem s_l01Draw {h0 h:AH} {n:Nat} {Q:Value→AH→Prop} (s:Src h0 h n)
  (hQ:∀ x v h',Kp n h h'→Src h0 h' n→SchD h.length h' v x→X.isX x=true→NK v→Q (schV x v) h'):WF S 63 [srcP n] h Q:=by
 refine WF_fn (fn:=c63) rfl rfl ?_
 dsimp only[c63,oO,oM,oS,oG,oK,oE,oL,oF,oX,oN]
 have lt:=s.lt
 have l0:=pre_len s.p
 ((try simp (maxSteps:=3000000) (dsimp:=false) (disch:=first|omega|simp only[lnx];omega) only[↓ypre,ypost,↓reduceIte,reduceEqDiff,reduceAdd,reduceSub,reduceLeDiff,zz0,ynew]);try simp only[yback])
 generalize hH1:AH.new h _=H1
 obtain⟨hb1,p1,n1⟩:=new_facts hH1
 refine s_l01DrawSizes (s.kp p1) fun p a b c nb H2 k2 s2 hnb gnb hp ha hb hc=>?_
 have g1:=k2.get (by omega) hb1
 ((try simp (maxSteps:=3000000) (dsimp:=false) (disch:=first|omega|simp only[lnx];omega) only[↓ypre,ypost,↓reduceIte,reduceEqDiff,reduceAdd,reduceSub,reduceLeDiff,zz0,ynew,schV,one_slice]);try simp only[yback])
 generalize hH3:AH.new H2 _=H3
 obtain⟨hb3,p3,n3⟩:=new_facts hH3
 have k3:Kp n h H3:=(Kp.of p1).trans (k2.trans (Kp.of p3))
 have l2:=k2.len
 have szx:szX ⟨p,a,b,c,[]⟩=true:=by
  unfold szX
  rw[isP_of hp,sz_of ha,sz_of hb,sz_of hc]
  rfl
 have z:=szX_facts szx
 have zp:=z.p
 ((try simp (maxSteps:=3000000) (dsimp:=false) (disch:=first|omega|simp only[lnx];omega) only[↓ypre,ypost,↓reduceIte,reduceEqDiff,reduceAdd,reduceSub,reduceLeDiff,zz0,ynew]);try simp only[yback])
 refine s_l01Next (s2.kp p3) fun r H4 k4 l4 s4 hr _=>?_
 have g1:=k4.get (by omega) (pre_get p3 g1)
 have g3:=k4.get (by omega) hb3
 have gn:=k4.get (by omega) (pre_get p3 gnb)
 have fin:∀ (x:Sch) (v:Value) (h':AH),Kp n h h'→Src h0 h' n→SchD h.length (h'.put h.length ⟨[I64 x.p,I64 x.n,I64 x.m,I64 x.k,v],26,false,true⟩) v x→X.isX x=true→NK v →
   Q (schV x v) (h'.put h.length ⟨[I64 x.p,I64 x.n,I64 x.m,I64 x.k,v],26,false,true⟩):=fun x v h' kk ss sd hx nk=>
  hQ x v _ (kk.putb (Nat.le_refl _)) (ss.putb (by omega) (by omega)) sd hx nk
 have k4':=k3.trans k4
 by_cases r0:r=0
 ·((try simp (maxSteps:=3000000) (dsimp:=false) (disch:=first|omega|simp only[lnx];omega) only[↓ypre,ypost,↓reduceIte,reduceEqDiff,reduceAdd,reduceSub,reduceLeDiff,zz0,ynew,decide_eq_true r0,rd1_of g3]);try simp only[yback])
  refine s_l01Strassen zp fun m H5 p5 hm gm=>?_
  have g1:=pre_get p5 g1
  have lg:=get_lt g1
  ((try simp (maxSteps:=3000000) (dsimp:=false) (disch:=first|omega|simp only[lnx];omega) only[↓ypre,ypost,↓reduceIte,reduceEqDiff,reduceAdd,reduceSub,reduceLeDiff,zz0,ynew,schV,wr_of g1,splice_eq,rdn_put_same]);try simp only[yback])
  have l5:=pre_len p5
  exact fin ⟨p,2,2,2,stra (p-1)⟩ _ H5 (k4'.trans (Kp.of p5)) (s4.kp p5) (fun h' d d'=>⟨blk_kN (L:=stra (p-1)) (by rw[get_put_ne (by omega)];exact gm) stra_wid (by omega) h' d d',
   byt_isX (x:=⟨p,2,2,2,stra (p-1)⟩) (stra_isX hp) stra_wid (fun q hq j hj=>by
    simp only[stra,List.mem_cons,List.not_mem_nil,or_false] at hq
    have:∀ l:List Int,(∀ x∈l,0≤x)→0≤l.getD j 0:=fun l hl=>by
     by_cases hj:j<l.length
     ·rw[List.getD_eq_getElem?_getD,List.getElem?_eq_getElem hj]
      exact hl _ (List.getElem_mem _)
     ·rw[List.getD_eq_getElem?_getD,List.getElem?_eq_none (by omega)]
      exact Int.le_refl _
    refine this q ?_
    rcases hq with rfl|rfl|rfl|rfl|rfl|rfl|rfl<;>intro x hx<;>simp only[List.mem_cons,List.not_mem_nil,or_false] at hx<;>omega)⟩) (stra_isX hp) (.inr ⟨_,_,_,rfl⟩)
 by_cases r1:r=1
 ·((try simp (maxSteps:=3000000) (dsimp:=false) (disch:=first|omega|simp only[lnx];omega) only[↓ypre,ypost,↓reduceIte,reduceEqDiff,reduceAdd,reduceSub,reduceLeDiff,zz0,ynew,decide_eq_false r0,decide_eq_true r1,rd1_of g3]);try simp only[yback])
  refine s_l01Standard (szX_facts (x:=stdX p a b c) szx) fun v H5 p5 o5=>?_
  have g1:=pre_get p5 g1
  have lg:=get_lt g1
  have l5:=pre_len p5
  ((try simp (maxSteps:=3000000) (dsimp:=false) (disch:=first|omega|simp only[lnx];omega) only[↓ypre,ypost,↓reduceIte,reduceEqDiff,reduceAdd,reduceSub,reduceLeDiff,zz0,ynew,schV,o5.rd.one,wr_of g1,splice_eq,rdn_put_same]);try simp only[yback])
  have o6:InX H4.length H5.length (AH.put H5 h.length ⟨[I64 p,I64 a,I64 b,I64 c,v],26,false,true⟩) v (stdX p a b c).ps:=⟨o5.1.putb (by omega),o5.2⟩
  exact fin (stdX p a b c) v H5 (k4'.trans (Kp.of p5)) (s4.kp p5) (fun h' d d'=>⟨o6.1.kN (by omega) h' d d',o6.2⟩) (std_isX hp ha hb hc) o5.1.nk
 ((try simp (maxSteps:=3000000) (dsimp:=false) (disch:=first|omega|simp only[lnx];omega) only[↓ypre,ypost,↓reduceIte,reduceEqDiff,reduceAdd,reduceSub,reduceLeDiff,zz0,ynew,decide_eq_false r0,decide_eq_false r1]);try simp only[yback])
 refine s_l01Next s4 fun N H5 k5 l5 s5 hN _=>?_
 have hN:=hN (by omega)
 have g1:=k5.get (by omega) g1
 have g3:=k5.get (by omega) g3
 have gn:=k5.get (by omega) gn
 obtain⟨M,rfl⟩:∃ M:Nat,N=M:=⟨N.toNat,by omega⟩
 ((try simp (maxSteps:=3000000) (dsimp:=false) (disch:=first|omega|simp only[lnx];omega) only[↓ypre,ypost,↓reduceIte,reduceEqDiff,reduceAdd,reduceSub,reduceLeDiff,zz0,ynew]);try simp only[yback])
 refine WC_loop_inv (fun m f K1=>∃ (i:Nat) (L:List (List Int)) (b2:Nat) (fu:Bool),m=M-i∧i≤M∧f 0=srcP n∧f 2=.pointer (some ⟨h.length,0,none⟩)∧f 3=.pointer (some ⟨H2.length,0,none⟩)∧f 4=I64 ((M-i:Nat):Int)∧(Kp n h K1)∧(Src h0 K1 n)∧(L.length=i)∧(DL ⟨p,a,b,c,[]⟩ L)∧(h.length<b2∧b2≠H2.length∧b2≠n)∧(K1.get h.length=some ⟨[.int .i64 0,.int .i64 0,.int .i64 0,.int .i64 0,.slice none 0 0],26,false,true⟩)∧(K1.get H2.length=some ⟨[I64 p,I64 a,I64 b,I64 c,.slice (some ⟨b2,0,none⟩) L.length 27],26,false,true⟩)∧(K1.get b2=some ⟨cel .u8 L.flatten,53,false,fu⟩)) ?_ (M-0) _ _ ⟨0,[],nb,true,rfl,by omega,(by first|rfl|simp[upd_apply]),(by first|rfl|simp[upd_apply]),(by first|rfl|simp[upd_apply]),(by first|rfl|simp[upd_apply]),k4'.trans k5,s5,rfl,DL.nil,(by have:=get_lt gnb;omega),g1,g3,gn⟩
 rintro m f K1 ⟨i,L,b2,fu,rfl,hi,f0,f2,f3,f4,kk,ss,li,dl,hb2,q1,q3,qn⟩
 by_cases hlt:(0:Int)<((M-i:Nat):Int)
 ·((try simp (maxSteps:=3000000) (dsimp:=false) (disch:=first|omega|simp only[lnx];omega) only[↓ypre,ypost,↓reduceIte,reduceEqDiff,reduceAdd,reduceSub,reduceLeDiff,zz0,ynew,f0,f2,f3,f4,decide_eq_true hlt,rd1_of q3,rdn_of q3,List.length_cons,List.length_nil,List.drop_zero,List.take_succ_cons,List.take_nil]);try simp only[yback])
  refine⟨by omega,?_⟩
  refine s_l01DrawOf ss (x:=⟨p,a,b,c,[]⟩) z rfl fun q H6 k6 s6 hq oq=>?_
  have q1:=k6.get (by omega) q1
  have q3:=k6.get (by omega) q3
  have qn:=k6.get (by omega) qn
  have lq6:=get_lt q3
  have ln6:=s6.lt
  have lh6:=get_lt q1
  refine⟨⟨n,rfl,k6⟩,?_⟩
  ((try simp (maxSteps:=3000000) (dsimp:=false) (disch:=first|omega|simp only[lnx];omega) only[↓ypre,ypost,↓reduceIte,reduceEqDiff,reduceAdd,reduceSub,reduceLeDiff,zz0,ynew,f0,f2,f3,f4,aggV,zrep27,hq.1,cel_len,sp27z,List.append_nil,cel_all]);try simp only[yback])
  refine app_kp (bytes:=27) qn dl.w hq.1 (by omega) (by omega) fun H7 l7 k7 q7 w7=>?_
  have q1:=k7.get (by omega) q1
  have q3:=k7.get (by omega) q3
  ((try simp (maxSteps:=3000000) (dsimp:=false) (disch:=first|omega|simp only[lnx];omega) only[↓ypre,ypost,↓reduceIte,reduceEqDiff,reduceAdd,reduceSub,reduceLeDiff,zz0,ynew,f0,f2,f3,f4,wr_of q3,splice_eq,wrap64_in]);try simp only[yback])
  have lt6:=s6.lt
  have lq3:=get_lt q3
  refine InvQ_go (M-(i+1)) (by omega) ⟨(i+1),(L++[q]),(H6.length+1),false,rfl,by omega,(by first|rfl|exact f0|(simp only[upd_apply];rfl)|(show I64 _=_;congr 1;omega)),(by first|rfl|exact f2|(simp only[upd_apply];rfl)|(show I64 _=_;congr 1;omega)),(by first|rfl|exact f3|(simp only[upd_apply];rfl)|(show I64 _=_;congr 1;omega)),(by first|rfl|exact f4|(simp only[upd_apply];rfl)|(show I64 _=_;congr 1;omega)),(Kp.putb (m:=H2.length) ((kk.trans k6).over k7 (by omega)) (by omega)),(Src.putb (m:=H2.length) (s6.over k7 (by omega) (by omega)) (by omega) (by omega)),(by rw[List.length_append,li];rfl),(dl.snoc hq oq),(by have:=k6.len;have:=kk.len;omega),(by rw[get_put_ne (by omega)];exact q1),(by rw[get_put_same (by omega),List.length_append];rfl),(by rw[get_put_ne (by omega)];exact q7)⟩
 ·((try simp (maxSteps:=3000000) (dsimp:=false) (disch:=first|omega|simp only[lnx];omega) only[↓ypre,ypost,↓reduceIte,reduceEqDiff,reduceAdd,reduceSub,reduceLeDiff,zz0,ynew,f0,f2,f3,f4,decide_eq_false hlt]);try simp only[yback])
  have lg:=get_lt q1
  ((try simp (maxSteps:=3000000) (dsimp:=false) (disch:=first|omega|simp only[lnx];omega) only[↓ypre,ypost,↓reduceIte,reduceEqDiff,reduceAdd,reduceSub,reduceLeDiff,zz0,ynew,f0,f2,f3,f4,rdn_of q3,wr_of q1,splice_eq,rdn_put_same]);try simp only[yback])
  exact fin ⟨p,a,b,c,L⟩ _ K1 kk ss (fun h' d d'=>⟨blk_kN (L:=L) (by rw[get_put_ne (by omega)];exact qn) dl.w (by omega) h' d d',dl.byt⟩) (DL.isX (x:=⟨p,a,b,c,L⟩) ⟨dl.w,dl.by',dl.ok⟩ szx (by show L.length≤30;omega)) (.inr ⟨_,_,_,rfl⟩)
end Go.Proofs.YtigpfopobpoamaaGreat.X

set_option linter.unusedVariables false
set_option linter.unusedSimpArgs false
set_option maxRecDepth 20000
set_option maxHeartbeats 4000000
namespace Go.Proofs.YtigpfopobpoamaaGreat.X
def Cg (p a b:Int):Prop:=p∣a-b
theorem Cg.rfl' {p a:Int}:Cg p a a:=⟨0,by omega⟩
theorem Cg.of {p a b:Int} (h:a=b):Cg p a b:=by subst h;exact .rfl'
theorem Cg.symm {p a b:Int} (h:Cg p a b):Cg p b a:=by
 obtain⟨k,h⟩:=h
 exact⟨-k,by rw[Int.mul_neg];omega⟩
theorem Cg.trans {p a b c:Int} (h:Cg p a b) (g:Cg p b c):Cg p a c:=by
 obtain⟨k,h⟩:=h
 obtain⟨l,g⟩:=g
 exact⟨k+l,by rw[Int.mul_add];omega⟩
theorem Cg.add {p a b c d:Int} (h:Cg p a b) (g:Cg p c d):Cg p (a+c) (b+d):=by
 obtain⟨k,h⟩:=h
 obtain⟨l,g⟩:=g
 exact⟨k+l,by rw[Int.mul_add];omega⟩
theorem Cg.mul {p a b c d:Int} (h:Cg p a b) (g:Cg p c d):Cg p (a*c) (b*d):=by
 obtain⟨k,h⟩:=h
 obtain⟨l,g⟩:=g
 exact⟨k*c+b*l,by grind⟩
def dl (a b:Nat):Int:=if a=b then 1 else 0
end Go.Proofs.YtigpfopobpoamaaGreat.X

set_option linter.unusedVariables false
set_option linter.unusedSimpArgs false
set_option maxRecDepth 20000
set_option maxHeartbeats 4000000
namespace Go.Proofs.YtigpfopobpoamaaGreat.X
open Go Go.RowKit
theorem tmod_dvd (x p:Int):p∣x-x.tmod p:=⟨x.tdiv p,by have:=Int.mul_tdiv_add_tmod x p;omega⟩
theorem dvd_small {p x:Int} (h:p∣x) (h0:0≤x∧x<p):x=0:=by
 have:=Int.emod_eq_zero_of_dvd h
 rw[Int.emod_eq_of_lt h0.1 h0.2] at this
 exact this
theorem dvd_eq {p x y:Int} (h:p∣x-y) (hx:0≤x∧x<p) (hy:0≤y∧y<p):x=y:=by
 by_cases hxy:y≤x
 ·have:=dvd_small h ⟨by omega,by omega⟩
  omega
 ·have h2:p∣y-x:=by
   obtain⟨c,hc⟩:=h
   exact⟨-c,by rw[Int.mul_neg];omega⟩
  have:=dvd_small h2 ⟨by omega,by omega⟩
  omega
theorem md_dvd (p x:Int):p∣x-md p x:=by
 unfold md
 obtain⟨a,ha⟩:=tmod_dvd x p
 obtain⟨b,hb⟩:=tmod_dvd (x.tmod p+p) p
 exact⟨a+b-1,by grind⟩
theorem inv_dvd {p n w:Int} (h:IsInv p n w):∃ q,w*n=1+p*q:=by
 obtain⟨q,hq⟩:=tmod_dvd (w*n) p
 rw[h.2.2.1] at hq
 exact⟨q,by omega⟩
end Go.Proofs.YtigpfopobpoamaaGreat.X

set_option linter.unusedVariables false
set_option linter.unusedSimpArgs false
set_option maxRecDepth 20000
set_option maxHeartbeats 4000000
namespace Go.Proofs.YtigpfopobpoamaaGreat.X
end Go.Proofs.YtigpfopobpoamaaGreat.X

set_option linter.unusedVariables false
set_option linter.unusedSimpArgs false
set_option maxRecDepth 20000
set_option maxHeartbeats 4000000
namespace Go.Proofs.YtigpfopobpoamaaGreat.X
open Go Go.RowKit
theorem firstAt_spec {q:Nat→Bool}:∀ {m i:Nat},(firstAt q m i = -1∧∀ j,i≤j→j<i+m→q j=false)∨∃ r:Nat,firstAt q m i=r∧i≤r∧r<i+m∧q r=true
 | 0,i=>.inl ⟨rfl,fun j h1 h2=>by omega⟩
 | m+1,i=>by
  unfold firstAt
  by_cases h:q i=true
  ·rw[if_pos h]
   exact .inr ⟨i,rfl,Nat.le_refl _,by omega,h⟩
  ·rw[if_neg h]
   rcases firstAt_spec (q:=q) (m:=m) (i:=i+1) with⟨h1,h2⟩|⟨r,h1,h2,h3,h4⟩
   ·refine .inl ⟨h1,fun j h3 h4=>?_⟩
    by_cases e:j=i
    ·subst e
     simpa using h
    ·exact h2 j (by omega) (by omega)
   ·exact .inr ⟨r,h1,by omega,by omega,h4⟩
section
variable (t:Ten) (f e:Int)
end
def mmV (isMax:Bool) (x:Value) (l:List Value):Option Value:=match x with
 | .int k a=>(xmm isMax a l).map fun b=>.int k b
 | _=>none
theorem WX_mm {S:XS} {f:Fr} {h:AH} {Q:Value→AH→Prop} {b:Bool} {x:Operand} {l:List Operand}:WX S (.mm b x l) f h Q=WV (mmV b (ev f x) (l.map (ev f))) fun v=>Q v h:=by
 rw[WX_op (fun _=>rfl)]
 have:xop (.mm b x l) f h=(mmV b (ev f x) (l.map (ev f))).map (·,h):=by
  simp only[xop,mmV]
  generalize ev f x=vx
  cases vx<;>try rfl
  simp only
  generalize xmm b _ _=r
  cases r<;>rfl
 rw[this]
 cases mmV b (ev f x) (l.map (ev f))<;>simp[OQ_some,WV_some,OQ_none,WV_none]
structure KrS (t u s:Ten) (v w:Value) (h0 h:AH) (b5 nb:Nat) (l:List Int):Prop where
 hp:h0<+:h
 lo:h0.length+3≤nb∧nb<b5
 g1:OwnB h h0.length [I64 t.p,I64 t.i,I64 t.j,I64 t.k,v] true
 g2:OwnB h (h0.length+1) [I64 u.p,I64 u.i,I64 u.j,I64 u.k,w] true
 g3:∃ c,c.length=5∧OwnB h (h0.length+2) c true
 g5:OwnB h b5 [I64 s.p,I64 s.i,I64 s.j,I64 s.k,.slice (some ⟨nb,0,none⟩) (s.i*s.j*s.k).toNat 1] true
 gn:OwnB h nb (l.map (Value.int .i64)) true
theorem KrS.pre {t u s:Ten} {v w:Value} {h0 h h':AH} {b5 nb:Nat} {l:List Int} (a:KrS t u s v w h0 h b5 nb l) (p:h<+:h'):KrS t u s v w h0 h' b5 nb l:=by
 obtain⟨c,c1,c2⟩:=a.g3
 exact⟨a.hp.trans p,a.lo,a.g1.pre p,a.g2.pre p,⟨c,c1,c2.pre p⟩,a.g5.pre p,a.gn.pre p⟩
section
variable {t u:Ten}
end
theorem pick_in {l:List Int} {a b:Int} (hl:∀ x∈l,a≤x∧x≤b) {j:Nat} (hj:j<l.length):a≤l.getD j 0∧l.getD j 0≤b:=by
 rw[List.getD_eq_getElem?_getD,List.getElem?_eq_getElem hj]
 exact hl _ (List.getElem_mem _)
structure Cod (h:AH) (cv:Value) (code:List (List Int)):Prop where
 els:Els .u8 1 h cv code
 byt:Byt 1 code
 len:code.length≤1000000
theorem Cod.pre {h h':AH} {cv:Value} {code:List (List Int)} (c:Cod h cv code) (p:h<+:h'):Cod h' cv code:=⟨c.els.pre p,c.byt,c.len⟩
theorem xresn {f:Fr} {h:AH} {t n m e:Nat} {c:List Value} {ro fl:Bool} (hf:f t=.pointer (some ⟨n,0,none⟩)) (hb:h.get n=some ⟨c,e,ro,fl⟩) (hc:c.length=m):xres1 f h (.celln t m)=some (.agg c.toArray):=by
 rw[xres1_cells,hf,rdnV_ptr]
 simp only[rdn_of hb]
 subst hc
 simp
theorem mmT {a b:Int}:mmV true (.int .i64 a) [.int .i64 b]=some (I64 (max a b)):=by
 simp only[mmV,xmm]
 by_cases h:a≤b
 ·simp[h,Int.max_def]
  try omega
 ·simp[h,Int.max_def]
  try omega
theorem getq {l:List Value} {i:Nat} (hi:i<l.length):l[i]?=some (l.getD i undef):=by
 rw[List.getD_eq_getElem?_getD,List.getElem?_eq_getElem hi]
 rfl
structure RowD (lo:Nat) (H:AH) (kb:Nat) (fu:Bool) (rows:List (List Int)) (B:Nat→Nat) (cs:List Value):Prop where
 get:H.get kb=some ⟨cs,56,false,fu⟩
 len:cs.length=rows.length
 low:lo≤kb
 row:∀ i,i<rows.length→lo≤B i∧cs.getD i undef=sl (B i) (rows.getD i []).length∧(∃ f,Lst H (B i) (rows.getD i []) f)∧B i≠kb
 inc:∀ i j,i<j→j<rows.length→B i<B j
theorem RowD.kp {lo kb n:Nat} {H H':AH} {fu:Bool} {rows:List (List Int)} {B:Nat→Nat} {cs:List Value} (r:RowD lo H kb fu rows B cs) (k:Kp n H H') (hn:n<lo):RowD lo H' kb fu rows B cs:=
 ⟨k.get (by have:=r.low;omega) r.get,r.len,r.low,fun i hi=>by
  obtain⟨h1,h2,⟨f,h3⟩,h4⟩:=r.row i hi
  exact⟨h1,h2,⟨f,k.get (by omega) h3⟩,h4⟩,r.inc⟩
theorem RowD.rows {lo kb:Nat} {H:AH} {fu:Bool} {rows:List (List Int)} {B:Nat→Nat} {cs:List Value} (r:RowD lo H kb fu rows B cs):Rows H (sl kb rows.length) rows:=by
 refine⟨cs,.inr ⟨kb,0,_,by rw[r.len];rfl,r.get,by simp,fun i hi=>?_⟩,r.len,fun i hi=>?_⟩
 ·show cs[0+i]?=_
  rw[Nat.zero_add]
  exact getq hi
 ·obtain⟨h1,h2,⟨f,h3⟩,h4⟩:=r.row i hi
  rw[h2]
  exact h3.ints
theorem getD_snocD {α:Type} {l:List α} {x d:α} {j:Nat}:(l++[x]).getD j d=if j<l.length then l.getD j d else if j=l.length then x else d:=by
 rw[List.getD_eq_getElem?_getD,List.getD_eq_getElem?_getD]
 by_cases h:j<l.length
 ·rw[List.getElem?_append_left h,if_pos h]
 ·rw[List.getElem?_append_right (by omega),if_neg h]
  split
  ·rename_i e
   simp[e]
  ·rw[List.getElem?_eq_none (by simp;omega)]
   rfl
end Go.Proofs.YtigpfopobpoamaaGreat.X

set_option linter.unusedVariables false
set_option linter.unusedSimpArgs false
set_option maxRecDepth 20000
set_option maxHeartbeats 4000000
namespace Go.Proofs.YtigpfopobpoamaaGreat.X
open Go Go.RowKit
open Nat (reduceEqDiff reduceAdd reduceSub reduceLeDiff)
theorem takeD {L:List (List Int)} {m:Nat} (h:m<L.length):L.take (m+1)=L.take m++[L.getD m []]:=by
 rw[List.take_add_one,List.getElem?_eq_getElem h,List.getD_eq_getElem?_getD,List.getElem?_eq_getElem h]
 rfl
theorem Els.rdAll {k:IntKind} {w:Nat} {h:AH} {v:Value} {L:List (List Int)} (e:Els k w h v L) (hl:0<L.length) :
  ∃ b off,v=.slice (some ⟨b,off,none⟩) L.length w∧h.rdn b off (L.length*w)=some (cel k L.flatten):=by
 rcases e with⟨rfl,-⟩|⟨b,off,blk,h1,h2,h3⟩
 ·simp at hl
 refine⟨b,off,h1,?_⟩
 have key:∀ m,m≤L.length→off+m*w≤blk.c.length∨m=0∧True→(blk.c.drop off).take (m*w)=cel k (L.take m).flatten:=by
  intro m hm _
  induction m with
  | zero=>simp[cel]
  | succ m ih=>
   obtain⟨g1,g2⟩:=h3 m (by omega)
   rw[Nat.succ_mul,List.take_add,ih (by omega) (by left;omega),takeD (by omega),List.flatten_append,List.drop_drop,g2]
   simp[cel]
 have hb:=(h3 (L.length-1) (by omega)).1
 have hb':off+L.length*w≤blk.c.length:=by
  have:L.length*w=(L.length-1)*w+w:=by
   rw[←Nat.succ_mul]
   congr 1
   omega
  omega
 rw[rdn_of h2,if_pos hb',key _ (Nat.le_refl _) (Or.inl hb'),List.take_length]
theorem set_flat {w:Nat} {q:List Int} (hq:q.length=w):∀ {L:List (List Int)} {j:Nat},Wid w L→j<L.length→L.flatten.take (j*w)++q++L.flatten.drop (j*w+w)=(L.set j q).flatten
 | [],j,_,h=>by simp at h
 | r::L,0,hw,_=>by
  have:=hw r (by simp)
  simp[←this]
 | r::L,j+1,hw,h=>by
  have hr:=hw r (by simp)
  have ih:=set_flat hq (L:=L) (j:=j) (fun x hx=>hw x (by simp[hx])) (by simpa using h)
  rw[List.set_cons_succ,List.flatten_cons,List.flatten_cons,←ih,Nat.succ_mul]
  rw[List.take_append,List.drop_append,List.take_of_length_le (by omega),List.drop_eq_nil_of_le (by omega),List.nil_append,
   show j*w+w-r.length=j*w by omega,show j*w+w+w-r.length=j*w+w by omega]
  simp only[List.append_assoc]
theorem splice_flat {k:IntKind} {w:Nat} {q:List Int} {L:List (List Int)} {j:Nat} (hq:q.length=w) (hw:Wid w L) (hj:j<L.length):splice (cel k L.flatten) (j*w) (cel k q)=cel k (L.set j q).flatten:=by
 rw[splice_eq,←set_flat hq hw hj]
 simp only[cel,List.map_append,List.map_take,List.map_drop,List.length_map,hq]
structure SchB (x:Sch):Prop where
 p:-1000≤x.p∧x.p≤1000
 n:-1000≤x.n∧x.n≤1000
 m:-1000≤x.m∧x.m≤1000
 k:-1000≤x.k∧x.k≤1000
 l:SmallX x.ps
theorem copy_zero {k:IntKind} {w bytes:Nat} {e:TypeId} {H:AH} {v:Value} {L:List (List Int)} (he:Els k w H v L) (hl:0<L.length) (hs:(L.length:Int)*bytes≤140737488355328∧(L.length:Int)≤9223372036854775807) {Q:Value→AH→Prop}
  (hQ:∀ H':AH,H'.length=H.length+2→H<+:H'→H'.get (H.length+1)=some ⟨cel k L.flatten,e,false,false⟩→Q (.slice (some ⟨H.length+1,0,none⟩) L.length w) H') :
  OQ (appV e w bytes (.slice (some ⟨H.length,0,none⟩) 0 w) v (H.new ⟨[],e,false,true⟩)) Q:=by
 obtain⟨b,off,rfl,hrd⟩:=(he.pre (pre_new (List.prefix_refl _):H<+:H.new ⟨[],e,false,true⟩)).rdAll hl
 rw[app_zeroW (k:=H.length) get_new_same hrd hl hs,OQ_some,len_new]
 have p:H<+:((H.new ⟨[],e,false,true⟩).kill H.length).new ⟨cel k L.flatten,e,false,false⟩:=pre_new (pre_kill (pre_new (List.prefix_refl _)) (Nat.le_refl _))
 exact hQ _ (by rw[len_new,len_kill,len_new]) p (get_new_eq (by rw[len_kill,len_new]))
theorem byt_set {L:List (List Int)} {a e j0:Nat} {d:Int} (b:Byt 27 L) (ha:a<L.length) (he:e<L.length) (hd:0≤d∧d≤255):Byt 27 (L.set e ((L.getD a []).set j0 d)):=by
 intro i hi j hj
 rw[List.length_set] at hi
 by_cases hie:i=e
 ·subst hie
  rw[List.getD_eq_getElem?_getD (l:=L.set i _),List.getElem?_set_self hi,Option.getD_some]
  by_cases hjj:j0=j
  ·subst hjj
   by_cases hl:j0<(L.getD a []).length
   ·rw[List.getD_eq_getElem?_getD,List.getElem?_set_self hl,Option.getD_some]
    exact hd
   ·rw[List.getD_eq_getElem?_getD,List.getElem?_eq_none (by rw[List.length_set];omega),Option.getD_none]
    omega
  ·rw[List.getD_eq_getElem?_getD,List.getElem?_set_ne hjj,←List.getD_eq_getElem?_getD]
   exact b a ha j hj
 ·rw[List.getD_eq_getElem?_getD (l:=L.set e _),List.getElem?_set_ne (Ne.symm hie),←List.getD_eq_getElem?_getD]
  exact b i hi j hj
theorem wid_set {w e:Nat} {L:List (List Int)} {q:List Int} (hw:Wid w L) (hq:q.length=w):Wid w (L.set e q):=by
 intro r hr
 rcases List.mem_or_eq_of_mem_set hr with h|h
 ·exact hw r h
 ·rw[h];exact hq
theorem s_l01Bad {h0 h:AH} {n lo:Nat} {v:Value} {x:Sch} {Q:Value→AH→Prop} (s:Src h0 h n) (xb:SchB x) (hlo:n<lo∧lo≤h.length) (hv:SchD lo h v x) (h9:-100≤x.k∧x.k≤100) (nk:NK v)
  (hQ:∀ (x':Sch) (v':Value) (h':AH),Kp n h h'→Src h0 h' n→SchD lo h' v' x'→SchB x'→NK v'→Q (schV x' v') h'):WF S 65 [srcP n,schV x v] h Q:=by
 refine WF_fn (fn:=c65) rfl rfl ?_
 dsimp only[c65,oO,oM,oS,oG,oK,oE,oL,oF,oX,oN]
 have lt:=s.lt
 have l0:=pre_len s.p
 have v1:isOne v=true:=hv.now.one
 obtain⟨b1,b2,b3,b4,b5⟩:=xb
 ((try simp (maxSteps:=3000000) (dsimp:=false) (disch:=first|omega|simp only[lnx];omega) only[↓ypre,ypost,↓reduceIte,reduceEqDiff,reduceAdd,reduceSub,reduceLeDiff,zz0,ynew,schV,v1]);try simp only[yback])
 generalize hH1:AH.new h _=H1
 obtain⟨hb1,p1,n1⟩:=new_facts hH1
 generalize hH2:AH.new H1 _=H2
 obtain⟨hb2,p2,n2⟩:=new_facts hH2
 have old:∀ (x':Sch) (h':AH) (B B':Blk),x'.ps=x.ps→Kp n h h'→Src h0 h' n→SchB x'→Q (schV x' v) ((h'.put H1.length B).put h.length B'):=fun x' h' B B' e kk ss tb=>by
  have kf:Kp n h ((h'.put H1.length B).put h.length B'):=(kk.putb (m:=H1.length) (by omega)).putb (m:=h.length) (by omega)
  exact hQ x' v _ kf ((ss.putb (by omega) (by omega)).putb (by omega) (by omega)) (fun h2 k2 k3=>by rw[e];exact hv.kp kf hlo.1 h2 k2 k3) tb nk
 refine s_l01Next (s.kp (p1.trans p2)) fun r H3 k3 l3 s3 hr _=>?_
 have g1:=k3.get (by omega) (pre_get p2 hb1)
 have g2:=k3.get (by omega) hb2
 have kk3:Kp n h H3:=(Kp.of (p1.trans p2)).trans k3
 by_cases r0:r=0
 ·((try simp (maxSteps:=3000000) (dsimp:=false) (disch:=first|omega|simp only[lnx];omega) only[↓ypre,ypost,↓reduceIte,reduceEqDiff,reduceAdd,reduceSub,reduceLeDiff,zz0,ynew,decide_eq_true r0,fillL,zrep]);try simp only[yback])
  generalize hH4:AH.new H3 _=H4
  obtain⟨hb4,p4,n4⟩:=new_facts hH4
  have kv:=kp_new (n:=n) (ns:=[0,4,7,3]) hH4 (by omega)
  refine s_l01Pick (s3.kp p4) kv (by simp) (by simp) fun j H5 k5 l5 s5 hj=>?_
  have bp:=pick_in (l:=[0,4,7,3]) (a:=0) (b:=7) (by simp) hj
  generalize ([0,4,7,3]:List Int).getD j 0=p at bp
  have g1:=k5.get (by omega) (pre_get p4 g1)
  have g2:=k5.get (by omega) (pre_get p4 g2)
  have lg1:=get_lt g1
  have lg2:=get_lt g2
  ((try simp (maxSteps:=3000000) (dsimp:=false) (disch:=first|omega|simp only[lnx];omega) only[↓ypre,ypost,↓reduceIte,reduceEqDiff,reduceAdd,reduceSub,reduceLeDiff,zz0,ynew,wr_of g1,v1,wr_of g2,splice_eq,rdn_put_same]);try simp only[yback])
  exact old ⟨p,x.n,x.m,x.k,x.ps⟩ H5 _ _ rfl (kk3.trans ((Kp.of p4).trans k5)) s5 ⟨by show -1000≤p∧p≤1000;omega,b2,b3,b4,b5⟩
 by_cases r1:r=1
 ·((try simp (maxSteps:=3000000) (dsimp:=false) (disch:=first|omega|simp only[lnx];omega) only[↓ypre,ypost,↓reduceIte,reduceEqDiff,reduceAdd,reduceSub,reduceLeDiff,zz0,ynew,decide_eq_false r0,decide_eq_true r1,fillL,zrep]);try simp only[yback])
  generalize hH4:AH.new H3 _=H4
  obtain⟨hb4,p4,n4⟩:=new_facts hH4
  have kv:=kp_new (n:=n) (ns:=[0,4,-1]) hH4 (by omega)
  refine s_l01Pick (s3.kp p4) kv (by simp) (by simp) fun j H5 k5 l5 s5 hj=>?_
  have bp:=pick_in (l:=[0,4,-1]) (a:=-1) (b:=4) (by simp) hj
  generalize ([0,4,-1]:List Int).getD j 0=p at bp
  have g1:=k5.get (by omega) (pre_get p4 g1)
  have g2:=k5.get (by omega) (pre_get p4 g2)
  have lg1:=get_lt g1
  have lg2:=get_lt g2
  ((try simp (maxSteps:=3000000) (dsimp:=false) (disch:=first|omega|simp only[lnx];omega) only[↓ypre,ypost,↓reduceIte,reduceEqDiff,reduceAdd,reduceSub,reduceLeDiff,zz0,ynew,wr_of g1,v1,wr_of g2,splice_eq,rdn_put_same]);try simp only[yback])
  exact old ⟨x.p,p,x.m,x.k,x.ps⟩ H5 _ _ rfl (kk3.trans ((Kp.of p4).trans k5)) s5 ⟨b1,by show -1000≤p∧p≤1000;omega,b3,b4,b5⟩
 by_cases r2:r=2
 ·((try simp (maxSteps:=3000000) (dsimp:=false) (disch:=first|omega|simp only[lnx];omega) only[↓ypre,ypost,↓reduceIte,reduceEqDiff,reduceAdd,reduceSub,reduceLeDiff,zz0,ynew,decide_eq_false r0,decide_eq_false r1,decide_eq_true r2,rd1_of g1,wrap64_in,fillL,zrep]);try simp only[yback])
  generalize hH4:AH.new H3 _=H4
  obtain⟨hb4,p4,n4⟩:=new_facts hH4
  have kv:=kp_new (n:=n) (ns:=[0,4,x.k-1]) hH4 (by omega)
  refine s_l01Pick (s3.kp p4) kv (by simp) (by simp) fun j H5 k5 l5 s5 hj=>?_
  have bp:=pick_in (l:=[0,4,x.k-1]) (a:=-1000) (b:=1000) (by simp;omega) hj
  generalize ([0,4,x.k-1]:List Int).getD j 0=p at bp
  have g1:=k5.get (by omega) (pre_get p4 g1)
  have g2:=k5.get (by omega) (pre_get p4 g2)
  have lg1:=get_lt g1
  have lg2:=get_lt g2
  ((try simp (maxSteps:=3000000) (dsimp:=false) (disch:=first|omega|simp only[lnx];omega) only[↓ypre,ypost,↓reduceIte,reduceEqDiff,reduceAdd,reduceSub,reduceLeDiff,zz0,ynew,wr_of g1,v1,wr_of g2,splice_eq,rdn_put_same]);try simp only[yback])
  exact old ⟨x.p,x.n,x.m,p,x.ps⟩ H5 _ _ rfl (kk3.trans ((Kp.of p4).trans k5)) s5 ⟨b1,b2,b3,bp,b5⟩
 have lg1:=get_lt g1
 have lg2:=get_lt g2
 have e3:=(hv.kp kk3 hlo.1).now
 have hl:=e3.1.len
 have kf:Kp n h (H3.put H1.length ⟨[I64 x.p,I64 x.n,I64 x.m,I64 x.k,v],26,false,true⟩):=kk3.putb (m:=H1.length) (by omega)
 have done:Q (schV x v) (H3.put H1.length ⟨[I64 x.p,I64 x.n,I64 x.m,I64 x.k,v],26,false,true⟩):=hQ x v _ kf (s3.putb (by omega) (by omega)) (hv.kp kf hlo.1) ⟨b1,b2,b3,b4,b5⟩ nk
 by_cases r3:r=3∨r=4∨r=5
 case neg=>
  ((try simp (maxSteps:=3000000) (dsimp:=false) (disch:=first|omega|simp only[lnx];omega) only[↓ypre,ypost,↓reduceIte,reduceEqDiff,reduceAdd,reduceSub,reduceLeDiff,zz0,ynew,decide_eq_false r0,decide_eq_false r1,decide_eq_false r2,decide_eq_false (show ¬ r=3 by omega),decide_eq_false (show ¬ r=4 by omega),decide_eq_false (show ¬ r=5 by omega),v1,rdn_of g1,wr_of g2,splice_eq,rdn_put_same]);try simp only[yback])
  exact done
 by_cases hk:(x.ps.length:Int)>0
 case neg=>
  rcases r3 with rfl|rfl|rfl
  ·((try simp (maxSteps:=3000000) (dsimp:=false) (disch:=first|omega|simp only[lnx];omega) only[↓ypre,ypost,↓reduceIte,reduceEqDiff,reduceAdd,reduceSub,reduceLeDiff,zz0,ynew,decide_eq_false r0,decide_eq_false r1,decide_eq_false r2,decide_eq_true (show (3:Int)=3 from rfl),rd1_of g1,hl,decide_eq_false hk,v1,rdn_of g1,wr_of g2,splice_eq,rdn_put_same]);try simp only[yback])
   exact done
  ·((try simp (maxSteps:=3000000) (dsimp:=false) (disch:=first|omega|simp only[lnx];omega) only[↓ypre,ypost,↓reduceIte,reduceEqDiff,reduceAdd,reduceSub,reduceLeDiff,zz0,ynew,decide_eq_false r0,decide_eq_false r1,decide_eq_false r2,decide_eq_false (show ¬ (4:Int)=3 by omega),decide_eq_true (show (4:Int)=4 from rfl),rd1_of g1,hl,decide_eq_false hk,v1,rdn_of g1,wr_of g2,splice_eq,rdn_put_same]);try simp only[yback])
   exact done
  ·((try simp (maxSteps:=3000000) (dsimp:=false) (disch:=first|omega|simp only[lnx];omega) only[↓ypre,ypost,↓reduceIte,reduceEqDiff,reduceAdd,reduceSub,reduceLeDiff,zz0,ynew,decide_eq_false r0,decide_eq_false r1,decide_eq_false r2,decide_eq_false (show ¬ (5:Int)=3 by omega),decide_eq_false (show ¬ (5:Int)=4 by omega),decide_eq_true (show (5:Int)=5 from rfl),rd1_of g1,hl,decide_eq_false hk,v1,rdn_of g1,wr_of g2,splice_eq,rdn_put_same]);try simp only[yback])
   exact done
 obtain⟨vb,vo,hve,hrd⟩:=e3.1.rdAll (by omega)
 rcases r3 with rfl|rfl|rfl
 ·((try simp (maxSteps:=3000000) (dsimp:=false) (disch:=first|omega|simp only[lnx];omega) only[↓ypre,ypost,↓reduceIte,reduceEqDiff,reduceAdd,reduceSub,reduceLeDiff,zz0,ynew,decide_eq_false r0,decide_eq_false r1,decide_eq_false r2,decide_eq_true (show (3:Int)=3 from rfl),rd1_of g1,hl,decide_eq_true hk,fillL,zrep]);try simp only[yback])
  refine copy_zero e3.1 (by omega) (by unfold SmallX at b5;omega) fun H4 l4 p4 g4=>?_
  have n3:=s3.lt
  have s4:=s3.kp p4
  obtain⟨L,hL⟩:∃ L:Nat,L=x.ps.length:=⟨_,rfl⟩
  refine WO_cut (fun f:Fr=>f 0=srcP n∧f 3=.pointer (some ⟨h.length,0,none⟩)∧f 4=.pointer (some ⟨H1.length,0,none⟩)∧f 5=I64 x.ps.length∧f 43=.slice (some ⟨H3.length+1,0,none⟩) x.ps.length 27∧True) ⟨(by first|rfl|simp[upd_apply]),(by first|rfl|simp[upd_apply]),(by first|rfl|simp[upd_apply]),(by first|rfl|simp[upd_apply]),(by first|rfl|simp[upd_apply]),trivial⟩ ?_
  rintro f ⟨f0,f3,f4,f5,f43,-⟩
  ((try simp (maxSteps:=3000000) (dsimp:=false) (disch:=first|omega|simp only[lnx];omega) only[↓ypre,ypost,↓reduceIte,reduceEqDiff,reduceAdd,reduceSub,reduceLeDiff,zz0,ynew,f0,f3,f4,f5,f43]);try simp only[yback])
  refine s_l01Next s4 fun a H5 k5 l5 s5 ha _=>?_
  have ha:=ha (by omega)
  obtain⟨a,rfl⟩:∃ a':Nat,a=a':=⟨a.toNat,by omega⟩
  have g5:=k5.get (by omega) g4
  have w27:Wid 27 x.ps:=e3.1.widL
  have e5:Els .u8 27 H5 (.slice (some ⟨H3.length+1,0,none⟩) x.ps.length 27) x.ps:=(blk_kN (lo:=H3.length+1) g5 w27 (Nat.le_refl _)).now
  obtain⟨na,oa,ixa,rda⟩:=e5.rdw (i:=a) (by omega)
  have hqa:(x.ps.getD a []).length=27:=e5.wid (by omega)
  ((try simp (maxSteps:=3000000) (dsimp:=false) (disch:=first|omega|simp only[lnx];omega) only[↓ypre,ypost,↓reduceIte,reduceEqDiff,reduceAdd,reduceSub,reduceLeDiff,zz0,ynew,f0,f3,f4,f5,f43,ixa,rda,zeros27,cel_len,cel_all,hqa,List.length_replicate,sp27z hqa]);try simp only[yback])
  generalize hH6:AH.new H5 _=H6
  obtain⟨g6,p6,n6⟩:=new_facts hH6
  refine s_l01Next (s5.kp p6) fun c0 H7 k7 l7 s7 hc _=>?_
  have hc:=hc (by omega)
  obtain⟨c0,rfl⟩:∃ c':Nat,c0=c':=⟨c0.toNat,by omega⟩
  have n5:=s5.lt
  have g6:=k7.get (by omega) g6
  refine WO_cut (fun f:Fr=>f 0=srcP n∧f 3=.pointer (some ⟨h.length,0,none⟩)∧f 4=.pointer (some ⟨H1.length,0,none⟩)∧f 5=I64 x.ps.length∧f 6=.slice (some ⟨H3.length+1,0,none⟩) x.ps.length 27∧f 7=.pointer (some ⟨H5.length,0,none⟩)∧f 51=I64 c0∧True) ⟨(by first|rfl|exact f0|simp[upd_apply,f0]),(by first|rfl|exact f3|simp[upd_apply,f3]),(by first|rfl|exact f4|simp[upd_apply,f4]),(by first|rfl|exact f5|simp[upd_apply,f5]),(by first|rfl|simp[upd_apply]),(by first|rfl|simp[upd_apply]),(by first|rfl|simp[upd_apply]),trivial⟩ ?_
  rintro f ⟨f0,f3,f4,f5,f6,f7,f51,-⟩
  ((try simp (maxSteps:=3000000) (dsimp:=false) (disch:=first|omega|simp only[lnx];omega) only[↓ypre,ypost,↓reduceIte,reduceEqDiff,reduceAdd,reduceSub,reduceLeDiff,zz0,ynew,f0,f3,f4,f5,f6,f7,f51]);try simp only[yback])
  refine s_l01Next s7 fun d H8 k8 l8 s8 hd _=>?_
  have hd:=hd (by omega)
  have g6:=k8.get (by omega) g6
  have ic:=ixa_u (n:=H5.length) (off:=9) (len:=9) (kk:=.i64) (j:=c0) (by omega)
  refine WO_cut (fun f:Fr=>f 0=srcP n∧f 3=.pointer (some ⟨h.length,0,none⟩)∧f 4=.pointer (some ⟨H1.length,0,none⟩)∧f 5=I64 x.ps.length∧f 6=.slice (some ⟨H3.length+1,0,none⟩) x.ps.length 27∧f 7=.pointer (some ⟨H5.length,0,none⟩)∧f 51=I64 c0∧f 53=I64 d∧True) ⟨(by first|rfl|exact f0|simp[upd_apply,f0]),(by first|rfl|exact f3|simp[upd_apply,f3]),(by first|rfl|exact f4|simp[upd_apply,f4]),(by first|rfl|exact f5|simp[upd_apply,f5]),(by first|rfl|exact f6|simp[upd_apply,f6]),(by first|rfl|exact f7|simp[upd_apply,f7]),(by first|rfl|exact f51|simp[upd_apply,f51]),(by first|rfl|simp[upd_apply]),trivial⟩ ?_
  rintro f ⟨f0,f3,f4,f5,f6,f7,f51,f53,-⟩
  have st:=cel_set (k:=.u8) (q:=x.ps.getD a []) (j:=9+c0) (x:=d) (by omega)
  ((try simp (maxSteps:=3000000) (dsimp:=false) (disch:=first|omega|simp only[lnx];omega) only[↓ypre,ypost,↓reduceIte,reduceEqDiff,reduceAdd,reduceSub,reduceLeDiff,zz0,ynew,f0,f3,f4,f5,f6,f7,f51,f53,wrap8_in,ic,wr_of g6,st,cel_len,hqa]);try simp only[yback])
  refine⟨by omega,?_⟩
  generalize hq':(x.ps.getD a []).set (9+c0) d=q'
  have lq':q'.length=27:=by rw[←hq',List.length_set];exact hqa
  generalize hH9:AH.put H8 _ _=H9
  have n7:=s7.lt
  have n8:=s8.lt
  have lg6:=get_lt g6
  have l9:H9.length=H8.length:=by rw[←hH9,len_put]
  have g9:H9.get H5.length=some ⟨cel .u8 q',53,false,true⟩:=hH9▸get_put_same lg6
  have s9:Src h0 H9 n:=hH9▸s8.putb (by omega) (by omega)
  have k59:Kp n H5 H9:=hH9▸(((Kp.of p6).trans k7).trans k8).putb (by omega)
  refine s_l01Next s9 fun e H10 k10 l10 s10 he _=>?_
  have he:=he (by omega)
  obtain⟨e,rfl⟩:∃ e':Nat,e=e':=⟨e.toNat,by omega⟩
  refine⟨⟨_,rfl,k10⟩,?_⟩
  have g10:=k10.get (by omega) g9
  have kA:=k59.trans k10
  have g510:=kA.get (by omega) g5
  have ie:ixsV 27 (.slice (some ⟨H3.length+1,0,none⟩) x.ps.length 27) (I64 e)=some (.pointer (some ⟨H3.length+1,e*27,none⟩)):=by
   rw[ixsV_some,if_pos (by omega),Int.toNat_natCast,Nat.zero_add]
  refine WO_cut (fun f:Fr=>f 0=srcP n∧f 3=.pointer (some ⟨h.length,0,none⟩)∧f 4=.pointer (some ⟨H1.length,0,none⟩)∧f 6=.slice (some ⟨H3.length+1,0,none⟩) x.ps.length 27∧f 7=.pointer (some ⟨H5.length,0,none⟩)∧f 57=.slice (some ⟨H3.length+1,0,none⟩) x.ps.length 27∧f 58=srcP n∧f 60=I64 e∧True) ⟨(by first|rfl|exact f0|simp[upd_apply,f0]),(by first|rfl|exact f3|simp[upd_apply,f3]),(by first|rfl|exact f4|simp[upd_apply,f4]),(by first|rfl|exact f6|simp[upd_apply,f6]),(by first|rfl|exact f7|simp[upd_apply,f7]),(by first|rfl|simp[upd_apply]),(by first|rfl|simp[upd_apply]),(by first|rfl|simp[upd_apply]),trivial⟩ ?_
  rintro f ⟨f0,f3,f4,f6,f7,f57,f58,f60,-⟩
  have rd27:H10.rdn H5.length 0 27=some (cel .u8 q'):=by
   rw[rdn_of g10,if_pos (by rw[cel_len,lq'];omega),List.drop_zero,List.take_of_length_le (by rw[cel_len,lq'];exact Nat.le_refl _)]
  have fl:=flat_len w27
  have sf:=splice_flat (k:=.u8) lq' w27 (j:=e) (by omega)
  have g1:=kA.get (by omega) (k5.get (by omega) (pre_get p4 g1))
  have g2:=kA.get (by omega) (k5.get (by omega) (pre_get p4 g2))
  have lg1:=get_lt g1
  have lg2:=get_lt g2
  have o1:isOne (.slice (some ⟨H3.length+1,0,none⟩) x.ps.length 27)=true:=rfl
  have oc:cellsL (.slice (some ⟨H3.length+1,0,none⟩) x.ps.length 27)=[.slice (some ⟨H3.length+1,0,none⟩) x.ps.length 27]:=rfl
  ((try simp (maxSteps:=3000000) (dsimp:=false) (disch:=first|omega|simp only[lnx];omega) only[↓ypre,ypost,↓reduceIte,reduceEqDiff,reduceAdd,reduceSub,reduceLeDiff,zz0,ynew,f0,f3,f4,f6,f7,f57,f58,f60,rd27,ie,wr_of g510,cel_len,cel_all,lq',sf,fl,wr_of g1,wr_of g2,splice_eq]);try simp only[yback])
  refine⟨by omega,by omega,?_⟩
  ((try simp (maxSteps:=3000000) (dsimp:=false) (disch:=first|omega|simp only[lnx];omega) only[↓ypre,ypost,↓reduceIte,reduceEqDiff,reduceAdd,reduceSub,reduceLeDiff,zz0,ynew,f0,f3,f4,f6,f7,f57,f58,f60,wr_of g1,wr_of g2,splice_eq,rdn_put_same]);try simp only[yback])
  have kk:=(((kk3.trans (Kp.of p4)).trans k5).trans kA)
  have el:(x.ps.set e q').length=x.ps.length:=List.length_set
  rw[←el]
  refine hQ ⟨x.p,x.n,x.m,x.k,x.ps.set e q'⟩ _ _ (((kk.putb (m:=H1.length) (by omega)).putb (m:=h.length) (by omega)).putb (m:=H3.length+1) (by omega)) (((s10.putb (m:=H1.length) (by omega) (by omega)).putb (m:=h.length) (by omega) (by omega)).putb (m:=H3.length+1) (by omega) (by omega)) ?_ ⟨b1,b2,b3,b4,by unfold SmallX at b5 ⊢;rw[el];exact b5⟩ (.inr ⟨_,_,_,rfl⟩)
  have bt:Byt 27 (x.ps.set e q'):=hq'▸byt_set e3.2 (by omega) (by omega) (by omega)
  have lgk:=get_lt g510
  exact fun h2 k2 k3=>⟨blk_kN (lo:=lo) (m:=H3.length+1) (get_put_same (by rw[len_put,len_put];omega)) (wid_set w27 lq') (by omega) h2 k2 k3,bt⟩
 ·((try simp (maxSteps:=3000000) (dsimp:=false) (disch:=first|omega|simp only[lnx];omega) only[↓ypre,ypost,↓reduceIte,reduceEqDiff,reduceAdd,reduceSub,reduceLeDiff,zz0,ynew,decide_eq_false r0,decide_eq_false r1,decide_eq_false r2,decide_eq_false (show ¬ (4:Int)=3 by omega),decide_eq_true (show (4:Int)=4 from rfl),rd1_of g1,hl,decide_eq_true hk,fillL,zrep]);try simp only[yback])
  refine copy_zero e3.1 (by omega) (by unfold SmallX at b5;omega) fun H4 l4 p4 g4=>?_
  have n3:=s3.lt
  have s4:=s3.kp p4
  obtain⟨L,hL⟩:∃ L:Nat,L=x.ps.length:=⟨_,rfl⟩
  refine WO_cut (fun f:Fr=>f 0=srcP n∧f 3=.pointer (some ⟨h.length,0,none⟩)∧f 4=.pointer (some ⟨H1.length,0,none⟩)∧f 5=I64 x.ps.length∧f 43=.slice (some ⟨H3.length+1,0,none⟩) x.ps.length 27∧True) ⟨(by first|rfl|exact f0|simp[upd_apply,f0]),(by first|rfl|exact f3|simp[upd_apply,f3]),(by first|rfl|exact f4|simp[upd_apply,f4]),(by first|rfl|exact f5|simp[upd_apply,f5]),(by first|rfl|exact f43|simp[upd_apply,f43]),trivial⟩ ?_
  rintro f ⟨f0,f3,f4,f5,f43,-⟩
  ((try simp (maxSteps:=3000000) (dsimp:=false) (disch:=first|omega|simp only[lnx];omega) only[↓ypre,ypost,↓reduceIte,reduceEqDiff,reduceAdd,reduceSub,reduceLeDiff,zz0,ynew,f0,f3,f4,f5,f43]);try simp only[yback])
  refine s_l01Next s4 fun a H5 k5 l5 s5 ha _=>?_
  have ha:=ha (by omega)
  obtain⟨a,rfl⟩:∃ a':Nat,a=a':=⟨a.toNat,by omega⟩
  have g5:=k5.get (by omega) g4
  have w27:Wid 27 x.ps:=e3.1.widL
  have e5:Els .u8 27 H5 (.slice (some ⟨H3.length+1,0,none⟩) x.ps.length 27) x.ps:=(blk_kN (lo:=H3.length+1) g5 w27 (Nat.le_refl _)).now
  obtain⟨na,oa,ixa,rda⟩:=e5.rdw (i:=a) (by omega)
  have hqa:(x.ps.getD a []).length=27:=e5.wid (by omega)
  ((try simp (maxSteps:=3000000) (dsimp:=false) (disch:=first|omega|simp only[lnx];omega) only[↓ypre,ypost,↓reduceIte,reduceEqDiff,reduceAdd,reduceSub,reduceLeDiff,zz0,ynew,f0,f3,f4,f5,f43,ixa,rda,zeros27,cel_len,cel_all,hqa,List.length_replicate,sp27z hqa]);try simp only[yback])
  generalize hH6:AH.new H5 _=H6
  obtain⟨g6,p6,n6⟩:=new_facts hH6
  refine s_l01Next (s5.kp p6) fun c0 H7 k7 l7 s7 hc _=>?_
  have hc:=hc (by omega)
  obtain⟨c0,rfl⟩:∃ c':Nat,c0=c':=⟨c0.toNat,by omega⟩
  have n5:=s5.lt
  have g6:=k7.get (by omega) g6
  refine WO_cut (fun f:Fr=>f 0=srcP n∧f 3=.pointer (some ⟨h.length,0,none⟩)∧f 4=.pointer (some ⟨H1.length,0,none⟩)∧f 5=I64 x.ps.length∧f 6=.slice (some ⟨H3.length+1,0,none⟩) x.ps.length 27∧f 7=.pointer (some ⟨H5.length,0,none⟩)∧f 51=I64 c0∧True) ⟨(by first|rfl|exact f0|simp[upd_apply,f0]),(by first|rfl|exact f3|simp[upd_apply,f3]),(by first|rfl|exact f4|simp[upd_apply,f4]),(by first|rfl|exact f5|simp[upd_apply,f5]),(by first|rfl|exact f6|simp[upd_apply,f6]),(by first|rfl|exact f7|simp[upd_apply,f7]),(by first|rfl|exact f51|simp[upd_apply,f51]),trivial⟩ ?_
  rintro f ⟨f0,f3,f4,f5,f6,f7,f51,-⟩
  ((try simp (maxSteps:=3000000) (dsimp:=false) (disch:=first|omega|simp only[lnx];omega) only[↓ypre,ypost,↓reduceIte,reduceEqDiff,reduceAdd,reduceSub,reduceLeDiff,zz0,ynew,f0,f3,f4,f5,f6,f7,f51]);try simp only[yback])
  refine s_l01Next s7 fun d H8 k8 l8 s8 hd _=>?_
  have hd:=hd (by omega)
  have g6:=k8.get (by omega) g6
  have ic:=ixa_u (n:=H5.length) (off:=9) (len:=9) (kk:=.i64) (j:=c0) (by omega)
  refine WO_cut (fun f:Fr=>f 0=srcP n∧f 3=.pointer (some ⟨h.length,0,none⟩)∧f 4=.pointer (some ⟨H1.length,0,none⟩)∧f 5=I64 x.ps.length∧f 6=.slice (some ⟨H3.length+1,0,none⟩) x.ps.length 27∧f 7=.pointer (some ⟨H5.length,0,none⟩)∧f 51=I64 c0∧f 53=I64 d∧True) ⟨(by first|rfl|exact f0|simp[upd_apply,f0]),(by first|rfl|exact f3|simp[upd_apply,f3]),(by first|rfl|exact f4|simp[upd_apply,f4]),(by first|rfl|exact f5|simp[upd_apply,f5]),(by first|rfl|exact f6|simp[upd_apply,f6]),(by first|rfl|exact f7|simp[upd_apply,f7]),(by first|rfl|exact f51|simp[upd_apply,f51]),(by first|rfl|exact f53|simp[upd_apply,f53]),trivial⟩ ?_
  rintro f ⟨f0,f3,f4,f5,f6,f7,f51,f53,-⟩
  have st:=cel_set (k:=.u8) (q:=x.ps.getD a []) (j:=9+c0) (x:=d) (by omega)
  ((try simp (maxSteps:=3000000) (dsimp:=false) (disch:=first|omega|simp only[lnx];omega) only[↓ypre,ypost,↓reduceIte,reduceEqDiff,reduceAdd,reduceSub,reduceLeDiff,zz0,ynew,f0,f3,f4,f5,f6,f7,f51,f53,wrap8_in,ic,wr_of g6,st,cel_len,hqa]);try simp only[yback])
  refine⟨by omega,?_⟩
  generalize hq':(x.ps.getD a []).set (9+c0) d=q'
  have lq':q'.length=27:=by rw[←hq',List.length_set];exact hqa
  generalize hH9:AH.put H8 _ _=H9
  have n7:=s7.lt
  have n8:=s8.lt
  have lg6:=get_lt g6
  have l9:H9.length=H8.length:=by rw[←hH9,len_put]
  have g9:H9.get H5.length=some ⟨cel .u8 q',53,false,true⟩:=hH9▸get_put_same lg6
  have s9:Src h0 H9 n:=hH9▸s8.putb (by omega) (by omega)
  have k59:Kp n H5 H9:=hH9▸(((Kp.of p6).trans k7).trans k8).putb (by omega)
  refine s_l01Next s9 fun e H10 k10 l10 s10 he _=>?_
  have he:=he (by omega)
  obtain⟨e,rfl⟩:∃ e':Nat,e=e':=⟨e.toNat,by omega⟩
  refine⟨⟨_,rfl,k10⟩,?_⟩
  have g10:=k10.get (by omega) g9
  have kA:=k59.trans k10
  have g510:=kA.get (by omega) g5
  have ie:ixsV 27 (.slice (some ⟨H3.length+1,0,none⟩) x.ps.length 27) (I64 e)=some (.pointer (some ⟨H3.length+1,e*27,none⟩)):=by
   rw[ixsV_some,if_pos (by omega),Int.toNat_natCast,Nat.zero_add]
  refine WO_cut (fun f:Fr=>f 0=srcP n∧f 3=.pointer (some ⟨h.length,0,none⟩)∧f 4=.pointer (some ⟨H1.length,0,none⟩)∧f 6=.slice (some ⟨H3.length+1,0,none⟩) x.ps.length 27∧f 7=.pointer (some ⟨H5.length,0,none⟩)∧f 57=.slice (some ⟨H3.length+1,0,none⟩) x.ps.length 27∧f 58=srcP n∧f 60=I64 e∧True) ⟨(by first|rfl|exact f0|simp[upd_apply,f0]),(by first|rfl|exact f3|simp[upd_apply,f3]),(by first|rfl|exact f4|simp[upd_apply,f4]),(by first|rfl|exact f6|simp[upd_apply,f6]),(by first|rfl|exact f7|simp[upd_apply,f7]),(by first|rfl|exact f57|simp[upd_apply,f57]),(by first|rfl|exact f58|simp[upd_apply,f58]),(by first|rfl|exact f60|simp[upd_apply,f60]),trivial⟩ ?_
  rintro f ⟨f0,f3,f4,f6,f7,f57,f58,f60,-⟩
  have rd27:H10.rdn H5.length 0 27=some (cel .u8 q'):=by
   rw[rdn_of g10,if_pos (by rw[cel_len,lq'];omega),List.drop_zero,List.take_of_length_le (by rw[cel_len,lq'];exact Nat.le_refl _)]
  have fl:=flat_len w27
  have sf:=splice_flat (k:=.u8) lq' w27 (j:=e) (by omega)
  have g1:=kA.get (by omega) (k5.get (by omega) (pre_get p4 g1))
  have g2:=kA.get (by omega) (k5.get (by omega) (pre_get p4 g2))
  have lg1:=get_lt g1
  have lg2:=get_lt g2
  have o1:isOne (.slice (some ⟨H3.length+1,0,none⟩) x.ps.length 27)=true:=rfl
  have oc:cellsL (.slice (some ⟨H3.length+1,0,none⟩) x.ps.length 27)=[.slice (some ⟨H3.length+1,0,none⟩) x.ps.length 27]:=rfl
  ((try simp (maxSteps:=3000000) (dsimp:=false) (disch:=first|omega|simp only[lnx];omega) only[↓ypre,ypost,↓reduceIte,reduceEqDiff,reduceAdd,reduceSub,reduceLeDiff,zz0,ynew,f0,f3,f4,f6,f7,f57,f58,f60,rd27,ie,wr_of g510,cel_len,cel_all,lq',sf,fl,wr_of g1,wr_of g2,splice_eq]);try simp only[yback])
  refine⟨by omega,by omega,?_⟩
  ((try simp (maxSteps:=3000000) (dsimp:=false) (disch:=first|omega|simp only[lnx];omega) only[↓ypre,ypost,↓reduceIte,reduceEqDiff,reduceAdd,reduceSub,reduceLeDiff,zz0,ynew,f0,f3,f4,f6,f7,f57,f58,f60,wr_of g1,wr_of g2,splice_eq,rdn_put_same]);try simp only[yback])
  have kk:=(((kk3.trans (Kp.of p4)).trans k5).trans kA)
  have el:(x.ps.set e q').length=x.ps.length:=List.length_set
  rw[←el]
  refine hQ ⟨x.p,x.n,x.m,x.k,x.ps.set e q'⟩ _ _ (((kk.putb (m:=H1.length) (by omega)).putb (m:=h.length) (by omega)).putb (m:=H3.length+1) (by omega)) (((s10.putb (m:=H1.length) (by omega) (by omega)).putb (m:=h.length) (by omega) (by omega)).putb (m:=H3.length+1) (by omega) (by omega)) ?_ ⟨b1,b2,b3,b4,by unfold SmallX at b5 ⊢;rw[el];exact b5⟩ (.inr ⟨_,_,_,rfl⟩)
  have bt:Byt 27 (x.ps.set e q'):=hq'▸byt_set e3.2 (by omega) (by omega) (by omega)
  have lgk:=get_lt g510
  exact fun h2 k2 k3=>⟨blk_kN (lo:=lo) (m:=H3.length+1) (get_put_same (by rw[len_put,len_put];omega)) (wid_set w27 lq') (by omega) h2 k2 k3,bt⟩
 ·((try simp (maxSteps:=3000000) (dsimp:=false) (disch:=first|omega|simp only[lnx];omega) only[↓ypre,ypost,↓reduceIte,reduceEqDiff,reduceAdd,reduceSub,reduceLeDiff,zz0,ynew,decide_eq_false r0,decide_eq_false r1,decide_eq_false r2,decide_eq_false (show ¬ (5:Int)=3 by omega),decide_eq_false (show ¬ (5:Int)=4 by omega),decide_eq_true (show (5:Int)=5 from rfl),rd1_of g1,hl,decide_eq_true hk,fillL,zrep]);try simp only[yback])
  refine copy_zero e3.1 (by omega) (by unfold SmallX at b5;omega) fun H4 l4 p4 g4=>?_
  have n3:=s3.lt
  have s4:=s3.kp p4
  obtain⟨L,hL⟩:∃ L:Nat,L=x.ps.length:=⟨_,rfl⟩
  refine WO_cut (fun f:Fr=>f 0=srcP n∧f 3=.pointer (some ⟨h.length,0,none⟩)∧f 4=.pointer (some ⟨H1.length,0,none⟩)∧f 5=I64 x.ps.length∧f 43=.slice (some ⟨H3.length+1,0,none⟩) x.ps.length 27∧True) ⟨(by first|rfl|exact f0|simp[upd_apply,f0]),(by first|rfl|exact f3|simp[upd_apply,f3]),(by first|rfl|exact f4|simp[upd_apply,f4]),(by first|rfl|exact f5|simp[upd_apply,f5]),(by first|rfl|exact f43|simp[upd_apply,f43]),trivial⟩ ?_
  rintro f ⟨f0,f3,f4,f5,f43,-⟩
  ((try simp (maxSteps:=3000000) (dsimp:=false) (disch:=first|omega|simp only[lnx];omega) only[↓ypre,ypost,↓reduceIte,reduceEqDiff,reduceAdd,reduceSub,reduceLeDiff,zz0,ynew,f0,f3,f4,f5,f43]);try simp only[yback])
  refine s_l01Next s4 fun a H5 k5 l5 s5 ha _=>?_
  have ha:=ha (by omega)
  obtain⟨a,rfl⟩:∃ a':Nat,a=a':=⟨a.toNat,by omega⟩
  have g5:=k5.get (by omega) g4
  have w27:Wid 27 x.ps:=e3.1.widL
  have e5:Els .u8 27 H5 (.slice (some ⟨H3.length+1,0,none⟩) x.ps.length 27) x.ps:=(blk_kN (lo:=H3.length+1) g5 w27 (Nat.le_refl _)).now
  obtain⟨na,oa,ixa,rda⟩:=e5.rdw (i:=a) (by omega)
  have hqa:(x.ps.getD a []).length=27:=e5.wid (by omega)
  ((try simp (maxSteps:=3000000) (dsimp:=false) (disch:=first|omega|simp only[lnx];omega) only[↓ypre,ypost,↓reduceIte,reduceEqDiff,reduceAdd,reduceSub,reduceLeDiff,zz0,ynew,f0,f3,f4,f5,f43,ixa,rda,zeros27,cel_len,cel_all,hqa,List.length_replicate,sp27z hqa]);try simp only[yback])
  generalize hH6:AH.new H5 _=H6
  obtain⟨g6,p6,n6⟩:=new_facts hH6
  refine s_l01Next (s5.kp p6) fun c0 H7 k7 l7 s7 hc _=>?_
  have hc:=hc (by omega)
  obtain⟨c0,rfl⟩:∃ c':Nat,c0=c':=⟨c0.toNat,by omega⟩
  have n5:=s5.lt
  have g6:=k7.get (by omega) g6
  refine WO_cut (fun f:Fr=>f 0=srcP n∧f 3=.pointer (some ⟨h.length,0,none⟩)∧f 4=.pointer (some ⟨H1.length,0,none⟩)∧f 5=I64 x.ps.length∧f 6=.slice (some ⟨H3.length+1,0,none⟩) x.ps.length 27∧f 7=.pointer (some ⟨H5.length,0,none⟩)∧f 51=I64 c0∧True) ⟨(by first|rfl|exact f0|simp[upd_apply,f0]),(by first|rfl|exact f3|simp[upd_apply,f3]),(by first|rfl|exact f4|simp[upd_apply,f4]),(by first|rfl|exact f5|simp[upd_apply,f5]),(by first|rfl|exact f6|simp[upd_apply,f6]),(by first|rfl|exact f7|simp[upd_apply,f7]),(by first|rfl|exact f51|simp[upd_apply,f51]),trivial⟩ ?_
  rintro f ⟨f0,f3,f4,f5,f6,f7,f51,-⟩
  ((try simp (maxSteps:=3000000) (dsimp:=false) (disch:=first|omega|simp only[lnx];omega) only[↓ypre,ypost,↓reduceIte,reduceEqDiff,reduceAdd,reduceSub,reduceLeDiff,zz0,ynew,f0,f3,f4,f5,f6,f7,f51]);try simp only[yback])
  refine s_l01Next s7 fun d H8 k8 l8 s8 hd _=>?_
  have hd:=hd (by omega)
  have g6:=k8.get (by omega) g6
  have ic:=ixa_u (n:=H5.length) (off:=9) (len:=9) (kk:=.i64) (j:=c0) (by omega)
  refine WO_cut (fun f:Fr=>f 0=srcP n∧f 3=.pointer (some ⟨h.length,0,none⟩)∧f 4=.pointer (some ⟨H1.length,0,none⟩)∧f 5=I64 x.ps.length∧f 6=.slice (some ⟨H3.length+1,0,none⟩) x.ps.length 27∧f 7=.pointer (some ⟨H5.length,0,none⟩)∧f 51=I64 c0∧f 53=I64 d∧True) ⟨(by first|rfl|exact f0|simp[upd_apply,f0]),(by first|rfl|exact f3|simp[upd_apply,f3]),(by first|rfl|exact f4|simp[upd_apply,f4]),(by first|rfl|exact f5|simp[upd_apply,f5]),(by first|rfl|exact f6|simp[upd_apply,f6]),(by first|rfl|exact f7|simp[upd_apply,f7]),(by first|rfl|exact f51|simp[upd_apply,f51]),(by first|rfl|exact f53|simp[upd_apply,f53]),trivial⟩ ?_
  rintro f ⟨f0,f3,f4,f5,f6,f7,f51,f53,-⟩
  have st:=cel_set (k:=.u8) (q:=x.ps.getD a []) (j:=9+c0) (x:=d) (by omega)
  ((try simp (maxSteps:=3000000) (dsimp:=false) (disch:=first|omega|simp only[lnx];omega) only[↓ypre,ypost,↓reduceIte,reduceEqDiff,reduceAdd,reduceSub,reduceLeDiff,zz0,ynew,f0,f3,f4,f5,f6,f7,f51,f53,wrap8_in,ic,wr_of g6,st,cel_len,hqa]);try simp only[yback])
  refine⟨by omega,?_⟩
  generalize hq':(x.ps.getD a []).set (9+c0) d=q'
  have lq':q'.length=27:=by rw[←hq',List.length_set];exact hqa
  generalize hH9:AH.put H8 _ _=H9
  have n7:=s7.lt
  have n8:=s8.lt
  have lg6:=get_lt g6
  have l9:H9.length=H8.length:=by rw[←hH9,len_put]
  have g9:H9.get H5.length=some ⟨cel .u8 q',53,false,true⟩:=hH9▸get_put_same lg6
  have s9:Src h0 H9 n:=hH9▸s8.putb (by omega) (by omega)
  have k59:Kp n H5 H9:=hH9▸(((Kp.of p6).trans k7).trans k8).putb (by omega)
  refine s_l01Next s9 fun e H10 k10 l10 s10 he _=>?_
  have he:=he (by omega)
  obtain⟨e,rfl⟩:∃ e':Nat,e=e':=⟨e.toNat,by omega⟩
  refine⟨⟨_,rfl,k10⟩,?_⟩
  have g10:=k10.get (by omega) g9
  have kA:=k59.trans k10
  have g510:=kA.get (by omega) g5
  have ie:ixsV 27 (.slice (some ⟨H3.length+1,0,none⟩) x.ps.length 27) (I64 e)=some (.pointer (some ⟨H3.length+1,e*27,none⟩)):=by
   rw[ixsV_some,if_pos (by omega),Int.toNat_natCast,Nat.zero_add]
  refine WO_cut (fun f:Fr=>f 0=srcP n∧f 3=.pointer (some ⟨h.length,0,none⟩)∧f 4=.pointer (some ⟨H1.length,0,none⟩)∧f 6=.slice (some ⟨H3.length+1,0,none⟩) x.ps.length 27∧f 7=.pointer (some ⟨H5.length,0,none⟩)∧f 57=.slice (some ⟨H3.length+1,0,none⟩) x.ps.length 27∧f 58=srcP n∧f 60=I64 e∧True) ⟨(by first|rfl|exact f0|simp[upd_apply,f0]),(by first|rfl|exact f3|simp[upd_apply,f3]),(by first|rfl|exact f4|simp[upd_apply,f4]),(by first|rfl|exact f6|simp[upd_apply,f6]),(by first|rfl|exact f7|simp[upd_apply,f7]),(by first|rfl|exact f57|simp[upd_apply,f57]),(by first|rfl|exact f58|simp[upd_apply,f58]),(by first|rfl|exact f60|simp[upd_apply,f60]),trivial⟩ ?_
  rintro f ⟨f0,f3,f4,f6,f7,f57,f58,f60,-⟩
  have rd27:H10.rdn H5.length 0 27=some (cel .u8 q'):=by
   rw[rdn_of g10,if_pos (by rw[cel_len,lq'];omega),List.drop_zero,List.take_of_length_le (by rw[cel_len,lq'];exact Nat.le_refl _)]
  have fl:=flat_len w27
  have sf:=splice_flat (k:=.u8) lq' w27 (j:=e) (by omega)
  have g1:=kA.get (by omega) (k5.get (by omega) (pre_get p4 g1))
  have g2:=kA.get (by omega) (k5.get (by omega) (pre_get p4 g2))
  have lg1:=get_lt g1
  have lg2:=get_lt g2
  have o1:isOne (.slice (some ⟨H3.length+1,0,none⟩) x.ps.length 27)=true:=rfl
  have oc:cellsL (.slice (some ⟨H3.length+1,0,none⟩) x.ps.length 27)=[.slice (some ⟨H3.length+1,0,none⟩) x.ps.length 27]:=rfl
  ((try simp (maxSteps:=3000000) (dsimp:=false) (disch:=first|omega|simp only[lnx];omega) only[↓ypre,ypost,↓reduceIte,reduceEqDiff,reduceAdd,reduceSub,reduceLeDiff,zz0,ynew,f0,f3,f4,f6,f7,f57,f58,f60,rd27,ie,wr_of g510,cel_len,cel_all,lq',sf,fl,wr_of g1,wr_of g2,splice_eq]);try simp only[yback])
  refine⟨by omega,by omega,?_⟩
  ((try simp (maxSteps:=3000000) (dsimp:=false) (disch:=first|omega|simp only[lnx];omega) only[↓ypre,ypost,↓reduceIte,reduceEqDiff,reduceAdd,reduceSub,reduceLeDiff,zz0,ynew,f0,f3,f4,f6,f7,f57,f58,f60,wr_of g1,wr_of g2,splice_eq,rdn_put_same]);try simp only[yback])
  have kk:=(((kk3.trans (Kp.of p4)).trans k5).trans kA)
  have el:(x.ps.set e q').length=x.ps.length:=List.length_set
  rw[←el]
  refine hQ ⟨x.p,x.n,x.m,x.k,x.ps.set e q'⟩ _ _ (((kk.putb (m:=H1.length) (by omega)).putb (m:=h.length) (by omega)).putb (m:=H3.length+1) (by omega)) (((s10.putb (m:=H1.length) (by omega) (by omega)).putb (m:=h.length) (by omega) (by omega)).putb (m:=H3.length+1) (by omega) (by omega)) ?_ ⟨b1,b2,b3,b4,by unfold SmallX at b5 ⊢;rw[el];exact b5⟩ (.inr ⟨_,_,_,rfl⟩)
  have bt:Byt 27 (x.ps.set e q'):=hq'▸byt_set e3.2 (by omega) (by omega) (by omega)
  have lgk:=get_lt g510
  exact fun h2 k2 k3=>⟨blk_kN (lo:=lo) (m:=H3.length+1) (get_put_same (by rw[len_put,len_put];omega)) (wid_set w27 lq') (by omega) h2 k2 k3,bt⟩
theorem isX_SchB {x:Sch} {h:AH} {v:Value} (hx:isX x=true) (hv:Prods h v x.ps):SchB x∧(-100≤x.k∧x.k≤100):=by
 obtain⟨z,hp,hl,_⟩:=isX_facts hx
 have:=z.p;have:=z.n;have:=z.m;have:=z.k
 exact⟨⟨by omega,by omega,by omega,by omega,by unfold SmallX;omega⟩,by omega⟩
theorem s_l01Spoil {h0 h:AH} {n:Nat} {Q:Value→AH→Prop} (s:Src h0 h n)
  (hQ:∀ (x:Sch) (v:Value) (h':AH),Kp n h h'→Src h0 h' n→SchD h.length h' v x→SchB x→Q (schV x v) h'):WF S 62 [srcP n] h Q:=by
 refine WF_fn (fn:=c62) rfl rfl ?_
 dsimp only[c62,oO,oM,oS,oG,oK,oE,oL,oF,oX,oN]
 have lt:=s.lt
 have l0:=pre_len s.p
 ((try simp (maxSteps:=3000000) (dsimp:=false) (disch:=first|omega|simp only[lnx];omega) only[↓ypre,ypost,↓reduceIte,reduceEqDiff,reduceAdd,reduceSub,reduceLeDiff,zz0,ynew]);try simp only[yback])
 generalize hH1:AH.new h _=H1
 obtain⟨hb1,p1,n1⟩:=new_facts hH1
 refine s_l01Draw (s.kp p1) fun x v H2 k2 s2 sd hx nk=>?_
 have g1:=k2.get (by omega) hb1
 have xb:=isX_SchB hx sd.now
 have k2l:=k2.len
 ((try simp (maxSteps:=3000000) (dsimp:=false) (disch:=first|omega|simp only[lnx];omega) only[↓ypre,ypost,↓reduceIte,reduceEqDiff,reduceAdd,reduceSub,reduceLeDiff,zz0,ynew]);try simp only[yback])
 refine s_l01Bad (lo:=H1.length) s2 xb.1 (by omega) sd xb.2 nk fun x' v' H3 k3 s3 sd' xb' _=>?_
 have g1:=k3.get (by omega) g1
 have lg:=get_lt g1
 have o1:isOne v'=true:=sd'.now.one
 ((try simp (maxSteps:=3000000) (dsimp:=false) (disch:=first|omega|simp only[lnx];omega) only[↓ypre,ypost,↓reduceIte,reduceEqDiff,reduceAdd,reduceSub,reduceLeDiff,zz0,ynew,schV,o1,wr_of g1,splice_eq,rdn_put_same]);try simp only[yback])
 exact hQ x' v' _ ((((Kp.of p1).trans k2).trans k3).putb (Nat.le_refl _)) (s3.putb (by omega) (by omega)) ((KN.put sd' (by omega)).mono (by omega)) xb'
end Go.Proofs.YtigpfopobpoamaaGreat.X

set_option linter.unusedVariables false
set_option linter.unusedSimpArgs false
set_option maxRecDepth 20000
set_option maxHeartbeats 4000000
namespace Go.Proofs.YtigpfopobpoamaaGreat.X
open Go Go.RowKit
theorem RowD.moved {lo kb:Nat} {H H':AH} {fu:Bool} {rows:List (List Int)} {B:Nat→Nat} {cs:List Value} (r:RowD lo H kb fu rows B cs) (k:∀ m,lo≤m→m<H.length→H'.get m=H.get m):RowD lo H' kb fu rows B cs:=
 ⟨by rw[k kb r.low (get_lt r.get)];exact r.get,r.len,r.low,fun i hi=>by
  obtain⟨h1,h2,⟨f,h3⟩,h4⟩:=r.row i hi
  exact⟨h1,h2,⟨f,by unfold Lst;rw[k (B i) h1 (get_lt h3)];exact h3⟩,h4⟩,r.inc⟩
theorem RowD.kN {lo kb:Nat} {H:AH} {fu:Bool} {rows:List (List Int)} {B:Nat→Nat} {cs:List Value} (r:RowD lo H kb fu rows B cs):KN lo H fun h'=>Rows h' (sl kb rows.length) rows:=
 fun h' l g=>(r.moved g).rows
theorem byt_snoc {L:List (List Int)} {q:List Int} (hb:Byt 27 L) (hq:By 27 q):Byt 27 (L++[q]):=fun i hi j hj=>by
 by_cases h:i<L.length
 ·rw[getD_app_l h];exact hb i h j hj
 ·rw[List.length_append,List.length_singleton] at hi
  rw[getD_app_r (by omega),show i-L.length=0 by omega]
  exact hq.2 j hj
def WayZ (lo a b:Nat) (h:AH) (sv:Value) (L:List (List Int)):Prop:=
 Wid 27 L∧((sv=.slice none 0 2∧L=[])∨∃ kb,sv=.slice (some ⟨kb,0,none⟩) L.length 27∧lo≤kb∧(kb<a∨b≤kb)∧h.get kb=some ⟨cel .u8 L.flatten,53,false,false⟩)
section
variable {lo a b:Nat} {h h':AH} {sv:Value} {L:List (List Int)}
theorem WayZ.pre (o:WayZ lo a b h sv L) (p:h<+:h'):WayZ lo a b h' sv L:=by
 obtain⟨hw,o|⟨kb,h1,h2,h3,h4⟩⟩:=o
 ·exact⟨hw,.inl o⟩
 ·exact⟨hw,.inr ⟨kb,h1,h2,h3,pre_get p h4⟩⟩
theorem WayZ.one (o:WayZ lo a b h sv L):isOne sv=true:=by
 obtain⟨hw,⟨rfl,_⟩|⟨kb,rfl,h2,h3,h4⟩⟩:=o<;>rfl
theorem WayZ.cells (o:WayZ lo a b h sv L):cellsL sv=[sv]:=by
 obtain⟨hw,⟨rfl,_⟩|⟨kb,rfl,h2,h3,h4⟩⟩:=o<;>rfl
theorem WayZ.app {H:AH} {q:List Int} {e':TypeId} {ro full:Bool} (o:WayZ lo a b H sv L) (hq:q.length=27) (hl:L.length≤1000) (hb:b≤H.length) (hlo:lo≤H.length)
  {Q:Value→AH→Prop} (hQ:∀ (sv':Value) (H':AH),H'.length=H.length+2→(∀ h0:AH,h0.length≤lo→h0<+:H→h0<+:H')→(∀ n c,n<lo∨a≤n∧n<b→H.get n=some c→H'.get n=some c)→WayZ lo a b H' sv' (L++[q])→Q sv' H') :
  OQ (appV (53) 27 27 sv (.slice (some ⟨H.length,0,none⟩) 1 27) (H.new ⟨cel .u8 q,e',ro,full⟩)) Q:=by
 have hr:(H.new ⟨cel .u8 q,e',ro,full⟩).rdn H.length 0 27=some (cel .u8 q):=by
  rw[rdn_of get_new_same]
  simp only
  rw[if_pos (by rw[cel_len,hq];omega),List.drop_zero,List.take_of_length_le (by rw[cel_len,hq];omega)]
 obtain⟨hw,⟨rfl,rfl⟩|⟨kb,rfl,h2,h3,h4⟩⟩:=o
 ·rw[app_nilW (.inr rfl) hr (by omega),OQ_some]
  refine hQ _ _ (by rw[len_new,len_new]) (fun h0 _ p=>pre_new (pre_new p)) (fun n c _ g=>get_new_any (get_new_any g)) ⟨?_,.inr ⟨_,rfl,by rw[len_new];omega,by rw[len_new];omega,?_⟩⟩
  ·intro r hr
   rw[List.nil_append,List.mem_singleton] at hr
   rw[hr,hq]
  ·rw[get_new_same]
   simp
 ·have hk:(H.new ⟨cel .u8 q,e',ro,full⟩).get kb=some ⟨cel .u8 L.flatten,53,false,false⟩:=get_new_any h4
  have hkb:=get_lt h4
  rw[app_ownW hk (by rw[cel_len,flat_len hw]) hr ⟨by omega,by omega⟩,OQ_some]
  refine hQ _ _ (by rw[len_new,len_kill,len_new]) (fun h0 q p=>pre_new (pre_kill (pre_new p) (by omega))) (fun n c hn g=>get_new_any (by rw[get_kill_ne (by omega)];exact get_new_any g)) ⟨?_,.inr ⟨(H.new ⟨cel .u8 q,e',ro,full⟩).length,by simp,by rw[len_new];omega,by rw[len_new];omega,?_⟩⟩
  ·intro r hr
   rcases List.mem_append.1 hr with hr|hr
   ·exact hw r hr
   ·rw[List.mem_singleton.1 hr,hq]
  ·rw[get_new_eq (by rw[len_kill])]
   simp[cel_app]
end
end Go.Proofs.YtigpfopobpoamaaGreat.X

set_option linter.unusedVariables false
set_option linter.unusedSimpArgs false
set_option maxRecDepth 20000
set_option maxHeartbeats 4000000
namespace Go.Proofs.YtigpfopobpoamaaGreat.X
open Go Go.RowKit
open Nat (reduceEqDiff reduceAdd reduceSub reduceLeDiff)
theorem s_l01Empty {h:AH} {x:Sch} {v:Value} {Q:Value→AH→Prop} (hv:isOne v=true) (hQ:∀ h',h<+:h'→Q (schV ⟨x.p,x.n,x.m,x.k,[]⟩ (.slice none 0 2)) h'):WF S 82 [schV x v] h Q:=by
 refine WF_fn (fn:=c82) rfl rfl ?_
 dsimp only[c82,oO,oM,oS,oG,oK,oE,oL,oF,oX,oN]
 ((try simp (maxSteps:=3000000) (dsimp:=false) (disch:=first|omega|simp only[lnx];omega) only[↓ypre,ypost,↓reduceIte,reduceEqDiff,reduceAdd,reduceSub,reduceLeDiff,zz0,ynew,schV,hv]);try simp only[yback])
 generalize hH1:AH.new h _=H1
 obtain⟨hb1,p1,n1⟩:=new_facts hH1
 generalize hH2:AH.new H1 _=H2
 obtain⟨hb2,p2,n2⟩:=new_facts hH2
 have g1:=pre_get p2 hb1
 have lt:=get_lt hb2
 ((try simp (maxSteps:=3000000) (dsimp:=false) (disch:=first|omega|simp only[lnx];omega) only[↓ypre,ypost,↓reduceIte,reduceEqDiff,reduceAdd,reduceSub,reduceLeDiff,zz0,ynew,rd1_of g1,fillL,wr_of hb2,splice_eq,rdn_put_same]);try simp only[yback])
 exact hQ _ (p1.trans p2)
end Go.Proofs.YtigpfopobpoamaaGreat.X

set_option linter.unusedVariables false
set_option linter.unusedSimpArgs false
set_option maxRecDepth 20000
set_option maxHeartbeats 4000000
namespace Go.Proofs.YtigpfopobpoamaaGreat.X
open Go Go.RowKit
def S3 (q:List Int):Prop:=q.length=3∧∀ k,k<3→1≤q.getD k 0∧q.getD k 0≤3
def tabN:List Int:=[1,2,3,2,4,6,3,6,9,2,4,6,4,7,11,6,11,17,3,6,9,6,11,17,9,17,26]
def nm (q:List Int):Int:=tabN.getD ((q.getD 0 0-1)*9+(q.getD 1 0-1)*3+(q.getD 2 0-1)).toNat 0
def cutF (q:List Int) (k:Nat):Nat→Int→Int
 | 0,m=>m
 | j+1,m=>min (cutF q k j m) (nm (q.set k ((j:Int)+1))+nm (q.set k (q.getD k 0-((j:Int)+1))))
def kF (q:List Int):Nat→Int
 | 0=>100
 | k+1=>cutF q k (q.getD k 0-1).toNat (kF q k)
def ProgD (lo:Nat) (h:AH) (v w:Value) (x:Prg):Prop:=KN lo h fun h'=>PrgR h' v w x
theorem TabS.get {h0 h:AH} {nb i:Nat} {full:Bool} {L:List (Nat×List Int)} (s:TabS h0 h nb full L) (hi:i<L.length):h.rd1 nb i=some (sl (L[i]).1 (L[i]).2.length):=by
 rw[rd1_of s.g]
 simp[hi,rowV,sl]
section
variable {h h':AH} {nb:Nat} {x:Sch} {b:Bool} {v1 w1 v2 w2 v3 w3:Value}
end
end Go.Proofs.YtigpfopobpoamaaGreat.X
