/- Texts of one claim, put together by merge.py: XF1, XF2, XF3, XF4, XF5, XF6, XF7, XF8, XF9, XF16, XF17, XF18, XF19, XF20, XF21, XF22, XF23, XF24, XF25, XF26, XF27, XF28, XF29, XF30, XF31, XE1, XS1, XG1, XS2, XE2, XY, XP1, XP2, XF32, XP3, XS3, XF10, XF33, XS4, XD1, XD2, XS5, XT1. -/
import Derived.Test.YtigpfopobpoamaaGreatRE3
import Derived.Test.YtigpfopobpoamaaGreatRE7
set_option linter.unusedVariables false
set_option linter.unusedSimpArgs false
namespace Go.Proofs.YtigpfopobpoamaaGreat.X
open Go Go.RowKit
open Nat (reduceEqDiff reduceAdd reduceSub reduceLeDiff)
def S:XS:=⟨fun _=>none,T⟩
theorem esound:ESound Tryz.prog S.E:=fun g p hp=>by cases hp
theorem s_l01In {a b c:Int} {h:AH} {Q:Value→AH→Prop} (hQ:Q (.bool (decide (b≤a∧a≤c))) h):WF S 36 [I64 a,I64 b,I64 c] h Q:=by
 refine WF_fn (fn:=c36) rfl rfl ?_
 dsimp only[c36,oO,oM,oS,oG,oK,oE,oL,oF,oX,oN]
 try simp (maxSteps:=3000000) (disch:=first|omega|simp only[lnx];omega) only[↓xpre,xpost,↓reduceIte,reduceEqDiff,reduceAdd,reduceSub,reduceLeDiff,zz0]
 by_cases h1:b≤a
 ·try simp (maxSteps:=3000000) (disch:=first|omega|simp only[lnx];omega) only[↓xpre,xpost,↓reduceIte,reduceEqDiff,reduceAdd,reduceSub,reduceLeDiff,zz0,h1]
  simpa [h1] using hQ
 ·try simp (maxSteps:=3000000) (disch:=first|omega|simp only[lnx];omega) only[↓xpre,xpost,↓reduceIte,reduceEqDiff,reduceAdd,reduceSub,reduceLeDiff,zz0,h1]
  simpa [h1] using hQ
def isP (p:Int):Bool:=decide (p=2∨p=3∨p=5)
theorem s_l01Prime {p:Int} {h:AH} {Q:Value→AH→Prop} (hQ:Q (.bool (isP p)) h):WF S 94 [I64 p] h Q:=by
 refine WF_fn (fn:=c94) rfl rfl ?_
 dsimp only[c94,oO,oM,oS,oG,oK,oE,oL,oF,oX,oN]
 try simp (maxSteps:=3000000) (disch:=first|omega|simp only[lnx];omega) only[↓xpre,xpost,↓reduceIte,reduceEqDiff,reduceAdd,reduceSub,reduceLeDiff,zz0]
 by_cases h1:p=2
 ·try simp (maxSteps:=3000000) (disch:=first|omega|simp only[lnx];omega) only[↓xpre,xpost,↓reduceIte,reduceEqDiff,reduceAdd,reduceSub,reduceLeDiff,zz0,h1]
  simpa [h1,isP] using hQ
 ·try simp (maxSteps:=3000000) (disch:=first|omega|simp only[lnx];omega) only[↓xpre,xpost,↓reduceIte,reduceEqDiff,reduceAdd,reduceSub,reduceLeDiff,zz0,h1]
  by_cases h2:p=3
  ·try simp (maxSteps:=3000000) (disch:=first|omega|simp only[lnx];omega) only[↓xpre,xpost,↓reduceIte,reduceEqDiff,reduceAdd,reduceSub,reduceLeDiff,zz0,h2]
   simpa [h2,isP] using hQ
  ·try simp (maxSteps:=3000000) (disch:=first|omega|simp only[lnx];omega) only[↓xpre,xpost,↓reduceIte,reduceEqDiff,reduceAdd,reduceSub,reduceLeDiff,zz0,h2]
   simpa [h1,h2,isP] using hQ
theorem i_isPrime {p:Int} {h:AH} {Q:Value→AH→Prop} (hQ:Q (.bool (isP p)) h):WF S 68 [I64 p] h Q:=by
 refine WF_fn (fn:=c68) rfl rfl ?_
 dsimp only[c68,oO,oM,oS,oG,oK,oE,oL,oF,oX,oN]
 try simp (maxSteps:=3000000) (disch:=first|omega|simp only[lnx];omega) only[↓xpre,xpost,↓reduceIte,reduceEqDiff,reduceAdd,reduceSub,reduceLeDiff,zz0]
 by_cases h1:p=2
 ·try simp (maxSteps:=3000000) (disch:=first|omega|simp only[lnx];omega) only[↓xpre,xpost,↓reduceIte,reduceEqDiff,reduceAdd,reduceSub,reduceLeDiff,zz0,h1]
  simpa [h1,isP] using hQ
 ·try simp (maxSteps:=3000000) (disch:=first|omega|simp only[lnx];omega) only[↓xpre,xpost,↓reduceIte,reduceEqDiff,reduceAdd,reduceSub,reduceLeDiff,zz0,h1]
  by_cases h2:p=3
  ·try simp (maxSteps:=3000000) (disch:=first|omega|simp only[lnx];omega) only[↓xpre,xpost,↓reduceIte,reduceEqDiff,reduceAdd,reduceSub,reduceLeDiff,zz0,h2]
   simpa [h2,isP] using hQ
  ·try simp (maxSteps:=3000000) (disch:=first|omega|simp only[lnx];omega) only[↓xpre,xpost,↓reduceIte,reduceEqDiff,reduceAdd,reduceSub,reduceLeDiff,zz0,h2]
   simpa [h1,h2,isP] using hQ
end Go.Proofs.YtigpfopobpoamaaGreat.X

set_option linter.unusedVariables false
set_option linter.unusedSimpArgs false
namespace Go.Proofs.YtigpfopobpoamaaGreat.X
open Go Go.RowKit
def fillN (ns:List Int) (i:Nat):List Int:=ns.take i++List.replicate (ns.length-i) 0
theorem fillN_len {ns:List Int} {i:Nat} (hi:i≤ns.length):(fillN ns i).length=ns.length:=by simp[fillN];omega
theorem fillN_zero {ns:List Int}:fillN ns 0=List.replicate ns.length 0:=by simp[fillN]
theorem fillN_all {ns:List Int}:fillN ns ns.length=ns:=by simp[fillN]
def OwnB (h:AH) (n:Nat) (c:List Value) (full:Bool):Prop:=∃ e,h.get n=some ⟨c,e,false,full⟩
def OwnI (h0 h:AH) (v:Value) (ns:List Int):Prop:=∃ n e,h0.length≤n∧v=.slice (some ⟨n,0,none⟩) ns.length 1∧h.get n=some ⟨ns.map (Value.int .i64),e,false,true⟩
theorem OwnI.ints {h0 h:AH} {v:Value} {ns:List Int} (o:OwnI h0 h v ns):Ints h v ns:=by
 obtain⟨n,e,h1,rfl,h2⟩:=o
 exact Ints.own h2 rfl
theorem OwnI.pre {h0 h h':AH} {v:Value} {ns:List Int} (o:OwnI h0 h v ns) (p:h<+:h'):OwnI h0 h' v ns:=by
 obtain⟨n,e,h1,rfl,h2⟩:=o
 exact⟨n,e,h1,rfl,pre_get p h2⟩
def allIn (p:Int) (ns:List Int):Bool:=ns.all fun n=>decide (0≤n∧n<p)
theorem new_facts {h H:AH} {b:Blk} (e:h.new b=H):H.get h.length=some b∧h<+:H∧H.length=h.length+1:=by
 subst e
 exact⟨get_new_same,pre_new (List.prefix_refl _),len_new⟩
structure Ten where
 p:Int
 i:Int
 j:Int
 k:Int
 ns:List Int
 deriving DecidableEq
def tenV (t:Ten) (v:Value):Value:=.agg #[I64 t.p,I64 t.i,I64 t.j,I64 t.k,v]
def side (n:Int):Bool:=decide (1≤n∧n≤9)
theorem isP_in {p:Int} (h:isP p=true):2≤p∧p≤5:=by
 simp[isP] at h
 omega
theorem mul_in {a b A B:Int} (ha:0≤a∧a≤A) (hb:0≤b∧b≤B):0≤a*b∧a*b≤A*B:=
 ⟨Int.mul_nonneg ha.1 hb.1,Int.mul_le_mul ha.2 hb.2 hb.1 (by omega)⟩
theorem mul_in1 {a b A B:Int} (ha:1≤a∧a≤A) (hb:1≤b∧b≤B):1≤a*b∧a*b≤A*B:=by
 refine⟨?_,(mul_in (by omega) (by omega)).2⟩
 have:=Int.mul_le_mul ha.1 hb.1 (by omega) (by omega)
 simpa using this
theorem lin_in {i j I J:Int} (hi:0≤i∧i<I) (hj:0≤j∧j<J):0≤i*J∧0≤i*J+j∧i*J+j<I*J:=by
 have h1:=Int.mul_nonneg hi.1 (show 0≤J by omega)
 have h2:=Int.mul_le_mul_of_nonneg_right (show i+1≤I by omega) (show 0≤J by omega)
 rw[Int.add_mul,Int.one_mul] at h2
 omega
def blkOf (v:Value):Option Nat:=match v with
 | .slice (some a) _ _=>some a.block
 | _=>none
def OwnR (h0 h:AH) (v:Value) (ns:List Int):Prop:=
 (v=.slice none 0 0∧ns=[])∨∃ n e full,h0.length≤n∧v=.slice (some ⟨n,0,none⟩) ns.length 1∧h.get n=some ⟨ns.map (Value.int .i64),e,false,full⟩
theorem OwnR.ints {h0 h:AH} {v:Value} {ns:List Int} (o:OwnR h0 h v ns):Ints h v ns:=by
 rcases o with⟨rfl,rfl⟩|⟨n,e,full,h1,rfl,h2⟩
 ·exact .inl ⟨rfl,0,by omega,rfl⟩
 ·exact Ints.own h2 rfl
theorem OwnR.pre {h0 h h':AH} {v:Value} {ns:List Int} (o:OwnR h0 h v ns) (p:h<+:h'):OwnR h0 h' v ns:=by
 rcases o with⟨rfl,rfl⟩|⟨n,e,full,h1,rfl,h2⟩
 ·exact .inl ⟨rfl,rfl⟩
 ·exact .inr ⟨n,e,full,h1,rfl,pre_get p h2⟩
theorem OwnR.lo {h0 h1 h:AH} {v:Value} {ns:List Int} (o:OwnR h0 h v ns) (p:h1.length≤h0.length):OwnR h1 h v ns:=by
 rcases o with⟨rfl,rfl⟩|⟨n,e,full,q1,rfl,h2⟩
 ·exact .inl ⟨rfl,rfl⟩
 ·exact .inr ⟨n,e,full,by omega,rfl,h2⟩
structure Only (o:Option Nat) (h h':AH):Prop where
 len:h'.length=h.length
 same:∀ n,o≠some n→h'[n]?=h[n]?
theorem Only.pre {h0 h h':AH} {o:Option Nat} (w:Only o h h') (p:h0<+:h) (hn:∀ n,o=some n→h0.length≤n):h0<+:h':=by
 rw[List.prefix_iff_getElem?] at p ⊢
 intro i hi
 rw[w.same i (fun e=>by have:=hn i e;omega)]
 exact p i hi
def marks (k:Int) (n:Nat):List Int:=(List.range n).map fun i=>k+(i:Nat)
def gen (N:Nat) (g:Nat→Int):List Int:=(List.range N).map g
theorem gen_len {N:Nat} {g:Nat→Int}:(gen N g).length=N:=by simp[gen]
theorem gen_get {N i:Nat} {g:Nat→Int} (hi:i<N):(gen N g).getD i 0=g i:=by
 simp[gen,List.getD_eq_getElem?_getD,List.getElem?_map,List.getElem?_range hi]
theorem gen_ext {N:Nat} {g:Nat→Int} {l:List Int} (hl:l.length=N) (h:∀ i,i<N→l.getD i 0=g i):l=gen N g:=by
 refine List.ext_getElem? fun j=>?_
 by_cases hj:j<N
 ·have h1:=h j hj
  rw[List.getD_eq_getElem?_getD,List.getElem?_eq_getElem (by omega)] at h1
  rw[List.getElem?_eq_getElem (by omega)]
  simp[gen,List.getElem?_map,List.getElem?_range hj] at h1 ⊢
  exact h1
 ·rw[List.getElem?_eq_none (by omega),List.getElem?_eq_none (by rw[gen_len];omega)]
theorem gen_succ {N:Nat} {g:Nat→Int}:gen (N+1) g=gen N g++[g N]:=by simp[gen,List.range_succ]
theorem gen_congr {N:Nat} {g g':Nat→Int} (h:∀ i,i<N→g i=g' i):gen N g=gen N g':=by
 refine gen_ext gen_len fun i hi=>?_
 rw[gen_get hi,h i hi]
theorem set_getD {l:List Int} {i j:Nat} {x:Int} (hi:i<l.length):(l.set i x).getD j 0=if j=i then x else l.getD j 0:=by
 rw[List.getD_eq_getElem?_getD,List.getD_eq_getElem?_getD,List.getElem?_set]
 by_cases h:i=j
 ·subst h
  simp[hi]
 ·rw[if_neg h,if_neg (fun e=>h e.symm)]
theorem dec {a i I:Int} (h:0≤i∧i<I):(a*I+i) / I=a∧(a*I+i)%I=i:=by
 have:=(Int.ediv_emod_unique (a:=a*I+i) (b:=I) (q:=a) (r:=i) (by omega)).2 ⟨by rw[Int.mul_comm];omega,h.1,h.2⟩
 exact this
theorem enc (n I:Int):n / I*I+n%I=n:=by
 have:=Int.mul_ediv_add_emod n I
 rw[Int.mul_comm] at this
 exact this
theorem OwnB.pre {h h':AH} {c:List Value} {full:Bool} {n:Nat} (b:OwnB h n c full) (p:h<+:h'):OwnB h' n c full:=by
 obtain⟨e,hb⟩:=b
 exact⟨e,pre_get p hb⟩
theorem OwnB.put_ne {h:AH} {c:List Value} {full:Bool} {n m:Nat} {b:Blk} (o:OwnB h n c full) (e:m≠n):OwnB (h.put m b) n c full:=by
 obtain⟨e',hb⟩:=o
 exact⟨e',by rw[get_put_ne e];exact hb⟩
end Go.Proofs.YtigpfopobpoamaaGreat.X

set_option linter.unusedVariables false
set_option linter.unusedSimpArgs false
namespace Go.Proofs.YtigpfopobpoamaaGreat.X
open Go Go.RowKit
open Nat (reduceEqDiff reduceAdd reduceSub reduceLeDiff)
def Way (h:AH) (lo:Nat) (sv:Value) (l:List Int):Prop:=
 (sv=.slice none 0 0∧l=[])∨∃ kb,sv=.slice (some ⟨kb,0,none⟩) l.length 1∧lo≤kb∧h.get kb=some ⟨l.map (Value.int .i64),2,false,false⟩
theorem Way.pre {h h':AH} {lo:Nat} {sv:Value} {l:List Int} (w:Way h lo sv l) (p:h<+:h'):Way h' lo sv l:=by
 rcases w with w|⟨kb,h1,h2,h3⟩
 ·exact .inl w
 ·exact .inr ⟨kb,h1,h2,pre_get p h3⟩
theorem Way.one {h:AH} {lo:Nat} {sv:Value} {l:List Int} (w:Way h lo sv l):isOne sv=true:=by
 rcases w with⟨rfl,_⟩|⟨kb,rfl,h2,h3⟩<;>rfl
theorem Way.cells {h:AH} {lo:Nat} {sv:Value} {l:List Int} (w:Way h lo sv l):cellsL sv=[sv]:=by
 rcases w with⟨rfl,_⟩|⟨kb,rfl,h2,h3⟩<;>rfl
theorem Way.put {h:AH} {lo n:Nat} {b:Blk} {sv:Value} {l:List Int} (w:Way h lo sv l) (hn:n<lo):Way (h.put n b) lo sv l:=by
 rcases w with w|⟨kb,h1,h2,h3⟩
 ·exact .inl w
 ·exact .inr ⟨kb,h1,h2,by rw[get_put_ne (by omega)];exact h3⟩
theorem Way.ownR {h0 h:AH} {lo:Nat} {sv:Value} {l:List Int} (w:Way h lo sv l) (hl:h0.length≤lo):OwnR h0 h sv l:=by
 rcases w with w|⟨kb,h1,h2,h3⟩
 ·exact .inl w
 ·exact .inr ⟨kb,_,_,by omega,h1,h3⟩
theorem Way.app {S:XS} {H:AH} {lo:Nat} {sv:Value} {l:List Int} {x:Int} {e:TypeId} {full:Bool} (w:Way H lo sv l) (hl:(l.length:Int)≤1048576) (hlo:lo≤H.length) {Q:Value→AH→Prop}
  (hQ:∀ sv' H',H'.length=H.length+2→(∀ h0:AH,h0.length≤lo→h0<+:H→h0<+:H')→(∀ n c f,n<lo→OwnB H n c f→OwnB H' n c f)→Way H' lo sv' (l++[x])→Q sv' H') :
  OQ (appV 2 1 8 sv (.slice (some ⟨H.length,0,none⟩) 1 1) (H.new ⟨[I64 x],e,false,full⟩)) Q:=by
 have hn:(H.new ⟨[I64 x],e,false,full⟩).rdn H.length 0 1=some [I64 x]:=by rw[rdn_new_same];rfl
 rcases w with⟨rfl,rfl⟩|⟨kb,rfl,h2,h3⟩
 ·rw[app_nil (.inl rfl) hn (by omega),OQ_some]
  refine hQ _ _ (by rw[len_new,len_new]) (fun h0 _ p=>pre_new (pre_new p)) (fun n c f hn o=>(o.pre (pre_new (List.prefix_refl _))).pre (pre_new (List.prefix_refl _))) ?_
  exact .inr ⟨(H.new ⟨[I64 x],e,false,full⟩).length,rfl,by rw[len_new];omega,get_new_same⟩
 ·have hk:(H.new ⟨[I64 x],e,false,full⟩).get kb=some ⟨l.map (Value.int .i64),2,false,false⟩:=get_new_any h3
  have hkb:=get_lt h3
  rw[app_own hk (by simp) hn (by omega),OQ_some]
  refine hQ _ _ (by rw[len_new,len_kill,len_new]) (fun h0 q p=>pre_new (pre_kill (pre_new p) (by omega))) (fun n c f hn o=>?_) ?_
  ·obtain⟨e',o⟩:=o
   exact⟨e',get_new_any (by rw[get_kill_ne (by omega)];exact get_new_any o)⟩
  ·refine .inr ⟨(H.new ⟨[I64 x],e,false,full⟩).length,by simp,by rw[len_new];omega,?_⟩
   rw[get_new_eq (by rw[len_kill])]
   simp
def Tells (S:XS) (h:AH) (fv:Value) (i j k:Int) (num:Int→Int→Int→Int):Prop:=
 ∀ a b c,(0≤a∧a<i)→(0≤b∧b<j)→(0≤c∧c<k)→∀ h1,h<+:h1→∀ Q:Value→AH→Prop,(∀ h2,h1<+:h2→Q (I64 (num a b c)) h2)→WK S fv [I64 a,I64 b,I64 c] h1 Q
def tenG (p j k:Int) (num:Int→Int→Int→Int) (n:Nat):Int:=(num ((n:Int) / k / j) ((n:Int) / k%j) ((n:Int)%k)).tmod p
def tenT (p i j k:Int) (num:Int→Int→Int→Int):Ten:=⟨p,i,j,k,gen (i*j*k).toNat (tenG p j k num)⟩
structure TensS (t:Ten) (h0 h:AH) (b11:Nat) (l:List Int):Prop where
 hp:h0<+:h
 lo:h0.length<b11∧b11<h.length
 g10:∃ c,c.length=5∧OwnB h h0.length c true
 g11:∃ sv,OwnB h b11 [I64 t.p,I64 t.i,I64 t.j,I64 t.k,sv] true∧Way h (b11+1) sv l
theorem i_tensor {p i j k:Int} {fv:Value} {num:Int→Int→Int→Int} {h:AH} {Q:Value→AH→Prop} (hp1:1≤p) (fi:1≤i∧i≤9) (fj:1≤j∧j≤9) (fk:1≤k∧k≤9)
  (hf:Tells S h fv i j k num) (hQ:∀ v' h',h<+:h'→OwnR h h' v' (tenT p i j k num).ns→Q (tenV (tenT p i j k num) v') h'):WF S 77 [I64 p,I64 i,I64 j,I64 k,fv] h Q:=by
 refine WF_fn (fn:=c77) rfl rfl ?_
 dsimp only[c77,oO,oM,oS,oG,oK,oE,oL,oF,oX,oN]
 have ij:=mul_in1 (A:=9) (B:=9) fi fj
 have ijk:=mul_in1 (A:=81) (B:=9) ij fk
 try simp (maxSteps:=3000000) (disch:=first|omega|simp only[lnx];omega) only[↓xpre,xpost,↓reduceIte,reduceEqDiff,reduceAdd,reduceSub,reduceLeDiff,zz0,fillL]
 generalize hH1:AH.new h _=H1
 obtain⟨hb1,p1,n1⟩:=new_facts hH1
 generalize hH2:AH.new H1 _=H2
 obtain⟨hb2,p2,n2⟩:=new_facts hH2
 refine WC_loop_inv (fun n f h1=>∃ (a:Int),n=(i-a).toNat∧(0≤a∧a≤i)∧f 0=I64 p∧f 2=I64 j∧f 3=I64 k∧f 4=fv∧f 10=.pointer (some ⟨h.length,0,none⟩)∧f 11=.pointer (some ⟨H1.length,0,none⟩) ∧
  f 20=I64 i∧f 21=I64 a∧TensS ⟨p,i,j,k,[]⟩ h h1 H1.length (gen (a*j*k).toNat (tenG p j k num))) ?_ (i-0).toNat _ _ ⟨0,rfl,by omega,rfl,rfl,rfl,rfl,rfl,rfl,rfl,rfl,
   ⟨p1.trans p2,by omega,⟨_,rfl,_,pre_get p2 hb1⟩,_,⟨_,hb2⟩,.inl ⟨rfl,by simp[gen]⟩⟩⟩
 rintro n fr h1 ⟨a,rfl,ha,f0,f2,f3,f4,f10,f11,f20,f21,st⟩
 try simp (maxSteps:=3000000) (disch:=first|omega|simp only[lnx];omega) only[↓xpre,xpost,↓reduceIte,reduceEqDiff,reduceAdd,reduceSub,reduceLeDiff,zz0,f0,f2,f3,f4,f10,f11,f20,f21,IfW_dec]
 refine⟨fun hlt=>?_,fun hge=>?_⟩
 ·refine WC_loop_inv (fun n f h1=>∃ (b:Int),n=(j-b).toNat∧(0≤b∧b≤j)∧f 0=I64 p∧f 2=I64 j∧f 3=I64 k∧f 4=fv∧f 10=.pointer (some ⟨h.length,0,none⟩)∧f 11=.pointer (some ⟨H1.length,0,none⟩) ∧
   f 20=I64 i∧f 21=I64 a∧f 12=I64 a∧f 24=I64 j∧f 25=I64 b∧TensS ⟨p,i,j,k,[]⟩ h h1 H1.length (gen ((a*j+b)*k).toNat (tenG p j k num))) ?_ (j-0).toNat _ _ ⟨0,rfl,by omega,f0,f2,f3,f4,f10,f11,f20,f21,rfl,rfl,rfl,
    by rw[Int.add_zero];exact st⟩
  clear f0 f2 f3 f4 f10 f11 f20 f21 st
  rintro n fr h1 ⟨b,rfl,hb,f0,f2,f3,f4,f10,f11,f20,f21,f12,f24,f25,st⟩
  try simp (maxSteps:=3000000) (disch:=first|omega|simp only[lnx];omega) only[↓xpre,xpost,↓reduceIte,reduceEqDiff,reduceAdd,reduceSub,reduceLeDiff,zz0,f0,f2,f3,f4,f10,f11,f20,f21,f12,f24,f25,IfW_dec]
  refine⟨fun hltb=>?_,fun hge=>?_⟩
  ·refine WC_loop_inv (fun n f h1=>∃ (c:Int),n=(k-c).toNat∧(0≤c∧c≤k)∧f 0=I64 p∧f 2=I64 j∧f 3=I64 k∧f 4=fv∧f 10=.pointer (some ⟨h.length,0,none⟩)∧f 11=.pointer (some ⟨H1.length,0,none⟩) ∧
    f 20=I64 i∧f 21=I64 a∧f 12=I64 a∧f 24=I64 j∧f 25=I64 b∧f 13=I64 b∧f 28=I64 k∧f 29=I64 c∧TensS ⟨p,i,j,k,[]⟩ h h1 H1.length (gen ((a*j+b)*k+c).toNat (tenG p j k num))) ?_ (k-0).toNat _ _
     ⟨0,rfl,by omega,f0,f2,f3,f4,f10,f11,f20,f21,f12,f24,f25,rfl,rfl,rfl,by rw[Int.add_zero];exact st⟩
   clear f0 f2 f3 f4 f10 f11 f20 f21 f12 f24 f25 st
   rintro n fr h1 ⟨c,rfl,hc,f0,f2,f3,f4,f10,f11,f20,f21,f12,f24,f25,f13,f28,f29,st⟩
   obtain⟨sv,⟨t1,g11⟩,way⟩:=st.g11
   try simp (maxSteps:=3000000) (disch:=first|omega|simp only[lnx];omega) only[↓xpre,xpost,↓reduceIte,reduceEqDiff,reduceAdd,reduceSub,reduceLeDiff,zz0,f0,f2,f3,f4,f10,f11,f20,f21,f12,f24,f25,f13,f28,f29,rd1_of g11,IfW_dec]
   refine⟨fun hltc=>?_,fun hge=>?_⟩
   ·have b1:=lin_in (i:=a) (I:=i) (j:=b) (J:=j) (by omega) (by omega)
    have b2:=lin_in b1.2 (j:=c) (J:=k) (by omega)
    refine hf a b c (by omega) (by omega) (by omega) h1 st.hp _ fun h2 p5=>?_
    try simp (maxSteps:=3000000) (disch:=first|omega|simp only[lnx];omega) only[↓xpre,xpost,↓reduceIte,reduceEqDiff,reduceAdd,reduceSub,reduceLeDiff,zz0,f0,f2,f3,f4,f10,f11,f20,f21,f12,f24,f25,f13,f28,f29,bin_rem,fillL,zrep]
    refine⟨p5,?_⟩
    have lo:=st.lo
    have l5:=pre_len p5
    refine (way.pre p5).app (S:=S) (by rw[gen_len];omega) (by omega) fun sv' H' hl' hpre hown hw=>?_
    obtain⟨t2,g11'⟩:=hown _ _ _ (by omega) ⟨t1,pre_get p5 g11⟩
    obtain⟨c10,c11,c12⟩:=st.g10
    try simp (maxSteps:=3000000) (disch:=first|omega|simp only[lnx];omega) only[↓xpre,xpost,↓reduceIte,reduceEqDiff,reduceAdd,reduceSub,reduceLeDiff,zz0,f0,f2,f3,f4,f10,f11,f20,f21,f12,f24,f25,f13,f28,f29,hw.one,hw.cells,wr_of g11',wrap64_in]
    refine InvQ_go (k-(c+1)).toNat (by omega) ⟨c+1,rfl,by omega,f0,f2,f3,f4,f10,f11,f20,f21,f12,f24,f25,f13,f28,rfl,?_⟩
    refine⟨pre_put (hpre h (by omega) (st.hp.trans p5)) (by omega),by rw[len_put];omega,⟨c10,c11,(hown _ _ _ (by omega) (c12.pre p5)).put_ne (by omega)⟩,sv',⟨t2,?_⟩,?_⟩
    ·rw[get_put_same (get_lt g11')]
    ·have e1:((a*j+b)*k+(c+1)).toNat=((a*j+b)*k+c).toNat+1:=by omega
     rw[e1,gen_succ]
     have e2:tenG p j k num ((a*j+b)*k+c).toNat=(num a b c).tmod p:=by
      have d1:=dec (a:=a*j+b) (i:=c) (I:=k) (by omega)
      have d2:=dec (a:=a) (i:=b) (I:=j) (by omega)
      unfold tenG
      rw[Int.toNat_of_nonneg (by omega),d1.1,d1.2,d2.1,d2.2]
     rw[e2]
     exact hw.put (by omega)
   ·try simp (maxSteps:=3000000) (disch:=first|omega|simp only[lnx];omega) only[↓xpre,xpost,↓reduceIte,reduceEqDiff,reduceAdd,reduceSub,reduceLeDiff,zz0,f0,f2,f3,f4,f10,f11,f20,f21,f12,f24,f25,wrap64_in]
    have e:c=k:=by omega
    subst e
    refine InvQ_go (j-(b+1)).toNat (by omega) ⟨b+1,rfl,by omega,f0,f2,f3,f4,f10,f11,f20,f21,f12,f24,rfl,?_⟩
    have e1:(a*j+(b+1))*c=(a*j+b)*c+c:=by rw[←Int.add_assoc,Int.add_mul (a*j+b),Int.one_mul]
    rw[e1]
    exact st
  ·try simp (maxSteps:=3000000) (disch:=first|omega|simp only[lnx];omega) only[↓xpre,xpost,↓reduceIte,reduceEqDiff,reduceAdd,reduceSub,reduceLeDiff,zz0,f0,f2,f3,f4,f10,f11,f20,f21,wrap64_in]
   have e:b=j:=by omega
   subst e
   refine InvQ_go (i-(a+1)).toNat (by omega) ⟨a+1,rfl,by omega,f0,f2,f3,f4,f10,f11,f20,rfl,?_⟩
   have e1:(a+1)*b*k=(a*b+b)*k:=by rw[Int.add_mul a,Int.one_mul]
   rw[e1]
   exact st
 ·have e:a=i:=by omega
  subst e
  obtain⟨sv,⟨t1,g11⟩,way⟩:=st.g11
  obtain⟨c,c3,t2,g2⟩:=st.g10
  have lo:=st.lo
  obtain⟨c0,c1,c2,c4,c5,rfl⟩:∃ a b d e g,c=[a,b,d,e,g]:=by
   match c,c3 with
   | [a,b,d,e,g],_=>exact⟨_,_,_,_,_,rfl⟩
  have l2:=get_lt g2
  try simp (maxSteps:=3000000) (disch:=first|omega|simp only[lnx];omega) only[↓xpre,xpost,↓reduceIte,reduceEqDiff,reduceAdd,reduceSub,reduceLeDiff,zz0,f0,f2,f3,f4,f10,f11,f20,f21,rdn_of g11,wr_of g2,way.one]
  exact hQ _ _ (pre_put st.hp (Nat.le_refl _)) ((way.put (by omega)).ownR (by omega))
end Go.Proofs.YtigpfopobpoamaaGreat.X

set_option linter.unusedVariables false
set_option linter.unusedSimpArgs false
namespace Go.Proofs.YtigpfopobpoamaaGreat.X
open Go Go.RowKit
theorem places {n i j k:Int} (hn:0≤n∧n<i*j*k) (hj:1≤j) (hk:1≤k):(0≤n / k / j∧n / k / j<i)∧(0≤n / k%j∧n / k%j<j)∧(0≤n%k∧n%k<k):=by
 have h1:n / k<i*j:=Int.ediv_lt_of_lt_mul (by omega) hn.2
 have h2:n / k / j<i:=Int.ediv_lt_of_lt_mul (by omega) h1
 have h3:0≤n / k:=Int.ediv_nonneg (by omega) (by omega)
 exact⟨⟨Int.ediv_nonneg h3 (by omega),h2⟩,⟨Int.emod_nonneg _ (by omega),Int.emod_lt_of_pos _ (by omega)⟩,⟨Int.emod_nonneg _ (by omega),Int.emod_lt_of_pos _ (by omega)⟩⟩
theorem OwnR.put_ne {h0 h:AH} {v:Value} {ns:List Int} {n:Nat} {b:Blk} (o:OwnR h0 h v ns) (hn:n<h0.length):OwnR h0 (h.put n b) v ns:=by
 rcases o with⟨rfl,rfl⟩|⟨m,e,full,h1,rfl,h2⟩
 ·exact .inl ⟨rfl,rfl⟩
 ·exact .inr ⟨m,e,full,h1,rfl,by rw[get_put_ne (by omega)];exact h2⟩
set_option maxRecDepth 20000
set_option maxHeartbeats 4000000
def Vals (h:AH) (v:Value) (cs:List Value):Prop:=
 (cs=[]∧∃ t,t≤2∧v=.slice none 0 t) ∨
 ∃ b off blk,v=.slice (some ⟨b,off,none⟩) cs.length 1∧h.get b=some blk∧off+cs.length≤blk.c.length∧∀ i,i<cs.length→blk.c[off+i]?=some (cs.getD i undef)
section
variable {h h':AH} {v:Value} {cs:List Value}
theorem Vals.pre (p:h<+:h') (hv:Vals h v cs):Vals h' v cs:=by
 rcases hv with hv|⟨b,off,blk,h1,h2,h3,h4⟩
 ·exact .inl hv
 ·exact .inr ⟨b,off,blk,h1,pre_get p h2,h3,h4⟩
theorem Vals.len (hv:Vals h v cs):lenV v=some (.int .i64 cs.length):=by
 rcases hv with⟨rfl,t,_,rfl⟩|⟨b,off,blk,rfl,h2,h3,h4⟩<;>rfl
theorem Vals.one (hv:Vals h v cs):isOne v=true:=by
 rcases hv with⟨rfl,t,_,rfl⟩|⟨b,off,blk,rfl,h2,h3,h4⟩<;>rfl
theorem Vals.cells (hv:Vals h v cs):cellsL v=[v]:=by
 rcases hv with⟨rfl,t,_,rfl⟩|⟨b,off,blk,rfl,h2,h3,h4⟩<;>rfl
theorem Vals.ix (hv:Vals h v cs) {k:IntKind} {j:Int} (h0:0≤j) (h1:j<cs.length):ixsV 1 v (.int k j)=some (.pointer (some (pAt v 1 j))):=by
 rcases hv with⟨rfl,t,_,rfl⟩|⟨b,off,blk,rfl,h2,h3,h4⟩
 ·simp at h1;omega
 ·simp[ixsV,h0,h1,pAt]
theorem Vals.rd (hv:Vals h v cs) {j:Int} (h0:0≤j) (h1:j<cs.length):h.rd1 (pAt v 1 j).block (pAt v 1 j).off=some (cs.getD j.toNat undef):=by
 rcases hv with⟨rfl,t,_,rfl⟩|⟨b,off,blk,rfl,h2,h3,h4⟩
 ·simp at h1;omega
 ·have:=h4 j.toNat (by omega)
  simp[AH.rd1,pAt,h2,this]
end
def Rows (h:AH) (v:Value) (rows:List (List Int)):Prop:=∃ cs,Vals h v cs∧cs.length=rows.length∧∀ i,i<rows.length→Ints h (cs.getD i undef) (rows.getD i [])
theorem Rows.pre {h h':AH} {v:Value} {rows:List (List Int)} (p:h<+:h') (hv:Rows h v rows):Rows h' v rows:=by
 obtain⟨cs,h1,h2,h3⟩:=hv
 exact⟨cs,h1.pre p,h2,fun i hi=>(h3 i hi).pre p⟩
theorem Rows.one {h:AH} {v:Value} {rows:List (List Int)} (hv:Rows h v rows):isOne v=true:=by
 obtain⟨cs,h1,h2,h3⟩:=hv
 exact h1.one
def tot (rows:List (List Int)) (i:Nat):Int:=((rows.take i).map fun r=>(r.length:Int)).sum
theorem set_getD' {α:Type} {l:List α} {i j:Nat} {x d:α} (hi:i<l.length):(l.set i x).getD j d=if j=i then x else l.getD j d:=by
 rw[List.getD_eq_getElem?_getD,List.getD_eq_getElem?_getD,List.getElem?_set]
 by_cases h:i=j
 ·subst h
  simp[hi]
 ·rw[if_neg h,if_neg (fun e=>h e.symm)]
theorem splice_set {l:List Value} {j:Nat} {x:Value} (hj:j<l.length):splice l j [x]=l.set j x:=by
 unfold splice
 rw[List.set_eq_take_append_cons_drop,if_pos hj]
 simp
def OwnRows (h0 h:AH) (v:Value) (rows:List (List Int)):Prop:=
 (v=.slice none 0 0∧rows=[]) ∨
 ∃ n e full cs,h0.length≤n∧v=.slice (some ⟨n,0,none⟩) cs.length 1∧h.get n=some ⟨cs,e,false,full⟩∧cs.length=rows.length ∧
  (∀ i,i<rows.length→OwnR h0 h (cs.getD i undef) (rows.getD i [])∧blkOf (cs.getD i undef)≠some n) ∧
  ∀ i j,i<j→j<rows.length→∀ b,blkOf (cs.getD i undef)=some b→blkOf (cs.getD j undef)≠some b
theorem OwnRows.pre {h0 h h':AH} {v:Value} {rows:List (List Int)} (o:OwnRows h0 h v rows) (p:h<+:h'):OwnRows h0 h' v rows:=by
 rcases o with⟨rfl,rfl⟩|⟨n,e,full,cs,h1,rfl,h2,h3,h4,h5⟩
 ·exact .inl ⟨rfl,rfl⟩
 ·exact .inr ⟨n,e,full,cs,h1,rfl,pre_get p h2,h3,fun i hi=>⟨(h4 i hi).1.pre p,(h4 i hi).2⟩,h5⟩
end Go.Proofs.YtigpfopobpoamaaGreat.X

set_option linter.unusedVariables false
set_option linter.unusedSimpArgs false
set_option maxRecDepth 20000
set_option maxHeartbeats 4000000
namespace Go.Proofs.YtigpfopobpoamaaGreat.X
open Go Go.RowKit
open Nat (reduceEqDiff reduceAdd reduceSub reduceLeDiff)
def md (p x:Int):Int:=(x.tmod p+p).tmod p
theorem tmod_bound {x p:Int} (hp:2≤p):-p<x.tmod p∧x.tmod p<p:=by
 have h1:=Int.tmod_lt_of_pos x (show 0<p by omega)
 have h2:=Int.tmod_lt_of_pos (-x) (show 0<p by omega)
 rw[Int.neg_tmod] at h2
 omega
theorem tmod_nn {a J:Int} (ha:0≤a) (hJ:1≤J):0≤a.tmod J∧a.tmod J<J:=by
 rw[Int.tmod_eq_emod_of_nonneg ha]
 exact⟨Int.emod_nonneg _ (by omega),Int.emod_lt_of_pos _ (by omega)⟩
theorem md_in {x p:Int} (hp:2≤p):0≤md p x∧md p x<p:=by
 have:=tmod_bound (x:=x) hp
 exact tmod_nn (by omega) (by omega)
theorem md_small {x p:Int} (hx:0≤x∧x<p):md p x=x:=by
 unfold md
 rw[Int.tmod_eq_of_lt hx.1 hx.2,Int.tmod_eq_emod_of_nonneg (by omega),Int.add_emod_right,Int.emod_eq_of_lt hx.1 hx.2]
theorem s_l01Mod {p x:Int} {h:AH} {Q:Value→AH→Prop} (hp:2≤p∧p≤5) (hQ:Q (I64 (md p x)) h):WF S 81 [I64 p,I64 x] h Q:=by
 refine WF_fn (fn:=c81) rfl rfl ?_
 dsimp only[c81,oO,oM,oS,oG,oK,oE,oL,oF,oX,oN]
 have:=tmod_bound (x:=x) hp.1
 try simp (maxSteps:=3000000) (disch:=first|omega|simp only[lnx];omega) only[↓xpre,xpost,↓reduceIte,reduceEqDiff,reduceAdd,reduceSub,reduceLeDiff,zz0,bin_rem,wrap64_in]
 exact hQ
def IsInv (p n w:Int):Prop:=1≤w∧w<p∧(w*n).tmod p=1∧∀ k,1≤k→k<w→(k*n).tmod p≠1
theorem inv_is {p n:Int} (hp:isP p=true) (hn:1≤n∧n<p):∃ w,IsInv p n w:=by
 have hpp:p=2∨p=3∨p=5:=by simpa [isP] using hp
 have one:IsInv p 1 1→n=1→∃ w,IsInv p n w:=fun h e=>⟨1,by rw[e];exact h⟩
 have hcase:(n=1)∨(p=3∧n=2)∨(p=5∧n=2)∨(p=5∧n=3)∨(p=5∧n=4):=by omega
 rcases hcase with rfl|⟨rfl,rfl⟩|⟨rfl,rfl⟩|⟨rfl,rfl⟩|⟨rfl,rfl⟩
 ·refine⟨1,by omega,by omega,?_,fun k h1 h2=>by omega⟩
  exact Int.tmod_eq_of_lt (by omega) (by omega)
 ·refine⟨2,by omega,by omega,by decide,fun k h1 h2=>?_⟩
  have:k=1:=by omega
  subst this
  decide
 ·refine⟨3,by omega,by omega,by decide,fun k h1 h2=>?_⟩
  have:k=1∨k=2:=by omega
  rcases this with rfl|rfl<;>decide
 ·refine⟨2,by omega,by omega,by decide,fun k h1 h2=>?_⟩
  have:k=1:=by omega
  subst this
  decide
 ·refine⟨4,by omega,by omega,by decide,fun k h1 h2=>?_⟩
  have:k=1∨k=2∨k=3:=by omega
  rcases this with rfl|rfl|rfl<;>decide
theorem s_l01Inverse {p n w:Int} {h:AH} {Q:Value→AH→Prop} (hp:2≤p∧p≤5) (hn:1≤n∧n<p) (hw:IsInv p n w) (hQ:Q (I64 w) h):WF S 107 [I64 p,I64 n] h Q:=by
 refine WF_fn (fn:=c107) rfl rfl ?_
 dsimp only[c107,oO,oM,oS,oG,oK,oE,oL,oF,oX,oN]
 try simp (maxSteps:=3000000) (disch:=first|omega|simp only[lnx];omega) only[↓xpre,xpost,↓reduceIte,reduceEqDiff,reduceAdd,reduceSub,reduceLeDiff,zz0]
 obtain⟨w1,w2,w3,w4⟩:=hw
 refine WC_loop_inv (fun m f h1=>∃ k:Int,m=(w-k).toNat∧(1≤k∧k≤w)∧f 0=I64 p∧f 1=I64 n∧f 5=I64 k∧h1=h) ?_ (w-1).toNat _ _ ⟨1,rfl,by omega,rfl,rfl,rfl,rfl⟩
 rintro m f h1 ⟨k,rfl,hk,f0,f1,f5,rfl⟩
 try simp (maxSteps:=3000000) (disch:=first|omega|simp only[lnx];omega) only[↓xpre,xpost,↓reduceIte,reduceEqDiff,reduceAdd,reduceSub,reduceLeDiff,zz0,f0,f1,f5,IfW_dec]
 refine⟨fun hlt=>?_,fun hge=>by omega⟩
 refine s_l01Mod hp ?_
 rw[md_small (by omega)]
 have b:=mul_in (a:=k) (b:=n) (A:=5) (B:=5) (by omega) (by omega)
 try simp (maxSteps:=3000000) (disch:=first|omega|simp only[lnx];omega) only[↓xpre,xpost,↓reduceIte,reduceEqDiff,reduceAdd,reduceSub,reduceLeDiff,zz0,f0,f1,f5,wrap64_in,bin_rem,IfW_dec]
 refine⟨fun he=>?_,fun he=>?_⟩
 ·have:k=w:=Decidable.byContradiction fun hne=>w4 k hk.1 (by omega) he
  subst this
  exact hQ
 ·have:k≠w:=fun e=>he (by rw[e];exact w3)
  try simp (maxSteps:=3000000) (disch:=first|omega|simp only[lnx];omega) only[↓xpre,xpost,↓reduceIte,reduceEqDiff,reduceAdd,reduceSub,reduceLeDiff,zz0,f0,f1,f5,wrap64_in]
  exact InvQ_go (w-(k+1)).toNat (by omega) ⟨k+1,rfl,by omega,f0,f1,rfl,rfl⟩
theorem i_inverse {p n w:Int} {h:AH} {Q:Value→AH→Prop} (hp:2≤p∧p≤5) (hn:1≤n∧n<p) (hw:IsInv p n w) (hQ:Q (I64 w) h):WF S 97 [I64 p,I64 n] h Q:=by
 refine WF_fn (fn:=c97) rfl rfl ?_
 dsimp only[c97,oO,oM,oS,oG,oK,oE,oL,oF,oX,oN]
 try simp (maxSteps:=3000000) (disch:=first|omega|simp only[lnx];omega) only[↓xpre,xpost,↓reduceIte,reduceEqDiff,reduceAdd,reduceSub,reduceLeDiff,zz0]
 obtain⟨w1,w2,w3,w4⟩:=hw
 refine WC_loop_inv (fun m f h1=>∃ k:Int,m=(w-k).toNat∧(1≤k∧k≤w)∧f 0=I64 p∧f 1=I64 n∧f 5=I64 k∧h1=h) ?_ (w-1).toNat _ _ ⟨1,rfl,by omega,rfl,rfl,rfl,rfl⟩
 rintro m f h1 ⟨k,rfl,hk,f0,f1,f5,rfl⟩
 have b:=mul_in (a:=k) (b:=n) (A:=5) (B:=5) (by omega) (by omega)
 try simp (maxSteps:=3000000) (disch:=first|omega|simp only[lnx];omega) only[↓xpre,xpost,↓reduceIte,reduceEqDiff,reduceAdd,reduceSub,reduceLeDiff,zz0,f0,f1,f5,wrap64_in,bin_rem,IfW_dec]
 refine⟨fun he=>?_,fun he=>?_⟩
 ·have:k=w:=Decidable.byContradiction fun hne=>w4 k hk.1 (by omega) he
  subst this
  exact hQ
 ·have:k≠w:=fun e=>he (by rw[e];exact w3)
  try simp (maxSteps:=3000000) (disch:=first|omega|simp only[lnx];omega) only[↓xpre,xpost,↓reduceIte,reduceEqDiff,reduceAdd,reduceSub,reduceLeDiff,zz0,f0,f1,f5,wrap64_in]
  exact InvQ_go (w-(k+1)).toNat (by omega) ⟨k+1,rfl,by omega,f0,f1,rfl,rfl⟩
end Go.Proofs.YtigpfopobpoamaaGreat.X

set_option linter.unusedVariables false
set_option linter.unusedSimpArgs false
set_option maxRecDepth 20000
set_option maxHeartbeats 4000000
namespace Go.Proofs.YtigpfopobpoamaaGreat.X
open Go Go.RowKit
def isnilV (neg:Bool) (x:Value):Option Value:=match x with
 | .slice none 0 0=>some (.bool (!neg))
 | .slice (some _) _ _=>some (.bool neg)
 | .slice none 0 3=>some (.bool neg)
 | _=>none
theorem isnilV_nil {neg:Bool}:isnilV neg (.slice none 0 0)=some (.bool (!neg)):=rfl
theorem isnilV_emp {neg:Bool}:isnilV neg (.slice none 0 3)=some (.bool neg):=rfl
theorem isnilV_some {neg:Bool} {a:Addr} {n c:Nat}:isnilV neg (.slice (some a) n c)=some (.bool neg):=rfl
theorem WX_isnil {S:XS} {f:Fr} {h:AH} {Q:Value→AH→Prop} {neg:Bool} {x:Operand}:WX S (.isnil neg x) f h Q=WV (isnilV neg (ev f x)) fun v=>Q v h:=by
 rw[WX_op (fun _=>rfl)]
 have:xop (.isnil neg x) f h=(isnilV neg (ev f x)).map (·,h):=by
  simp only[xop,isnilV]
  split<;>simp_all
 rw[this]
 cases isnilV neg (ev f x)<;>simp[OQ_some,WV_some,OQ_none,WV_none]
theorem Ints.put_ne {h:AH} {v:Value} {ns:List Int} {n:Nat} {b:Blk} (hv:Ints h v ns) (hn:blkOf v≠some n):Ints (h.put n b) v ns:=by
 rcases hv with hv|⟨m,off,blk,rfl,h2,h3,h4⟩
 ·exact .inl hv
 ·exact .inr ⟨m,off,blk,rfl,by rw[get_put_ne (fun e=>hn (by rw[e];rfl))];exact h2,h3,h4⟩
theorem Ints.lt {h:AH} {v:Value} {ns:List Int} (hv:Ints h v ns):∀ n,blkOf v=some n→n<h.length:=by
 intro n hn
 rcases hv with⟨_,t,_,rfl⟩|⟨m,off,blk,rfl,h2,h3,h4⟩
 ·cases hn
 ·cases hn
  exact get_lt h2
def tb (T:List (List Int)) (i c:Nat):Int:=(T.getD i []).getD c 0
open Classical in
noncomputable def invN (p n:Int):Int:=if h:∃ w,IsInv p n w then Classical.choose h else 0
def pivot (T:List (List Int)) (c:Nat):Nat→Nat→Nat
 | 0,r=>r
 | m+1,r=>if tb T r c=0 then pivot T c m (r+1) else r
noncomputable def rowOp (p:Int) (own row:List Int) (c:Nat):List Int:=
 gen row.length fun l=>md p (row.getD l 0-(row.getD c 0*invN p (own.getD c 0)).tmod p*own.getD l 0)
def swapped (T:List (List Int)) (r i:Nat):List (List Int):=(T.set i (T.getD r [])).set r (T.getD i [])
noncomputable def swept (p:Int) (T:List (List Int)) (r c k:Nat):List (List Int):=
 (List.range T.length).map fun j=>if r<j∧j<k then rowOp p (T.getD r []) (T.getD j []) c else T.getD j []
noncomputable def colStep (p:Int) (T:List (List Int)) (r c:Nat):List (List Int)×Nat:=
 if pivot T c (T.length-r) r=T.length then (T,r) else (swept p (swapped T r (pivot T c (T.length-r) r)) r c T.length,r+1)
noncomputable def elim:Int→List (List Int)→Nat→Nat→Nat→Nat
 | p,T,r,c,0=>r
 | p,T,r,c,m+1=>elim p (colStep p T r c).1 (colStep p T r c).2 (c+1) m
def WayF (h:AH) (lo:Nat) (sv:Value) (l:List Int):Prop:=
 ∃ kb full,sv=.slice (some ⟨kb,0,none⟩) l.length 1∧lo≤kb∧h.get kb=some ⟨l.map (Value.int .i64),2,false,full⟩
def Keeps (lo:Nat) (h h':AH):Prop:=h.length≤h'.length∧∀ n b,n<lo→h.get n=some b→h'.get n=some b
structure RankS (h0 h:AH) (n0:Nat) (cs:List Value) (T:List (List Int)):Prop where
 hp:h0<+:h
 lo:h0.length≤n0
 g:OwnB h n0 cs false
 len:cs.length=T.length
 rows:∀ i,i<T.length→Ints h (cs.getD i undef) (T.getD i [])∧blkOf (cs.getD i undef)≠some n0
theorem RankS.lt {h0 h:AH} {n0:Nat} {cs:List Value} {T:List (List Int)} (s:RankS h0 h n0 cs T):n0<h.length:=s.g.choose_spec|>get_lt
theorem RankS.pre {h0 h h':AH} {n0:Nat} {cs:List Value} {T:List (List Int)} (s:RankS h0 h n0 cs T) (p:h<+:h'):RankS h0 h' n0 cs T:=by
 obtain⟨e,hg⟩:=s.g
 exact⟨s.hp.trans p,s.lo,⟨e,pre_get p hg⟩,s.len,fun i hi=>⟨(s.rows i hi).1.pre p,(s.rows i hi).2⟩⟩
theorem RankS.put {h0 h:AH} {n0:Nat} {cs:List Value} {T T':List (List Int)} (s:RankS h0 h n0 cs T) {i:Nat} {x:Value} {r:List Int} {e:TypeId} (hi:i<T.length) (hT:T'=T.set i r)
  (hx:Ints h x r) (hb:blkOf x≠some n0):RankS h0 (h.put n0 ⟨cs.set i x,e,false,false⟩) n0 (cs.set i x) T':=by
 subst hT
 have hlt:=s.lt
 refine⟨pre_put s.hp s.lo,s.lo,⟨e,get_put_same hlt⟩,by simp[s.len],fun j hj=>?_⟩
 have hl:=s.len
 rw[List.length_set] at hj
 rw[set_getD' (by omega),set_getD' hi]
 by_cases h:j=i
 ·rw[if_pos h,if_pos h]
  exact⟨hx.put_ne hb,hb⟩
 ·rw[if_neg h,if_neg h]
  exact⟨(s.rows j hj).1.put_ne (s.rows j hj).2,(s.rows j hj).2⟩
def firstAt (q:Nat→Bool):Nat→Nat→Int
 | 0,i=>-1
 | m+1,i=>if q i=true then i else firstAt q m (i+1)
structure OwnT (h0 h:AH) (lo n0:Nat) (bs:List Nat) (T:List (List Int)):Prop where
 hp:h0<+:h
 lo0:h0.length≤n0∧n0<h.length
 g:OwnB h n0 (T.mapIdx fun i r=>.slice (some ⟨bs.getD i 0,0,none⟩) r.length 1) false
 len:bs.length=T.length
 rows:∀ i,i<T.length→(h0.length≤bs.getD i 0∧bs.getD i 0≠n0)∧OwnB h (bs.getD i 0) ((T.getD i []).map (Value.int .i64)) false
 dist:∀ i j,i<T.length→j<T.length→i≠j→bs.getD i 0≠bs.getD j 0
theorem OwnT.pre {h0 h h':AH} {lo n0:Nat} {bs:List Nat} {T:List (List Int)} (s:OwnT h0 h lo n0 bs T) (p:h<+:h'):OwnT h0 h' lo n0 bs T:=
 ⟨s.hp.trans p,⟨s.lo0.1,by have:=pre_len p;have:=s.lo0.2;omega⟩,s.g.pre p,s.len,fun i hi=>⟨(s.rows i hi).1,(s.rows i hi).2.pre p⟩,s.dist⟩
theorem getD_ext' {α:Type} {d:α} {T T':List α} (hl:T.length=T'.length) (h:∀ j,j<T.length→T.getD j d=T'.getD j d):T=T':=by
 refine List.ext_getElem? fun j=>?_
 by_cases h1:j<T.length
 ·have:=h j h1
  rw[List.getElem?_eq_getElem h1,List.getElem?_eq_getElem (by omega)]
  simpa [List.getD_eq_getElem?_getD,List.getElem?_eq_getElem h1,List.getElem?_eq_getElem (show j<T'.length by omega)] using this
 ·rw[List.getElem?_eq_none (by omega),List.getElem?_eq_none (by omega)]
def boundV (d:Int):Option Value→Option Int
 | none=>some d
 | some (.int _ i)=>some i
 | some _=>none
def slcV (sz:Nat) (v:Value) (lo hi:Option Value):Option Value:=match v with
 | .slice (some ⟨n,off,_⟩) len sz'=>match boundV 0 lo,boundV len hi with
  | some l,some u=>
   if sz'=sz∧0≤l∧l<u∧u≤len then some (.slice (some ⟨n,off+l.toNat*sz,none⟩) (u-l).toNat sz)
   else if sz'=sz∧lo=none∧l=0∧u=0 then some (.slice (some ⟨n,off,none⟩) 0 sz)
   else if sz'=sz∧0≤l∧l=u∧u≤len then some (.slice none 0 1) else none
  | _,_=>none
 | .slice none 0 t=>match boundV 0 lo,boundV 0 hi with
  | some l,some u=>if l=0∧u=0 then some (.slice none 0 t) else none
  | _,_=>none
 | _=>none
def omapF (f:Fr):Option Operand→Option Value
 | none=>none
 | some x=>some (ev f x)
theorem omapF_none {f:Fr}:omapF f none=none:=rfl
theorem omapF_some {f:Fr} {x:Operand}:omapF f (some x)=some (ev f x):=rfl
theorem bound_eq {f:Fr} {d:Int} {o:Option Operand}:bound f d o=boundV d (omapF f o):=by
 cases o with
 | none=>rfl
 | some x=>simp only[bound,omapF,boundV];split<;>simp_all
theorem omapF_isn {f:Fr} {o:Option Operand}:(omapF f o=none)=(o=none):=by cases o<;>simp[omapF]
theorem WX_slc {S:XS} {f:Fr} {h:AH} {Q:Value→AH→Prop} {sz:Nat} {x:Operand} {lo hi:Option Operand}:WX S (.slc sz x lo hi) f h Q=WV (slcV sz (ev f x) (omapF f lo) (omapF f hi)) fun v=>Q v h:=by
 rw[WX_op (fun _=>rfl)]
 have:xop (.slc sz x lo hi) f h=(slcV sz (ev f x) (omapF f lo) (omapF f hi)).map (·,h):=by
  simp only[xop,slcV,bound_eq]
  generalize ev f x=v
  rcases hA:boundV 0 (omapF f lo) with _|l
  ·split<;>simp
  ·split
   ·rcases hB:boundV _ (omapF f hi) with _|u
    ·simp[hB]
    ·simp only[hB,omapF_isn]
     split
     ·rfl
     ·split
      ·rfl
      ·split<;>rfl
   ·rcases hB:boundV 0 (omapF f hi) with _|u
    ·simp[hB]
    ·simp only[hB]
     split<;>rfl
   ·rename_i q1 q2
    split
    ·exact absurd rfl (q1 _ _ _ _ _)
    ·exact absurd rfl (q2 _)
    ·rfl
 rw[this]
 cases slcV sz (ev f x) (omapF f lo) (omapF f hi)<;>simp[OQ_some,WV_some,OQ_none,WV_none]
theorem Vals.ints {h:AH} {v:Value} {ns:List Int} (hv:Vals h v (ns.map (Value.int .i64))):Ints h v ns:=by
 rcases hv with⟨e,t,ht,rfl⟩|⟨b,off,blk,rfl,h2,h3,h4⟩
 ·exact .inl ⟨by simpa using e,t,ht,rfl⟩
 ·refine .inr ⟨b,off,blk,by simp,h2,by simpa using h3,fun i hi=>?_⟩
  rw[h4 i (by simpa using hi)]
  simp[List.getD_eq_getElem?_getD,List.getElem?_eq_getElem hi]
def mixed (g:Nat→Int) (row:List Int) (l:Nat):List Int:=gen row.length fun x=>if x<l then g x else row.getD x 0
def rowV (p:Nat×List Int):Value:=.slice (some ⟨p.1,0,none⟩) p.2.length 1
theorem OwnB.new {h:AH} {c:List Value} {full:Bool} {n:Nat} {b:Blk} (o:OwnB h n c full):OwnB (h.new b) n c full:=by
 obtain⟨t,hg⟩:=o
 exact⟨t,get_new_any hg⟩
structure TabS (h0 h:AH) (nb:Nat) (full:Bool) (L:List (Nat×List Int)):Prop where
 hp:h0<+:h
 lo:h0.length≤nb
 g:h.get nb=some ⟨L.map rowV,56,false,full⟩
 rows:∀ p,p∈L→(h0.length≤p.1∧p.1≠nb)∧∃ fu,OwnB h p.1 (p.2.map (Value.int .i64)) fu
 dist:L.Pairwise (fun p q=>p.1≠q.1)
theorem TabS.pre {h0 h h':AH} {nb:Nat} {full:Bool} {L:List (Nat×List Int)} (s:TabS h0 h nb full L) (p:h<+:h'):TabS h0 h' nb full L:=
 ⟨s.hp.trans p,s.lo,pre_get p s.g,fun q hq=>⟨(s.rows q hq).1,by obtain⟨fu,o⟩:=(s.rows q hq).2;exact⟨fu,o.pre p⟩⟩,s.dist⟩
def ixaV (len sz:Nat) (x i:Value):Option Value:=match x,i with
 | .pointer (some ⟨n,off,_⟩),.int _ j=>if 0≤j∧j<len then some (.pointer (some ⟨n,off+j.toNat*sz,none⟩)) else none
 | _,_=>none
def idx1V (len:Nat) (x i:Value):Option Value:=match x,i with
 | .agg cs,.int _ j=>if 0≤j∧j<len then cs.toList[j.toNat]? else none
 | _,_=>none
def idxnV (len sz:Nat) (x i:Value):Option Value:=match x,i with
 | .agg cs,.int _ j=>if 0≤j∧j<len∧j.toNat*sz+sz≤cs.toList.length then some (.agg ((cs.toList.drop (j.toNat*sz)).take sz).toArray) else none
 | _,_=>none
theorem WX_of {S:XS} {o:XOp} {f:Fr} {h:AH} {Q:Value→AH→Prop} {r:Option Value} (ho:∀ C,xrun C o f h=xop o f h) (e:xop o f h=r.map (·,h)):WX S o f h Q=WV r fun v=>Q v h:=by
 rw[WX_op ho,e]
 cases r<;>simp[OQ_some,WV_some,OQ_none,WV_none]
theorem WX_ixa {S:XS} {f:Fr} {h:AH} {Q:Value→AH→Prop} {n sz:Nat} {x y:Operand}:WX S (.ixa n sz x y) f h Q=WV (ixaV n sz (ev f x) (ev f y)) fun v=>Q v h:=by
 refine WX_of (fun _=>rfl) ?_
 simp only[xop,ixaV]
 generalize ev f x=a
 generalize ev f y=b
 split
 ·dsimp only
  split<;>rfl
 ·rename_i q
  split
  ·exact absurd rfl (q _ _ _ _ _ rfl)
  ·rfl
theorem ixaV_ptr {len sz n off:Nat} {k:IntKind} {j:Int} (h:0≤j∧j<len):ixaV len sz (.pointer (some ⟨n,off,none⟩)) (.int k j)=some (.pointer (some ⟨n,off+j.toNat*sz,none⟩)):=by
 simp[ixaV,h]
theorem WX_idx1 {S:XS} {f:Fr} {h:AH} {Q:Value→AH→Prop} {n:Nat} {x y:Operand}:WX S (.idx1 n x y) f h Q=WV (idx1V n (ev f x) (ev f y)) fun v=>Q v h:=by
 refine WX_of (fun _=>rfl) ?_
 simp only[xop,idx1V]
 generalize ev f x=a
 generalize ev f y=b
 split
 ·dsimp only
  split
  ·rename_i cs _ j _
   cases cs.toList[j.toNat]?<;>rfl
  ·rfl
 ·rename_i q
  split
  ·exact absurd rfl (q _ _ _ rfl)
  ·rfl
theorem WX_idxn {S:XS} {f:Fr} {h:AH} {Q:Value→AH→Prop} {n sz:Nat} {x y:Operand}:WX S (.idxn n sz x y) f h Q=WV (idxnV n sz (ev f x) (ev f y)) fun v=>Q v h:=by
 refine WX_of (fun _=>rfl) ?_
 simp only[xop,idxnV]
 generalize ev f x=a
 generalize ev f y=b
 split
 ·dsimp only
  split<;>rfl
 ·rename_i q
  split
  ·exact absurd rfl (q _ _ _ rfl)
  ·rfl
def parts (ns:List Int) (w n:Nat):List (List Int):=(List.range n).map fun i=>(ns.drop (i*w)).take w
theorem take_next {α:Type} {d:α} {l:List α} {i:Nat} (hi:i<l.length):l.take (i+1)=l.take i++[l.getD i d]:=by
 rw[List.take_succ_eq_append_getElem hi]
 simp[List.getD_eq_getElem?_getD,hi]
theorem mul_row {i n w:Nat} (hi:i<n):i*w+w≤n*w:=by
 have:=Nat.mul_le_mul_right w (show i+1≤n by omega)
 rw[Nat.succ_mul] at this
 exact this
def cel (k:IntKind) (q:List Int):List Value:=q.map (Value.int k)
theorem cel_len {k:IntKind} {q:List Int}:(cel k q).length=q.length:=List.length_map _
theorem cel_all {k:IntKind} {q:List Int}:(cel k q).all isOne=true:=by
 unfold cel
 induction q with
 | nil=>rfl
 | cons a l ih=>simp only[List.map_cons,List.all_cons,ih,Bool.and_true];rfl
theorem cel_get {k:IntKind} {q:List Int} {j:Nat} (hj:j<q.length):(cel k q)[j]?=some (.int k (q.getD j 0)):=by
 simp[cel,List.getD_eq_getElem?_getD,hj]
theorem cel_take {k:IntKind} {q:List Int} {n:Nat}:(cel k q).take n=cel k (q.take n):=by simp[cel,List.map_take]
theorem cel_drop {k:IntKind} {q:List Int} {n:Nat}:(cel k q).drop n=cel k (q.drop n):=by simp[cel,List.map_drop]
theorem cel_app {k:IntKind} {q r:List Int}:cel k q++cel k r=cel k (q++r):=by simp[cel]
theorem cel_set {k:IntKind} {q:List Int} {j:Nat} {x:Int} (hj:j<q.length):splice (cel k q) j [.int k x]=cel k (q.set j x):=by
 rw[splice_set (by rw[cel_len];exact hj)]
 simp[cel,List.map_set]
theorem cel_splice {k:IntKind} {q r:List Int} {j:Nat}:splice (cel k q) j (cel k r)=cel k (q.take j++r++q.drop (j+r.length)):=by
 rw[splice_eq]
 simp[cel,List.map_take,List.map_drop]
theorem cellsL_cel {k:IntKind} {q:List Int}:cellsL (.agg (cel k q).toArray)=cel k q:=by rw[cellsL_agg]
def Els (k:IntKind) (w:Nat) (h:AH) (v:Value) (L:List (List Int)):Prop:=
 (L=[]∧∃ t,t≤3∧v=.slice none 0 t) ∨
 ∃ b off blk,v=.slice (some ⟨b,off,none⟩) L.length w∧h.get b=some blk∧∀ i,i<L.length→off+i*w+w≤blk.c.length∧(blk.c.drop (off+i*w)).take w=cel k (L.getD i [])
section
variable {k:IntKind} {w:Nat} {h h':AH} {v:Value} {L:List (List Int)}
theorem Els.pre (e:Els k w h v L) (p:h<+:h'):Els k w h' v L:=by
 rcases e with e|⟨b,off,blk,h1,h2,h3⟩
 ·exact .inl e
 ·exact .inr ⟨b,off,blk,h1,pre_get p h2,h3⟩
theorem Els.len (e:Els k w h v L):lenV v=some (.int .i64 L.length):=by
 rcases e with⟨rfl,t,_,rfl⟩|⟨b,off,blk,rfl,h2,h3⟩<;>rfl
theorem Els.one (e:Els k w h v L):isOne v=true:=by
 rcases e with⟨rfl,t,_,rfl⟩|⟨b,off,blk,rfl,h2,h3⟩<;>rfl
theorem Els.cells (e:Els k w h v L):cellsL v=[v]:=by
 rcases e with⟨rfl,t,_,rfl⟩|⟨b,off,blk,rfl,h2,h3⟩<;>rfl
theorem Els.wid (e:Els k w h v L) {i:Nat} (hi:i<L.length):(L.getD i []).length=w:=by
 rcases e with⟨rfl,t,_,rfl⟩|⟨b,off,blk,rfl,h2,h3⟩
 ·simp at hi
 ·obtain⟨h4,h5⟩:=h3 i hi
  have:=congrArg List.length h5
  rw[cel_len,List.length_take,List.length_drop] at this
  omega
theorem Els.at (e:Els k w h v L) {i:Nat} (hi:i<L.length):∃ n off,(∀ kk:IntKind,ixsV w v (.int kk i)=some (.pointer (some ⟨n,off,none⟩))) ∧
  (∀ o m,o+m≤w→h.rdn n (off+o) m=some (cel k (((L.getD i []).drop o).take m)))∧∀ o,o<w→h.rd1 n (off+o)=some (.int k ((L.getD i []).getD o 0)):=by
 have hw:=e.wid hi
 rcases e with⟨rfl,t,_,rfl⟩|⟨b,off,blk,rfl,h2,h3⟩
 ·simp at hi
 ·obtain⟨h4,h5⟩:=h3 i hi
  refine⟨b,off+i*w,fun kk=>?_,fun o m hom=>?_,fun o ho=>?_⟩
  ·rw[ixsV_some,if_pos (by omega),Int.toNat_natCast]
  ·rw[rdn_of h2,if_pos (by omega)]
   congr 1
   rw[←cel_take,←cel_drop,←h5,List.drop_take,List.drop_drop,List.take_take,Nat.min_eq_left (by omega)]
  ·rw[rd1_of h2]
   have:=cel_get (k:=k) (q:=L.getD i []) (j:=o) (by omega)
   rw[←h5,List.getElem?_take,if_pos ho,List.getElem?_drop] at this
   exact this
end
def aggV (k:IntKind) (q:List Int):Value:=.agg (cel k q).toArray
theorem wr_all {h:AH} {z vs:List Value} {e:TypeId} {full:Bool} (hl:vs.length=z.length):(h.new ⟨z,e,false,full⟩).wr h.length 0 vs=some (h.new ⟨vs,e,false,full⟩):=by
 rw[wr_new_same,if_pos ⟨rfl,by simp only;omega⟩,splice_eq,hl]
 simp
theorem wr_full {h:AH} {z vs:List Value} {e:TypeId} {full:Bool} {n:Nat} (hg:h.get n=some ⟨z,e,false,full⟩) (hl:vs.length=z.length):h.wr n 0 vs=some (h.put n ⟨vs,e,false,full⟩):=by
 rw[wr_of hg,if_pos ⟨rfl,by simp only;omega⟩,splice_eq]
 simp[hl]
theorem zeros9:([.int .u8 0,.int .u8 0,.int .u8 0,.int .u8 0,.int .u8 0,.int .u8 0,.int .u8 0,.int .u8 0,.int .u8 0]:List Value)=cel .u8 (List.replicate 9 0):=rfl
theorem zeros27:([.int .u8 0,.int .u8 0,.int .u8 0,.int .u8 0,.int .u8 0,.int .u8 0,.int .u8 0,.int .u8 0,.int .u8 0,.int .u8 0,.int .u8 0,.int .u8 0,.int .u8 0,.int .u8 0,.int .u8 0,.int .u8 0,.int .u8 0,.int .u8 0,.int .u8 0,.int .u8 0,.int .u8 0,.int .u8 0,.int .u8 0,.int .u8 0,.int .u8 0,.int .u8 0,.int .u8 0]:List Value)=cel .u8 (List.replicate 27 0):=rfl
theorem cel_fill {k:IntKind} {q:List Int} {i n:Nat} (h:i+n≤q.length):splice (cel k (fillN q i)) i (cel k ((q.drop i).take n))=cel k (fillN q (i+n)):=by
 have hl:((q.drop i).take n).length=n:=by simp;omega
 have ht:(q.take i).length=i:=by simp;omega
 rw[cel_splice,hl]
 congr 1
 unfold fillN
 have e1:(q.take i++List.replicate (q.length-i) 0).take i=q.take i:=by
  rw[List.take_append_of_le_length (by omega),List.take_take,Nat.min_self]
 have e2:(q.take i++List.replicate (q.length-i) 0).drop (i+n)=List.replicate (q.length-(i+n)) 0:=by
  rw[List.drop_append,List.drop_of_length_le (by omega),ht,List.nil_append,List.drop_replicate]
  congr 1
  omega
 rw[e1,e2,List.take_add]
structure OnlyR (a b:Nat) (h h':AH):Prop where
 len:h'.length=h.length
 same:∀ n,¬ (a≤n∧n<b)→h'[n]?=h[n]?
theorem OnlyR.trans {a b:Nat} {h h' h'':AH} (w:OnlyR a b h h') (w':OnlyR a b h' h''):OnlyR a b h h'':=⟨w'.len.trans w.len,fun n hn=>(w'.same n hn).trans (w.same n hn)⟩
theorem OnlyR.pre {a b:Nat} {h0 h h':AH} (w:OnlyR a b h h') (p:h0<+:h) (hn:h0.length≤a):h0<+:h':=by
 rw[List.prefix_iff_getElem?] at p ⊢
 intro i hi
 rw[w.same i (by omega)]
 exact p i hi
def InS (a b:Nat) (h:AH) (v:Value) (ns:List Int):Prop:=
 (v=.slice none 0 0∧ns=[])∨∃ n e full,(a≤n∧n<b)∧v=.slice (some ⟨n,0,none⟩) ns.length 1∧h.get n=some ⟨ns.map (Value.int .i64),e,false,full⟩
section
variable {a b c d:Nat} {h h' h0:AH} {v:Value} {ns:List Int}
theorem InS.rd (o:InS a b h v ns):Ints h v ns:=by
 rcases o with⟨rfl,rfl⟩|⟨n,e,full,h1,rfl,h2⟩
 ·exact .inl ⟨rfl,0,by omega,rfl⟩
 ·exact Ints.own h2 rfl
theorem InS.pre (o:InS a b h v ns) (p:h<+:h'):InS a b h' v ns:=by
 rcases o with⟨rfl,rfl⟩|⟨n,e,full,h1,rfl,h2⟩
 ·exact .inl ⟨rfl,rfl⟩
 ·exact .inr ⟨n,e,full,h1,rfl,pre_get p h2⟩
end
def SmallS (ns:List Int):Prop:=(ns.length:Int)≤1048576
def InM (a b:Nat) (h:AH) (v:Value) (rows:List (List Int)):Prop:=
 (v=.slice none 0 0∧rows=[])∨∃ n e full cs,(a≤n∧n<b)∧v=.slice (some ⟨n,0,none⟩) cs.length 1∧h.get n=some ⟨cs,e,false,full⟩∧cs.length=rows.length ∧
  (∀ i,i<rows.length→InS a b h (cs.getD i undef) (rows.getD i [])∧blkOf (cs.getD i undef)≠some n) ∧
  ∀ i j,i<j→j<rows.length→∀ q,blkOf (cs.getD i undef)=some q→blkOf (cs.getD j undef)≠some q
section
variable {a b c d:Nat} {h h' h0:AH} {v:Value} {rows:List (List Int)}
theorem InM.rd (o:InM a b h v rows):Rows h v rows:=by
 rcases o with⟨rfl,rfl⟩|⟨n,e,full,cs,h1,rfl,h2,h3,h4,h5⟩
 ·exact⟨[],.inl ⟨rfl,0,by omega,rfl⟩,rfl,fun i hi=>by simp at hi⟩
 ·refine⟨cs,.inr ⟨n,0,_,rfl,h2,by simp,fun i hi=>?_⟩,h3,fun i hi=>(h4 i hi).1.rd⟩
  rw[Nat.zero_add,List.getD_eq_getElem?_getD,List.getElem?_eq_getElem hi]
  rfl
theorem InM.pre (o:InM a b h v rows) (p:h<+:h'):InM a b h' v rows:=by
 rcases o with⟨rfl,rfl⟩|⟨n,e,full,cs,h1,rfl,h2,h3,h4,h5⟩
 ·exact .inl ⟨rfl,rfl⟩
 ·exact .inr ⟨n,e,full,cs,h1,rfl,pre_get p h2,h3,fun i hi=>⟨(h4 i hi).1.pre p,(h4 i hi).2⟩,h5⟩
end
@[simp] theorem tot_zero {rows:List (List Int)}:tot rows 0=0:=by simp[tot]
def Wid (w:Nat) (L:List (List Int)):Prop:=∀ q,q∈L→q.length=w
theorem flat_len {w:Nat}:∀ {L:List (List Int)},Wid w L→L.flatten.length=L.length*w
 | [],_=>by simp
 | q::L,h=>by
  rw[List.flatten_cons,List.length_append,flat_len (fun r hr=>h r (List.mem_cons_of_mem _ hr)),h q List.mem_cons_self,List.length_cons,Nat.succ_mul]
  omega
theorem flat_get {w:Nat}:∀ {L:List (List Int)} {i:Nat},Wid w L→i<L.length→(L.flatten.drop (i*w)).take w=L.getD i []
 | [],i,_,hi=>by simp at hi
 | q::L,0,h,_=>by
  have hq:=h q List.mem_cons_self
  rw[Nat.zero_mul,List.drop_zero,List.flatten_cons,List.take_append_of_le_length (by omega),List.take_of_length_le (by omega)]
  rfl
 | q::L,i+1,h,hi=>by
  have hq:=h q List.mem_cons_self
  have e:(q++L.flatten).drop w=L.flatten:=by rw[←hq];exact List.drop_left
  rw[List.flatten_cons,Nat.succ_mul,Nat.add_comm,←List.drop_drop,e,flat_get (fun r hr=>h r (List.mem_cons_of_mem _ hr)) (by simpa using hi)]
  rfl
section
variable {z:List Int} {L:List (List Int)} {i w:Nat}
end
theorem wid_of {w:Nat} {L:List (List Int)} (h:∀ i,i<L.length→(L.getD i []).length=w):Wid w L:=by
 intro q hq
 obtain⟨i,hi,rfl⟩:=List.mem_iff_getElem.1 hq
 have:=h i hi
 rw[List.getD_eq_getElem?_getD,List.getElem?_eq_getElem hi] at this
 exact this
theorem Els.widL {k:IntKind} {w:Nat} {h:AH} {v:Value} {L:List (List Int)} (e:Els k w h v L):Wid w L:=wid_of fun _ hi=>e.wid hi
def InE (k:IntKind) (w a b:Nat) (h:AH) (v:Value) (L:List (List Int)):Prop:=
 (v=.slice none 0 0∧L=[])∨∃ n e full,(a≤n∧n<b)∧v=.slice (some ⟨n,0,none⟩) L.length w∧h.get n=some ⟨cel k L.flatten,e,false,full⟩∧Wid w L
section
variable {k:IntKind} {w a b c d:Nat} {h h':AH} {v:Value} {L:List (List Int)}
theorem InE.rd (o:InE k w a b h v L):Els k w h v L:=by
 rcases o with⟨rfl,rfl⟩|⟨n,e,full,h1,rfl,h2,h3⟩
 ·exact .inl ⟨rfl,0,by omega,rfl⟩
 ·refine .inr ⟨n,0,_,rfl,h2,fun i hi=>?_⟩
  have:=mul_row (w:=w) hi
  simp only[cel_len,flat_len h3,Nat.zero_add,cel_drop,cel_take,flat_get h3 hi]
  exact⟨by omega,trivial⟩
theorem InE.pre (o:InE k w a b h v L) (p:h<+:h'):InE k w a b h' v L:=by
 rcases o with⟨rfl,rfl⟩|⟨n,e,full,h1,rfl,h2,h3⟩
 ·exact .inl ⟨rfl,rfl⟩
 ·exact .inr ⟨n,e,full,h1,rfl,pre_get p h2,h3⟩
end
def Byt (w:Nat) (L:List (List Int)):Prop:=∀ i,i<L.length→∀ j,j<w→0≤(L.getD i []).getD j 0∧(L.getD i []).getD j 0≤255
structure Sch where
 p:Int
 n:Int
 m:Int
 k:Int
 ps:List (List Int)
def schV (x:Sch) (v:Value):Value:=.agg #[I64 x.p,I64 x.n,I64 x.m,I64 x.k,v]
def Prods (h:AH) (v:Value) (L:List (List Int)):Prop:=Els .u8 27 h v L∧Byt 27 L
def InX (a b:Nat) (h:AH) (v:Value) (L:List (List Int)):Prop:=InE .u8 27 a b h v L∧Byt 27 L
section
variable {a b c d:Nat} {h h':AH} {v:Value} {L:List (List Int)}
theorem Prods.pre (o:Prods h v L) (p:h<+:h'):Prods h' v L:=⟨o.1.pre p,o.2⟩
theorem Prods.one (o:Prods h v L):isOne v=true:=o.1.one
theorem InX.rd (o:InX a b h v L):Prods h v L:=⟨o.1.rd,o.2⟩
theorem InX.pre (o:InX a b h v L) (p:h<+:h'):InX a b h' v L:=⟨o.1.pre p,o.2⟩
end
def SmallX (L:List (List Int)):Prop:=(L.length:Int)≤1048576
theorem getD_app_l {α:Type} {l r:List α} {i:Nat} {d:α} (hi:i<l.length):(l++r).getD i d=l.getD i d:=by
 rw[List.getD_eq_getElem?_getD,List.getD_eq_getElem?_getD,List.getElem?_append_left hi]
theorem getD_app_r {α:Type} {l r:List α} {i:Nat} {d:α} (hi:l.length≤i):(l++r).getD i d=r.getD (i-l.length) d:=by
 rw[List.getD_eq_getElem?_getD,List.getD_eq_getElem?_getD,List.getElem?_append_right hi]
theorem app_ownW {e:TypeId} {w bytes:Nat} {h:AH} {k n n':Nat} {c vs:List Value} {full:Bool} (hk:h.get k=some ⟨c,e,false,full⟩) (hc:c.length=n*w) (hn:h.rdn n' 0 w=some vs)
  (hs:(n+1:Int)*bytes≤140737488355328∧(n+1:Int)≤9223372036854775807) :
  appV e w bytes (.slice (some ⟨k,0,none⟩) n w) (.slice (some ⟨n',0,none⟩) 1 w) h=some (.slice (some ⟨h.length,0,none⟩) (n+1) w,(h.kill k).new ⟨c++vs,e,false,false⟩):=by
 simp only[appV,xop,ev,if_true,Nat.one_mul,hn,hk]
 rw[if_pos (by simpa using hs)]
 simp[hc]
theorem app_nilW {e:TypeId} {w bytes:Nat} {h:AH} {n' t:Nat} {vs:List Value} (ht:t=0∨t=2) (hn:h.rdn n' 0 w=some vs) (hs:(1:Int)*bytes≤140737488355328) :
  appV e w bytes (.slice none 0 t) (.slice (some ⟨n',0,none⟩) 1 w) h=some (.slice (some ⟨h.length,0,none⟩) 1 w,h.new ⟨vs,e,false,false⟩):=by
 simp only[appV,xop,ev,if_true,Nat.one_mul,hn]
 rw[if_pos (by simpa using hs)]
 simp[ht]
def WayE (e:TypeId) (k:IntKind) (w:Nat) (h:AH) (lo bx:Nat) (sv:Value) (L:List (List Int)):Prop:=
 Wid w L∧((sv=.slice none 0 0∧L=[])∨∃ kb full,sv=.slice (some ⟨kb,0,none⟩) L.length w∧lo≤kb∧kb≠bx∧h.get kb=some ⟨cel k L.flatten,e,false,full⟩)
section
variable {e:TypeId} {k:IntKind} {w:Nat} {h h':AH} {lo bx:Nat} {sv:Value} {L:List (List Int)}
theorem WayE.pre (o:WayE e k w h lo bx sv L) (p:h<+:h'):WayE e k w h' lo bx sv L:=by
 obtain⟨hw,o|⟨kb,full,h1,h2,h3,h4⟩⟩:=o
 ·exact⟨hw,.inl o⟩
 ·exact⟨hw,.inr ⟨kb,full,h1,h2,h3,pre_get p h4⟩⟩
theorem WayE.one (o:WayE e k w h lo bx sv L):isOne sv=true:=by
 obtain⟨hw,⟨rfl,_⟩|⟨kb,full,rfl,h2,h3,h4⟩⟩:=o<;>rfl
theorem WayE.cells (o:WayE e k w h lo bx sv L):cellsL sv=[sv]:=by
 obtain⟨hw,⟨rfl,_⟩|⟨kb,full,rfl,h2,h3,h4⟩⟩:=o<;>rfl
theorem WayE.put {b:Blk} (o:WayE e k w h lo bx sv L):WayE e k w (h.put bx b) lo bx sv L:=by
 obtain⟨hw,o|⟨kb,full,h1,h2,h3,h4⟩⟩:=o
 ·exact⟨hw,.inl o⟩
 ·exact⟨hw,.inr ⟨kb,full,h1,h2,h3,by rw[get_put_ne (fun x=>h3 x.symm)];exact h4⟩⟩
theorem WayE.putb {b:Blk} {n:Nat} (o:WayE e k w h lo bx sv L) (hn:n<lo):WayE e k w (h.put n b) lo bx sv L:=by
 obtain⟨hw,o|⟨kb,full,h1,h2,h3,h4⟩⟩:=o
 ·exact⟨hw,.inl o⟩
 ·exact⟨hw,.inr ⟨kb,full,h1,h2,h3,by rw[get_put_ne (by omega)];exact h4⟩⟩
theorem WayE.inE (o:WayE e k w h lo bx sv L):InE k w lo h.length h sv L:=by
 obtain⟨hw,o|⟨kb,full,h1,h2,h3,h4⟩⟩:=o
 ·exact .inl o
 ·exact .inr ⟨kb,e,full,⟨h2,get_lt h4⟩,h1,h4,hw⟩
theorem WayE.app {H:AH} {q:List Int} {e':TypeId} {ro full:Bool} {bytes:Nat} (o:WayE e k w H lo bx sv L) (hq:q.length=w) (hl:((L.length:Int)+1)*bytes≤140737488355328) (hn:(L.length:Int)<1048576) (hlo:lo≤H.length) (hbx:bx<H.length)
  {Q:Value→AH→Prop} (hQ:∀ sv' H',H'.length=H.length+2→(∀ h0:AH,h0.length≤lo→h0<+:H→h0<+:H')→(∀ n c f,n<lo→OwnB H n c f→OwnB H' n c f)→(∀ c f,OwnB H bx c f→OwnB H' bx c f)→WayE e k w H' lo bx sv' (L++[q])→Q sv' H') :
  OQ (appV e w bytes sv (.slice (some ⟨H.length,0,none⟩) 1 w) (H.new ⟨cel k q,e',ro,full⟩)) Q:=by
 have hr:(H.new ⟨cel k q,e',ro,full⟩).rdn H.length 0 w=some (cel k q):=by
  rw[rdn_of get_new_same]
  simp only
  rw[if_pos (by rw[cel_len,hq];omega),List.drop_zero,List.take_of_length_le (by rw[cel_len,hq];omega)]
 obtain⟨hw,⟨rfl,rfl⟩|⟨kb,fu,rfl,h2,h3,h4⟩⟩:=o
 ·rw[app_nilW (.inl rfl) hr (by simp only[List.length_nil] at hl;omega),OQ_some]
  refine hQ _ _ (by rw[len_new,len_new]) (fun h0 _ p=>pre_new (pre_new p)) (fun n c f hn o=>(o.pre (pre_new (List.prefix_refl _))).pre (pre_new (List.prefix_refl _))) (fun c f o=>(o.pre (pre_new (List.prefix_refl _))).pre (pre_new (List.prefix_refl _))) ⟨?_,.inr ⟨_,false,rfl,by rw[len_new];omega,by rw[len_new];omega,?_⟩⟩
  ·intro r hr
   rw[List.nil_append,List.mem_singleton] at hr
   rw[hr,hq]
  ·rw[get_new_same]
   simp
 ·have hk:(H.new ⟨cel k q,e',ro,full⟩).get kb=some ⟨cel k L.flatten,e,false,fu⟩:=get_new_any h4
  have hkb:=get_lt h4
  rw[app_ownW hk (by rw[cel_len,flat_len hw]) hr ⟨hl,by omega⟩,OQ_some]
  refine hQ _ _ (by rw[len_new,len_kill,len_new]) (fun h0 q p=>pre_new (pre_kill (pre_new p) (by omega))) (fun n c f hn o=>?_) (fun c f o=>?_) ⟨?_,.inr ⟨(H.new ⟨cel k q,e',ro,full⟩).length,false,by simp,by rw[len_new];omega,by rw[len_new];omega,?_⟩⟩
  ·obtain⟨e',o⟩:=o
   exact⟨e',get_new_any (by rw[get_kill_ne (by omega)];exact get_new_any o)⟩
  ·obtain⟨e',o⟩:=o
   exact⟨e',get_new_any (by rw[get_kill_ne h3];exact get_new_any o)⟩
  ·intro r hr
   rcases List.mem_append.1 hr with hr|hr
   ·exact hw r hr
   ·rw[List.mem_singleton.1 hr,hq]
  ·rw[get_new_eq (by rw[len_kill])]
   simp[cel_app]
end
theorem InE.putb {k:IntKind} {w a b:Nat} {h:AH} {v:Value} {L:List (List Int)} {n:Nat} {bl:Blk} (o:InE k w a b h v L) (hn:n<a):InE k w a b (h.put n bl) v L:=by
 rcases o with o|⟨m,e,full,h1,rfl,h2,h3⟩
 ·exact .inl o
 ·exact .inr ⟨m,e,full,h1,rfl,by rw[get_put_ne (by omega)];exact h2,h3⟩
theorem InE.mono {k:IntKind} {w a b a' b':Nat} {h:AH} {v:Value} {L:List (List Int)} (o:InE k w a b h v L) (ha:a'≤a) (hb:b≤b'):InE k w a' b' h v L:=by
 rcases o with o|⟨m,e,full,h1,rfl,h2,h3⟩
 ·exact .inl o
 ·exact .inr ⟨m,e,full,⟨by omega,by omega⟩,rfl,h2,h3⟩
set_option linter.defProp false
inductive Dum {α:Type} (a:α):Type
 | mk
def yQV (v:Value) (Q:Value→Prop) (_:Dum Q):Prop:=QV v Q
@[congr] theorem yQV_congr {v:Value} {Q:Value→Prop} {w:Value} {d0:Dum Q} (e:v=w):yQV v Q d0=yQV w Q d0:=by rw[e]
theorem yQV_forth {v:Value} {Q:Value→Prop}:QV v Q=yQV v Q .mk:=rfl
theorem yQV_back {v:Value} {Q:Value→Prop} {d0:Dum Q}:yQV v Q d0=QV v Q:=rfl
def yWV (r:Option Value) (Q:Value→Prop) (_:Dum Q):Prop:=WV r Q
@[congr] theorem yWV_congr {r:Option Value} {Q:Value→Prop} {w:Option Value} {d0:Dum Q} (e:r=w):yWV r Q d0=yWV w Q d0:=by rw[e]
theorem yWV_forth {r:Option Value} {Q:Value→Prop}:WV r Q=yWV r Q .mk:=rfl
theorem yWV_back {r:Option Value} {Q:Value→Prop} {d0:Dum Q}:yWV r Q d0=WV r Q:=rfl
def yHQ (r:Option AH) (Q:AH→Prop) (_:Dum Q):Prop:=HQ r Q
@[congr] theorem yHQ_congr {r:Option AH} {Q:AH→Prop} {w:Option AH} {d0:Dum Q} (e:r=w):yHQ r Q d0=yHQ w Q d0:=by rw[e]
theorem yHQ_forth {r:Option AH} {Q:AH→Prop}:HQ r Q=yHQ r Q .mk:=rfl
theorem yHQ_back {r:Option AH} {Q:AH→Prop} {d0:Dum Q}:yHQ r Q d0=HQ r Q:=rfl
def yPQ (v:Value) (Q:Nat→Nat→Prop) (_:Dum Q):Prop:=PQ v Q
@[congr] theorem yPQ_congr {v:Value} {Q:Nat→Nat→Prop} {w:Value} {d0:Dum Q} (e:v=w):yPQ v Q d0=yPQ w Q d0:=by rw[e]
theorem yPQ_forth {v:Value} {Q:Nat→Nat→Prop}:PQ v Q=yPQ v Q .mk:=rfl
theorem yPQ_back {v:Value} {Q:Nat→Nat→Prop} {d0:Dum Q}:yPQ v Q d0=PQ v Q:=rfl
def yLQ (v:List Value) (Q:List Value→Prop) (_:Dum Q):Prop:=LQ v Q
@[congr] theorem yLQ_congr {v:List Value} {Q:List Value→Prop} {w:List Value} {d0:Dum Q} (e:v=w):yLQ v Q d0=yLQ w Q d0:=by rw[e]
theorem yLQ_forth {v:List Value} {Q:List Value→Prop}:LQ v Q=yLQ v Q .mk:=rfl
theorem yLQ_back {v:List Value} {Q:List Value→Prop} {d0:Dum Q}:yLQ v Q d0=LQ v Q:=rfl
def yVQ (r:Option (List Value)) (Q:List Value→Prop) (_:Dum Q):Prop:=VQ r Q
@[congr] theorem yVQ_congr {r:Option (List Value)} {Q:List Value→Prop} {w:Option (List Value)} {d0:Dum Q} (e:r=w):yVQ r Q d0=yVQ w Q d0:=by rw[e]
theorem yVQ_forth {r:Option (List Value)} {Q:List Value→Prop}:VQ r Q=yVQ r Q .mk:=rfl
theorem yVQ_back {r:Option (List Value)} {Q:List Value→Prop} {d0:Dum Q}:yVQ r Q d0=VQ r Q:=rfl
def yOQ (r:Option (Value×AH)) (Q:Value→AH→Prop) (_:Dum Q):Prop:=OQ r Q
@[congr] theorem yOQ_congr {r:Option (Value×AH)} {Q:Value→AH→Prop} {w:Option (Value×AH)} {d0:Dum Q} (e:r=w):yOQ r Q d0=yOQ w Q d0:=by rw[e]
theorem yOQ_forth {r:Option (Value×AH)} {Q:Value→AH→Prop}:OQ r Q=yOQ r Q .mk:=rfl
theorem yOQ_back {r:Option (Value×AH)} {Q:Value→AH→Prop} {d0:Dum Q}:yOQ r Q d0=OQ r Q:=rfl
def yIfW (v:Value) (A:Prop) (B:Prop) (_:Dum A) (_:Dum B):Prop:=IfW v A B
@[congr] theorem yIfW_congr {v:Value} {A:Prop} {B:Prop} {w:Value} {d0:Dum A} {d1:Dum B} (e:v=w):yIfW v A B d0 d1=yIfW w A B d0 d1:=by rw[e]
theorem yIfW_forth {v:Value} {A:Prop} {B:Prop}:IfW v A B=yIfW v A B .mk .mk:=rfl
theorem yIfW_back {v:Value} {A:Prop} {B:Prop} {d0:Dum A} {d1:Dum B}:yIfW v A B d0 d1=IfW v A B:=rfl
def yWF (S:XS) (g:FuncId) (args:List Value) (h:AH) (Q:Value→AH→Prop) (_:Dum h) (_:Dum Q):Prop:=WF S g args h Q
@[congr] theorem yWF_congr {S:XS} {g:FuncId} {args args1:List Value} {h:AH} {Q:Value→AH→Prop} {d0:Dum h} {d1:Dum Q} (e:args=args1):yWF S g args h Q d0 d1=yWF S g args1 h Q d0 d1:=by rw[e]
theorem yWF_back {S:XS} {g:FuncId} {args:List Value} {h:AH} {Q:Value→AH→Prop} {d0:Dum h} {d1:Dum Q}:yWF S g args h Q d0 d1=WF S g args h Q:=rfl
def yWK (S:XS) (v:Value) (args:List Value) (h:AH) (Q:Value→AH→Prop) (_:Dum h) (_:Dum Q):Prop:=WK S v args h Q
@[congr] theorem yWK_congr {S:XS} {v v1:Value} {args args1:List Value} {h:AH} {Q:Value→AH→Prop} {d0:Dum h} {d1:Dum Q} (e:v=v1) (e1:args=args1):yWK S v args h Q d0 d1=yWK S v1 args1 h Q d0 d1:=by rw[e,e1]
theorem yWK_back {S:XS} {v:Value} {args:List Value} {h:AH} {Q:Value→AH→Prop} {d0:Dum h} {d1:Dum Q}:yWK S v args h Q d0 d1=WK S v args h Q:=rfl
theorem yWK_func {S:XS} {g:FuncId} {cap:Array Value} {args:List Value} {h:AH} {Q:Value→AH→Prop} {d0:Dum h} {d1:Dum Q}:yWK S (.func (.func g) #[] cap) args h Q d0 d1=yWF S g (args++cap.toList) h Q .mk .mk:=rfl
def yWG (S:XS) (v:Value) (b:Bool) (i:XI) (rest:List XI) (f:Fr) (h:AH) (Q:Fr→AH→Prop) (_:Dum i) (_:Dum rest) (_:Dum f) (_:Dum h) (_:Dum Q):Prop:=WG S v b i rest f h Q
@[congr] theorem yWG_congr {v v1:Value} {b:Bool} {S:XS} {i:XI} {rest:List XI} {f:Fr} {h:AH} {Q:Fr→AH→Prop} {d0:Dum i} {d1:Dum rest} {d2:Dum f} {d3:Dum h} {d4:Dum Q} (e:v=v1):yWG S v b i rest f h Q d0 d1 d2 d3 d4=yWG S v1 b i rest f h Q d0 d1 d2 d3 d4:=by rw[e]
theorem yWG_back {v:Value} {b:Bool} {S:XS} {i:XI} {rest:List XI} {f:Fr} {h:AH} {Q:Fr→AH→Prop} {d0:Dum i} {d1:Dum rest} {d2:Dum f} {d3:Dum h} {d4:Dum Q}:yWG S v b i rest f h Q d0 d1 d2 d3 d4=WG S v b i rest f h Q:=rfl
theorem yWG_tt {S:XS} {i:XI} {rest:List XI} {f:Fr} {h:AH} {Q:Fr→AH→Prop} {d0:Dum i} {d1:Dum rest} {d2:Dum f} {d3:Dum h} {d4:Dum Q}:yWG S (.bool true) true i rest f h Q d0 d1 d2 d3 d4=WO S (⟨i.d,i.o,none,i.q⟩::rest) f h Q:=rfl
theorem yWG_ff {S:XS} {i:XI} {rest:List XI} {f:Fr} {h:AH} {Q:Fr→AH→Prop} {d0:Dum i} {d1:Dum rest} {d2:Dum f} {d3:Dum h} {d4:Dum Q}:yWG S (.bool false) false i rest f h Q d0 d1 d2 d3 d4=WO S (⟨i.d,i.o,none,i.q⟩::rest) f h Q:=rfl
theorem yWG_tf {S:XS} {i:XI} {rest:List XI} {f:Fr} {h:AH} {Q:Fr→AH→Prop} {d0:Dum i} {d1:Dum rest} {d2:Dum f} {d3:Dum h} {d4:Dum Q}:yWG S (.bool true) false i rest f h Q d0 d1 d2 d3 d4=WO S rest (updo f i.d undef) h Q:=rfl
theorem yWG_ft {S:XS} {i:XI} {rest:List XI} {f:Fr} {h:AH} {Q:Fr→AH→Prop} {d0:Dum i} {d1:Dum rest} {d2:Dum f} {d3:Dum h} {d4:Dum Q}:yWG S (.bool false) true i rest f h Q d0 d1 d2 d3 d4=WO S rest (updo f i.d undef) h Q:=rfl
theorem yWG_un {b:Bool} {S:XS} {i:XI} {rest:List XI} {f:Fr} {h:AH} {Q:Fr→AH→Prop} {d0:Dum i} {d1:Dum rest} {d2:Dum f} {d3:Dum h} {d4:Dum Q}:yWG S undef b i rest f h Q d0 d1 d2 d3 d4=WO S rest (updo f i.d undef) h Q:=rfl
theorem yQV_eq {v:Value} {Q:Value→Prop} {d:Dum Q}:yQV v Q d=Q v:=rfl
theorem yWV_some {v:Value} {Q:Value→Prop} {d:Dum Q}:yWV (some v) Q d=Q v:=WV_some
theorem yWV_ite {c:Prop} [Decidable c] {v:Value} {Q:Value→Prop} {d:Dum Q}:yWV (if c then some v else none) Q d=(c∧Q v):=WV_ite
theorem yHQ_some {v:AH} {Q:AH→Prop} {d:Dum Q}:yHQ (some v) Q d=Q v:=HQ_some
theorem yHQ_ite {c:Prop} [Decidable c] {v:AH} {Q:AH→Prop} {d:Dum Q}:yHQ (if c then some v else none) Q d=(c∧Q v):=HQ_ite
theorem yPQ_ptr {p:Addr} {Q:Nat→Nat→Prop} {d:Dum Q}:yPQ (.pointer (some p)) Q d=Q p.block p.off:=rfl
theorem yLQ_eq {v:List Value} {Q:List Value→Prop} {d:Dum Q}:yLQ v Q d=Q v:=rfl
theorem yVQ_some {v:List Value} {Q:List Value→Prop} {d:Dum Q}:yVQ (some v) Q d=Q v:=VQ_some
theorem yOQ_some {v:Value} {h:AH} {Q:Value→AH→Prop} {d:Dum Q}:yOQ (some (v,h)) Q d=Q v h:=OQ_some
theorem yOQ_ite {c:Prop} [Decidable c] {v:Value} {h:AH} {Q:Value→AH→Prop} {d:Dum Q}:yOQ (if c then some (v,h) else none) Q d=(c∧Q v h):=OQ_ite
theorem yIfW_t {A B:Prop} {d:Dum A} {e:Dum B}:yIfW (.bool true) A B d e=A:=rfl
theorem yIfW_f {A B:Prop} {d:Dum A} {e:Dum B}:yIfW (.bool false) A B d e=B:=rfl
theorem yWX_clr {S:XS} {f:Fr} {h:AH} {Q:Value→AH→Prop} {sz:Nat} {z:List Value} {x:Operand}:WX S (.clr sz z x) f h Q=yOQ (clrV sz z (ev f x) h) Q .mk:=WX_clr
theorem yWX_idxt {S:XS} {f:Fr} {h:AH} {Q:Value→AH→Prop} {x i:Operand}:WX S (.idxt x i) f h Q=yOQ (idxtV (ev f x) (ev f i) h) Q .mk:=WX_idxt
theorem yWX_nchk {S:XS} {f:Fr} {h:AH} {Q:Value→AH→Prop} {x:Operand}:WX S (.nchk x) f h Q=yWV (nchkV (ev f x)) (fun v=>Q v h) .mk:=WX_nchk
theorem yWX_mkz {S:XS} {f:Fr} {h:AH} {Q:Value→AH→Prop}  : WX S .mkz f h Q=yQV (.slice none 0 2) (fun v=>Q v h) .mk:=WX_mkz
theorem yWX_mv {S:XS} {f:Fr} {h:AH} {Q:Value→AH→Prop} {x:Operand}:WX S (.mv x) f h Q=yQV (ev f x) (fun v=>Q v h) .mk:=WX_mv
theorem yWX_pick {S:XS} {f:Fr} {h:AH} {Q:Value→AH→Prop} {a b c:Operand}:WX S (.pick c a b) f h Q=yWV (pickV (ev f c) (ev f a) (ev f b)) (fun v=>Q v h) .mk:=WX_pick
theorem yWX_box {S:XS} {f:Fr} {h:AH} {Q:Value→AH→Prop} {x:Operand} {e:TypeId}:WX S (.box e x) f h Q=yLQ (cellsL (ev f x)) (fun c=>c.all isOne=true∧Q (.pointer (some ⟨h.length,0,none⟩)) (h.new ⟨c,e,false,true⟩)) .mk:=WX_box
theorem yWX_boxn {S:XS} {f:Fr} {h:AH} {Q:Value→AH→Prop} {x:Operand} {e:TypeId} {n:Nat}:WX S (.boxn e n x) f h Q=yLQ (cellsL (ev f x)) (fun c=>(c.length=n∧c.all isOne=true)∧Q (.pointer (some ⟨h.length,0,none⟩)) (h.new ⟨c,e,false,true⟩)) .mk:=WX_boxn
theorem yWX_load1 {S:XS} {f:Fr} {h:AH} {Q:Value→AH→Prop} {a:Operand}:WX S (.load1 a) f h Q=yPQ (ev f a) (fun n off=>yWV (h.rd1 n off) (fun v=>Q v h) .mk) .mk:=WX_load1
theorem yWX_loadn {S:XS} {f:Fr} {h:AH} {Q:Value→AH→Prop} {a:Operand} {n:Nat}:WX S (.loadn n a) f h Q=yPQ (ev f a) (fun m off=>yWV ((h.rdn m off n).map fun c=>.agg c.toArray) (fun v=>Q v h) .mk) .mk:=WX_loadn
theorem yWX_store {S:XS} {f:Fr} {h:AH} {Q:Value→AH→Prop} {a x:Operand} {n:Nat}:WX S (.store n a x) f h Q=yPQ (ev f a) (fun m off=>yLQ (cellsL (ev f x)) (fun c=>(c.length=n∧c.all isOne=true)∧yHQ (h.wr m off c) (fun h1=>Q undef h1) .mk) .mk) .mk:=WX_store
theorem yWX_bin {S:XS} {f:Fr} {h:AH} {Q:Value→AH→Prop} {x y:Operand} {op:BinOp}:WX S (.bin op x y) f h Q=yWV (xbin op (ev f x) (ev f y)) (fun v=>Q v h) .mk:=WX_bin
theorem yWX_un {S:XS} {f:Fr} {h:AH} {Q:Value→AH→Prop} {x:Operand} {op:UnOp}:WX S (.un op x) f h Q=yWV (xun op (ev f x)) (fun v=>Q v h) .mk:=WX_un
theorem yWX_conv {S:XS} {f:Fr} {h:AH} {Q:Value→AH→Prop} {x:Operand} {k:IntKind}:WX S (.conv k x) f h Q=yWV (convV k (ev f x)) (fun v=>Q v h) .mk:=WX_conv
theorem yWX_fadr {S:XS} {f:Fr} {h:AH} {Q:Value→AH→Prop} {x:Operand} {off:Nat}:WX S (.fadr off x) f h Q=yPQ (ev f x) (fun n o=>Q (.pointer (some ⟨n,o+off,none⟩)) h) .mk:=WX_fadr
theorem yWX_fld1 {S:XS} {f:Fr} {h:AH} {Q:Value→AH→Prop} {x:Operand} {off:Nat}:WX S (.fld1 off x) f h Q=yWV (fstV (ev f x) off) (fun v=>Q v h) .mk:=WX_fld1
theorem yWX_ext {S:XS} {f:Fr} {h:AH} {Q:Value→AH→Prop} {x:Operand} {i:Nat}:WX S (.ext x i) f h Q=yWV (extV (ev f x) i) (fun v=>Q v h) .mk:=WX_ext
theorem yWX_len {S:XS} {f:Fr} {h:AH} {Q:Value→AH→Prop} {x:Operand}:WX S (.len x) f h Q=yWV (lenV (ev f x)) (fun v=>Q v h) .mk:=WX_len
theorem yWX_ixs {S:XS} {f:Fr} {h:AH} {Q:Value→AH→Prop} {x y:Operand} {sz:Nat}:WX S (.ixs sz x y) f h Q=yWV (ixsV sz (ev f x) (ev f y)) (fun v=>Q v h) .mk:=WX_ixs
theorem yWX_ixa {S:XS} {f:Fr} {h:AH} {Q:Value→AH→Prop} {x y:Operand} {n sz:Nat}:WX S (.ixa n sz x y) f h Q=yWV (ixaV n sz (ev f x) (ev f y)) (fun v=>Q v h) .mk:=WX_ixa
theorem yWX_idx1 {S:XS} {f:Fr} {h:AH} {Q:Value→AH→Prop} {x y:Operand} {n:Nat}:WX S (.idx1 n x y) f h Q=yWV (idx1V n (ev f x) (ev f y)) (fun v=>Q v h) .mk:=WX_idx1
theorem yWX_idxn {S:XS} {f:Fr} {h:AH} {Q:Value→AH→Prop} {x y:Operand} {n sz:Nat}:WX S (.idxn n sz x y) f h Q=yWV (idxnV n sz (ev f x) (ev f y)) (fun v=>Q v h) .mk:=WX_idxn
theorem yWX_slc {S:XS} {f:Fr} {h:AH} {Q:Value→AH→Prop} {x:Operand} {sz:Nat} {lo hi:Option Operand}:WX S (.slc sz x lo hi) f h Q=yWV (slcV sz (ev f x) (omapF f lo) (omapF f hi)) (fun v=>Q v h) .mk:=WX_slc
theorem yWX_cap {S:XS} {f:Fr} {h:AH} {Q:Value→AH→Prop} {x:Operand}:WX S (.cap x) f h Q=yWV (capV (ev f x)) (fun v=>Q v h) .mk:=WX_cap
theorem yWX_isnil {S:XS} {f:Fr} {h:AH} {Q:Value→AH→Prop} {x:Operand} {neg:Bool}:WX S (.isnil neg x) f h Q=yWV (isnilV neg (ev f x)) (fun v=>Q v h) .mk:=WX_isnil
theorem yWX_eqb {S:XS} {f:Fr} {h:AH} {Q:Value→AH→Prop} {x y:Operand} {neg:Bool}:WX S (.eqb neg x y) f h Q=yWV (eqbV neg (ev f x) (ev f y)) (fun v=>Q v h) .mk:=WX_eqb
theorem yWX_eqa {S:XS} {f:Fr} {h:AH} {Q:Value→AH→Prop} {x y:Operand} {neg:Bool} {n:Nat}:WX S (.eqa neg n x y) f h Q=yWV (eqaV neg n (ev f x) (ev f y)) (fun v=>Q v h) .mk:=WX_eqa
theorem yWX_mks {S:XS} {f:Fr} {h:AH} {Q:Value→AH→Prop} {x:Operand} {e:TypeId} {sz bytes:Nat} {z:List Value}:WX S (.mks e sz bytes z x) f h Q=yOQ (mksV e sz bytes z (ev f x) h) Q .mk:=WX_mks
theorem yWX_app {S:XS} {f:Fr} {h:AH} {Q:Value→AH→Prop} {x y:Operand} {e:TypeId} {sz bytes:Nat}:WX S (.app e sz bytes x y) f h Q=yOQ (appV e sz bytes (ev f x) (ev f y) h) Q .mk:=WX_app
theorem yWX_appz {S:XS} {f:Fr} {h:AH} {Q:Value→AH→Prop} {x y:Operand} {e:TypeId} {sz bytes:Nat}:WX S (.appz e sz bytes x y) f h Q=yOQ (appzV e sz bytes (ev f x) (ev f y) h) Q .mk:=WX_appz
theorem yWX_mkf {S:XS} {f:Fr} {h:AH} {Q:Value→AH→Prop} {g:FuncId} {l:List Operand}:WX S (.mkf g l) f h Q=yLQ (l.map (ev f)) (fun c=>Q (.func (.func g) #[] c.toArray) h) .mk:=WX_mkf
theorem yWX_build {S:XS} {f:Fr} {h:AH} {Q:Value→AH→Prop} {z:List Value} {l:List (Nat×Nat×Operand)}:WX S (.build z l) f h Q=yVQ (fillL z (l.map fun p=>(p.1,p.2.1,ev f p.2.2))) (fun c=>c.all isOne=true∧Q (.agg c.toArray) h) .mk:=WX_build
theorem yWX_bslice {S:XS} {f:Fr} {h:AH} {Q:Value→AH→Prop} {e:TypeId} {sz n:Nat} {z:List Value} {l:List (Nat×Nat×Operand)}:WX S (.bslice e sz n z l) f h Q=yVQ (fillL (zrep n z) (l.map fun p=>(p.1,p.2.1,ev f p.2.2))) (fun c=>c.all isOne=true∧Q (.slice (some ⟨h.length,0,none⟩) n sz) (h.new ⟨c,e,false,true⟩)) .mk:=WX_bslice
theorem yWX_callf {S:XS} {f:Fr} {h:AH} {Q:Value→AH→Prop} {g:FuncId} {args:List Operand}:WX S (.call (.func g) args) f h Q=yWF S g (args.map (ev f)) h Q .mk .mk:=WX_callf
theorem yWX_calls {S:XS} {f:Fr} {h:AH} {Q:Value→AH→Prop} {fo:Operand} {args:List Operand}:WX S (.call fo args) f h Q=yWK S (ev f fo) (args.map (ev f)) h Q .mk .mk:=WX_calls
theorem yWO_guard {S:XS} {d:Option Nat} {o:XOp} {s:Nat} {b:Bool} {q:XQ} {rest:List XI} {f:Fr} {h:AH} {Q:Fr→AH→Prop}:WO S (⟨d,o,some (s,b),q⟩::rest) f h Q=yWG S (f s) b ⟨d,o,none,q⟩ rest f h Q .mk .mk .mk .mk .mk:=WO_guard
theorem yWC_cond {S:XS} {c:Operand} {a b:IR} {f:Fr} {h:AH} {Q:XE→Fr→AH→Prop}:WC S (.cond c a b) f h Q=yIfW (ev f c) (WC S a f h Q) (WC S b f h Q) .mk .mk:=WC_cond
theorem yRetQ_n {rs:List XRes} {f:Fr} {h:AH} {R:Value→AH→Prop}:RetQ rs R .normal f h=yOQ ((xres f h rs).map (·,h)) R .mk:=rfl
theorem yRetQ_r {rs:List XRes} {f:Fr} {h:AH} {R:Value→AH→Prop}:RetQ rs R .ret f h=yOQ ((xres f h rs).map (·,h)) R .mk:=rfl
theorem yfill_nil {z:List Value}:fillL z []=some z:=rfl
theorem yfill_cons {z:List Value} {off n:Nat} {x:Value} {rest:List (Nat×Nat×Value)}:fillL z ((off,n,x)::rest)=if (cellsL x).length=n∧off+n≤z.length then fillL (splice z off (cellsL x)) rest else none:=rfl
theorem yzrep_0 {z:List Value}:zrep 0 z=[]:=by simp[zrep]
theorem yzrep_1 {z:List Value}:zrep 1 z=z:=by simp[zrep]
theorem yzrep_2 {z:List Value}:zrep 2 z=z++z:=by simp[zrep]
theorem yzrep_3 {z:List Value}:zrep 3 z=z++z++z:=by simp[zrep]
theorem yzrep_4 {z:List Value}:zrep 4 z=z++z++z++z:=by simp[zrep]
theorem yzrep_5 {z:List Value}:zrep 5 z=z++z++z++z++z:=by simp[zrep]
theorem yzrep_6 {z:List Value}:zrep 6 z=z++z++z++z++z++z:=by simp[zrep]
theorem yzrep_7 {z:List Value}:zrep 7 z=z++z++z++z++z++z++z:=by simp[zrep]
theorem yzrep_8 {z:List Value}:zrep 8 z=z++z++z++z++z++z++z++z:=by simp[zrep]
theorem yzrep_9 {z:List Value}:zrep 9 z=z++z++z++z++z++z++z++z++z:=by simp[zrep]
theorem yWF_forth {S:XS} {g:FuncId} {args:List Value} {h:AH} {Q:Value→AH→Prop}:WF S g args h Q=yWF S g args h Q .mk .mk:=rfl
theorem yWK_forth {S:XS} {v:Value} {args:List Value} {h:AH} {Q:Value→AH→Prop}:WK S v args h Q=yWK S v args h Q .mk .mk:=rfl
theorem yWG_forth {S:XS} {v:Value} {b:Bool} {i:XI} {rest:List XI} {f:Fr} {h:AH} {Q:Fr→AH→Prop}:WG S v b i rest f h Q=yWG S v b i rest f h Q .mk .mk .mk .mk .mk:=rfl
def ypre:=And.intro @WC_skip (And.intro @WC_exit (And.intro @WC_ret (And.intro @WC_reg (And.intro @WC_seq (And.intro @yWC_cond (And.intro @WC_blk (And.intro @WO_free (And.intro @WO_calm (And.intro @WO_wild (And.intro @WO_sload1 (And.intro @WO_sloadn (And.intro @WO_sstore (And.intro @WO_scall (And.intro @yWO_guard (And.intro @yWX_mv (And.intro @yWX_pick (And.intro @WX_alloc (And.intro @yWX_box (And.intro @yWX_boxn (And.intro @yWX_load1 (And.intro @yWX_loadn (And.intro @yWX_store (And.intro @yWX_bin (And.intro @yWX_un (And.intro @yWX_conv (And.intro @yWX_fadr (And.intro @yWX_fld1 (And.intro @yWX_ext (And.intro @yWX_len (And.intro @yWX_cap (And.intro @yWX_ixa (And.intro @yWX_idx1 (And.intro @yWX_idxn (And.intro @yWX_slc (And.intro @yWX_cap (And.intro @yWX_isnil (And.intro @yWX_ixs (And.intro @yWX_eqb (And.intro @yWX_eqa (And.intro @yWX_mks (And.intro @yWX_app (And.intro @yWX_appz (And.intro @yWX_mkz (And.intro @yWX_nchk (And.intro @yWX_clr (And.intro @yWX_idxt (And.intro @yWX_mkf (And.intro @yWX_build (And.intro @yWX_bslice (And.intro @yWX_callf (And.intro @yWX_calls (And.intro @ev_tmp (And.intro @ev_const (And.intro @ev_func (And.intro @updo_some (And.intro @updo_none (And.intro @upd_apply (And.intro @SeqQ_n (And.intro @SeqQ_e (And.intro @SeqQ_r (And.intro @BlkQ_n (And.intro @BlkQ_e (And.intro @BlkQ_r (And.intro @RegQ_eq (And.intro @yRetQ_n (And.intro @yRetQ_r (And.intro @InvQ_e (And.intro @InvQ_r (And.intro @LoopQ_e (And.intro @LoopQ_r (And.intro @yQV_forth (And.intro @yWV_forth (And.intro @yHQ_forth (And.intro @yPQ_forth (And.intro @yLQ_forth (And.intro @yVQ_forth (And.intro @yOQ_forth (And.intro @yIfW_forth (And.intro @yWF_forth (And.intro @yWK_forth (@yWG_forth)))))))))))))))))))))))))))))))))))))))))))))))))))))))))))))))))))))))))))))))))
def ypost:=And.intro @AP_nil (And.intro @AP_cons (And.intro @KpV_ptr (And.intro @nchkV_p (And.intro @capV_nil (And.intro @WO_nil (And.intro @yWG_tt (And.intro @yWG_ff (And.intro @yWG_tf (And.intro @yWG_un (And.intro @yWG_ft (And.intro @yQV_eq (And.intro @yWV_some (And.intro @yOQ_some (And.intro @yWK_func (And.intro @yHQ_some (And.intro @yPQ_ptr (And.intro @yLQ_eq (And.intro @yVQ_some (And.intro @yIfW_t (And.intro @yIfW_f (And.intro @pickV_t (And.intro @pickV_f (And.intro @bin_add (And.intro @bin_sub (And.intro @bin_mul (And.intro @bin_eql (And.intro @bin_neq (And.intro @bin_lss (And.intro @bin_leq (And.intro @bin_gtr (And.intro @bin_geq (And.intro @un_not (And.intro @un_minus (And.intro @lenV_slice (And.intro @convV_int (And.intro @fstV_agg (And.intro @extV_tuple (And.intro @eqa3 (And.intro @eqbV_b (And.intro @cellsL_agg (And.intro @cellsL_int (And.intro @cellsL_bool (And.intro @cellsL_slice (And.intro @cellsL_ptr (And.intro @cellsL_func (And.intro @mksV_int (And.intro @yOQ_ite (And.intro @yWV_ite (And.intro @rd1_new_same (And.intro @rd1_new_lt (And.intro @rdn_new_lt (And.intro @get_new_lt (And.intro @wr_new_lt (And.intro @yHQ_ite (And.intro @map_ite_v (And.intro @rd1_put_same (And.intro @rdn_put_same (And.intro @rd1_put_ne (And.intro @rdn_put_ne (And.intro @wr_put_same (And.intro @wr_put_ne (And.intro @xres_tmp (And.intro @xres_tmp2 (And.intro @xres_cell (And.intro @xres_cells (And.intro @xres_2 (And.intro @tup2_some (And.intro @rd1V_ptr (And.intro @rdnV_ptr (And.intro @xres1_tmp (And.intro @xres1_cell (And.intro @xres1_cells (And.intro @args_nil (And.intro @args_cons (And.intro @map_some_v (And.intro @bind_some_v (And.intro @map_cons_v (And.intro @map_nil_v (And.intro @lit_nil (And.intro @lit_cons (And.intro @toL (And.intro @all_cons_v (And.intro @all_nil_v (And.intro @one_int (And.intro @one_bool (And.intro @one_slice (And.intro @one_func (And.intro @one_ptr (And.intro @len_cons_v (And.intro @len_nil_v (And.intro @drop_zero_v (And.intro @drop_cons_v (And.intro @take_zero_v (And.intro @take_nil_v (And.intro @take_cons_v (And.intro @app_nil_v (And.intro @app_cons_v (And.intro @get_new_same (And.intro @Bool.and_true (And.intro @Bool.true_and (And.intro @Bool.not_true (And.intro @Bool.not_false (And.intro @true_and (And.intro @and_true (And.intro @and_self (And.intro @decide_true (And.intro @decide_false (And.intro @yfill_nil (And.intro @yfill_cons (And.intro @yzrep_0 (And.intro @yzrep_1 (And.intro @yzrep_2 (And.intro @yzrep_3 (And.intro @yzrep_4 (And.intro @yzrep_5 (And.intro @yzrep_6 (And.intro @yzrep_7 (And.intro @yzrep_8 (@yzrep_9)))))))))))))))))))))))))))))))))))))))))))))))))))))))))))))))))))))))))))))))))))))))))))))))))))))))))))))))))))))))
def yback:=And.intro @yQV_back (And.intro @yWV_back (And.intro @yHQ_back (And.intro @yPQ_back (And.intro @yLQ_back (And.intro @yVQ_back (And.intro @yOQ_back (And.intro @yIfW_back (And.intro @yWF_back (And.intro @yWK_back (@yWG_back))))))))))
def ynew:=And.intro @wr_new_same (And.intro @rdn_new_same (@splice_cons))
theorem Els.rdw {k:IntKind} {w:Nat} {h:AH} {v:Value} {L:List (List Int)} (e:Els k w h v L) {i:Nat} (hi:i<L.length) :
  ∃ n off,(∀ kk:IntKind,ixsV w v (.int kk i)=some (.pointer (some ⟨n,off,none⟩)))∧h.rdn n off w=some (cel k (L.getD i [])):=by
 obtain⟨n,off,hix,hrn,hr1⟩:=e.at hi
 have r:=hrn 0 w (by omega)
 rw[List.drop_zero,List.take_of_length_le (by rw[e.wid hi];exact Nat.le_refl _),Nat.add_zero] at r
 exact⟨n,off,hix,r⟩
structure Prg where
 p:Int
 n:Int
 st:List (List Int)
 out:List (List Int)
def PrgR (h:AH) (v w:Value) (x:Prg):Prop:=Els .i64 3 h v x.st∧Els .i64 2 h w x.out
def InP (a b:Nat) (h:AH) (v w:Value) (x:Prg):Prop:=∃ c,a≤c∧c≤b∧InE .i64 3 a c h v x.st∧InE .i64 2 c b h w x.out
section
variable {a b c d:Nat} {h h':AH} {v w:Value} {x:Prg}
theorem PrgR.pre (o:PrgR h v w x) (p:h<+:h'):PrgR h' v w x:=⟨o.1.pre p,o.2.pre p⟩
theorem InP.rd (o:InP a b h v w x):PrgR h v w x:=by
 obtain⟨c,h1,h2,h3,h4⟩:=o
 exact⟨h3.rd,h4.rd⟩
theorem InP.pre (o:InP a b h v w x) (p:h<+:h'):InP a b h' v w x:=by
 obtain⟨c,h1,h2,h3,h4⟩:=o
 exact⟨c,h1,h2,h3.pre p,h4.pre p⟩
end
theorem Keeps.trans {lo:Nat} {h h' h'':AH} (k:Keeps lo h h') (k':Keeps lo h' h''):Keeps lo h h'':=⟨Nat.le_trans k.1 k'.1,fun n b hn hb=>k'.2 n b hn (k.2 n b hn hb)⟩
theorem WayF.pre {h h':AH} {lo:Nat} {sv:Value} {l:List Int} (w:WayF h lo sv l) (p:h<+:h'):WayF h' lo sv l:=by
 obtain⟨kb,full,e,h1,h2⟩:=w
 exact⟨kb,full,e,h1,pre_get p h2⟩
theorem map_get {l:List Int} {j:Nat} (hj:j<l.length):(l.map (Value.int .i64))[j]?=some (I64 (l.getD j 0)):=by
 simp[List.getD_eq_getElem?_getD,hj]
theorem map_set {l:List Int} {j:Nat} {x:Int} (hj:j<l.length):splice (l.map (Value.int .i64)) j [I64 x]=(l.set j x).map (Value.int .i64):=by
 rw[splice_set (by simpa using hj)]
 simp[List.map_set]
def Lst (h:AH) (n:Nat) (l:List Int) (full:Bool):Prop:=h.get n=some ⟨l.map (Value.int .i64),2,false,full⟩
def sl (n len:Nat):Value:=.slice (some ⟨n,0,none⟩) len 1
section
variable {h h':AH} {n:Nat} {l:List Int} {full:Bool}
theorem Lst.pre (o:Lst h n l full) (p:h<+:h'):Lst h' n l full:=pre_get p o
theorem Lst.own (o:Lst h n l full):OwnB h n (l.map (Value.int .i64)) full:=⟨_,o⟩
theorem Lst.ix {j:Int} {len:Nat} (h0:0≤j∧j<len):ixsV 1 (sl n len) (I64 j)=some (.pointer (some ⟨n,j.toNat,none⟩)):=by
 unfold sl
 rw[ixsV_some,if_pos ⟨h0.1,h0.2,rfl⟩]
 simp
theorem Lst.rd {j:Nat} (o:Lst h n l full) (hj:j<l.length):h.rd1 n j=some (I64 (l.getD j 0)):=by
 rw[rd1_of o]
 exact map_get hj
theorem Lst.ints (o:Lst h n l full):Ints h (sl n l.length) l:=Ints.own o rfl
end
def nq (q:List Int) (i:Nat):Nat:=(q.getD i 0).toNat
theorem cut_get {α:Type} {d:α} {l:List α} {a n k:Nat} (h:k<n):((l.drop a).take n).getD k d=l.getD (a+k) d:=by
 simp[List.getD_eq_getElem?_getD,List.getElem?_take,List.getElem?_drop,h]
def sideN (t:Ten) (s:Nat):Int:=if s=0 then t.i else if s=1 then t.j else t.k
def slOK (t:Ten) (s a:Int):Prop:=(0≤s∧s≤2)∧0≤a∧a<sideN t s.toNat
instance {t:Ten} {s a:Int}:Decidable (slOK t s a):=by unfold slOK;infer_instance
end Go.Proofs.YtigpfopobpoamaaGreat.X

set_option linter.unusedVariables false
set_option linter.unusedSimpArgs false
set_option maxRecDepth 20000
set_option maxHeartbeats 4000000
namespace Go.Proofs.YtigpfopobpoamaaGreat.X
open Go Go.RowKit
open Nat (reduceEqDiff reduceAdd reduceSub reduceLeDiff)
theorem WG_un {S:XS} {b:Bool} {i:XI} {rest:List XI} {f:Fr} {h:AH} {Q:Fr→AH→Prop}:WG S undef b i rest f h Q=WO S rest (updo f i.d undef) h Q:=rfl
theorem step_all {P:Nat→Prop} {i:Nat} (h:∀ j,j<i→P j) (hi:P i):∀ j,j<i+1→P j:=fun j hj=>by
 rcases Nat.lt_succ_iff_lt_or_eq.1 hj with hj|rfl
 ·exact h j hj
 ·exact hi
def By (w:Nat) (q:List Int):Prop:=q.length=w∧∀ j,j<w→0≤q.getD j 0∧q.getD j 0≤255
def okAt (p n:Int) (q:List Int) (j:Nat):Bool:=decide (q.getD j 0<p∧(n≤(j:Int)→q.getD j 0=0))
def okForm (p n:Int) (q:List Int):Bool:=(List.range 9).all (okAt p n q)
theorem okForm_t {p n:Int} {q:List Int} (h:∀ j,j<9→okAt p n q j=true):okForm p n q=true:=by
 unfold okForm
 rw[List.all_eq_true]
 exact fun j hj=>h j (List.mem_range.1 hj)
theorem okForm_f {p n:Int} {q:List Int} {j:Nat} (hj:j<9) (h:okAt p n q j=false):okForm p n q=false:=by
 cases e:okForm p n q with
 | false=>rfl
 | true=>
  unfold okForm at e
  rw[List.all_eq_true] at e
  rw[e j (List.mem_range.2 hj)] at h
  cases h
theorem s_l01Form {p n:Int} {q:List Int} {h:AH} {Q:Value→AH→Prop} (hq:By 9 q) (hQ:∀ h',h<+:h'→Q (.bool (okForm p n q)) h'):WF S 48 [I64 p,aggV .u8 q,I64 n] h Q:=by
 refine WF_fn (fn:=c48) rfl rfl ?_
 dsimp only[c48,oO,oM,oS,oG,oK,oE,oL,oF,oX,oN]
 try simp (maxSteps:=3000000) (disch:=first|omega|simp only[lnx];omega) only[↓xpre,xpost,↓reduceIte,reduceEqDiff,reduceAdd,reduceSub,reduceLeDiff,zz0,aggV,cel_all]
 generalize hH1:AH.new h _=H1
 obtain⟨hb1,p1,n1⟩:=new_facts hH1
 refine WC_loop_inv (fun m f K1=>∃ (i:Nat),m=9-i∧i≤9∧f 0=I64 p∧f 2=I64 n∧f 4=.pointer (some ⟨h.length,0,none⟩)∧f 7=I64 i∧(K1=H1)∧(∀ j,j<i→okAt p n q j=true)) ?_ (9-0) _ _ ⟨0,rfl,by omega,(by first|rfl|simp[upd_apply]),(by first|rfl|simp[upd_apply]),(by first|rfl|simp[upd_apply]),(by first|rfl|simp[upd_apply]),rfl,(by omega)⟩
 rintro m f K1 ⟨i,rfl,hi,f0,f2,f4,f7,hK,hj⟩
 subst hK
 try simp (maxSteps:=3000000) (disch:=first|omega|simp only[lnx];omega) only[↓xpre,xpost,↓reduceIte,reduceEqDiff,reduceAdd,reduceSub,reduceLeDiff,zz0,f0,f2,f4,f7,IfW_dec]
 refine⟨fun hlt=>?_,fun hge=>?_⟩
 ·have hi':i<9:=by omega
  have g1:=cel_get (k:=.u8) (q:=q) (j:=i) (by rw[hq.1];exact hi')
  have b1:=hq.2 i hi'
  have no:okAt p n q i=false→Q (.bool false) K1:=fun e=>by have:=hQ _ p1;rw[okForm_f hi' e] at this;exact this
  by_cases c1:p≤q.getD i 0
  ·try simp (maxSteps:=3000000) (disch:=first|omega|simp only[lnx];omega) only[↓xpre,xpost,↓reduceIte,reduceEqDiff,reduceAdd,reduceSub,reduceLeDiff,zz0,f0,f2,f4,f7,↓WX_ixa,ixaV_ptr,Int.toNat_natCast,Nat.mul_one,rd1_of hb1,g1,wrap64_in,decide_eq_true c1,WG_un]
   exact no (by unfold okAt;exact decide_eq_false (by omega))
  by_cases c2:n≤(i:Int)
  ·by_cases c3:q.getD i 0=0
   ·try simp (maxSteps:=3000000) (disch:=first|omega|simp only[lnx];omega) only[↓xpre,xpost,↓reduceIte,reduceEqDiff,reduceAdd,reduceSub,reduceLeDiff,zz0,f0,f2,f4,f7,↓WX_ixa,ixaV_ptr,Int.toNat_natCast,Nat.mul_one,rd1_of hb1,g1,wrap64_in,decide_eq_false c1,decide_eq_true c2,decide_eq_false (show ¬ (q.getD i 0≠0) from fun e=>e c3)]
    refine InvQ_go (9-(i+1)) (by omega) ⟨(i+1),rfl,by omega,(by first|rfl|exact f0|(simp only[upd_apply];rfl)|(show I64 _=_;congr 1;omega)),(by first|rfl|exact f2|(simp only[upd_apply];rfl)|(show I64 _=_;congr 1;omega)),(by first|rfl|exact f4|(simp only[upd_apply];rfl)|(show I64 _=_;congr 1;omega)),(by first|rfl|exact f7|(simp only[upd_apply];rfl)|(show I64 _=_;congr 1;omega)),rfl,(step_all hj (by unfold okAt;exact decide_eq_true ⟨by omega,fun _=>c3⟩))⟩
   ·try simp (maxSteps:=3000000) (disch:=first|omega|simp only[lnx];omega) only[↓xpre,xpost,↓reduceIte,reduceEqDiff,reduceAdd,reduceSub,reduceLeDiff,zz0,f0,f2,f4,f7,↓WX_ixa,ixaV_ptr,Int.toNat_natCast,Nat.mul_one,rd1_of hb1,g1,wrap64_in,decide_eq_false c1,decide_eq_true c2,decide_eq_true (show q.getD i 0≠0 from c3)]
    exact no (by unfold okAt;exact decide_eq_false (fun e=>c3 (e.2 c2)))
  ·try simp (maxSteps:=3000000) (disch:=first|omega|simp only[lnx];omega) only[↓xpre,xpost,↓reduceIte,reduceEqDiff,reduceAdd,reduceSub,reduceLeDiff,zz0,f0,f2,f4,f7,↓WX_ixa,ixaV_ptr,Int.toNat_natCast,Nat.mul_one,rd1_of hb1,g1,wrap64_in,decide_eq_false c1,decide_eq_false c2,WG_un]
   refine InvQ_go (9-(i+1)) (by omega) ⟨(i+1),rfl,by omega,(by first|rfl|exact f0|(simp only[upd_apply];rfl)|(show I64 _=_;congr 1;omega)),(by first|rfl|exact f2|(simp only[upd_apply];rfl)|(show I64 _=_;congr 1;omega)),(by first|rfl|exact f4|(simp only[upd_apply];rfl)|(show I64 _=_;congr 1;omega)),(by first|rfl|exact f7|(simp only[upd_apply];rfl)|(show I64 _=_;congr 1;omega)),rfl,(step_all hj (by unfold okAt;exact decide_eq_true ⟨by omega,fun e=>absurd e c2⟩))⟩
 ·try simp (maxSteps:=3000000) (disch:=first|omega|simp only[lnx];omega) only[↓xpre,xpost,↓reduceIte,reduceEqDiff,reduceAdd,reduceSub,reduceLeDiff,zz0,f0,f2,f4,f7]
  have:=hQ _ p1
  rw[okForm_t fun j hj'=>hj j (by omega)] at this
  exact this
theorem idx1V_cel {k:IntKind} {q:List Int} {n j:Nat} {kk:IntKind} (hj:j<n) (hq:j<q.length):idx1V n (.agg (cel k q).toArray) (.int kk j)=some (.int k (q.getD j 0)):=by
 simp only[idx1V,Int.toNat_natCast]
 rw[if_pos (by omega),cel_get hq]
theorem i_isForm {p n:Int} {q:List Int} {h:AH} {Q:Value→AH→Prop} (hq:By 9 q) (hQ:∀ h',h<+:h'→Q (.bool (okForm p n q)) h'):WF S 42 [I64 p,I64 n,aggV .u8 q] h Q:=by
 refine WF_fn (fn:=c42) rfl rfl ?_
 dsimp only[c42,oO,oM,oS,oG,oK,oE,oL,oF,oX,oN]
 have tk:q.take 9=q:=List.take_of_length_le (by rw[hq.1];exact Nat.le_refl _)
 try simp (maxSteps:=3000000) (disch:=first|omega|simp only[lnx];omega) only[↓xpre,xpost,↓reduceIte,reduceEqDiff,reduceAdd,reduceSub,reduceLeDiff,zz0,aggV,cel_all]
 generalize hH1:AH.new h _=H1
 obtain⟨hb1,p1,n1⟩:=new_facts hH1
 try simp (maxSteps:=3000000) (disch:=first|omega|simp only[lnx];omega) only[↓xpre,xpost,↓reduceIte,reduceEqDiff,reduceAdd,reduceSub,reduceLeDiff,zz0,rdn_of hb1,cel_len,hq.1,cel_take,tk]
 refine WC_loop_inv (fun m f K1=>∃ (i:Nat),m=9-i∧i≤9∧f 0=I64 p∧f 1=I64 n∧f 9=.agg (cel .u8 q).toArray∧f 10=I64 i∧(K1=H1)∧(∀ j,j<i→okAt p n q j=true)) ?_ (9-0) _ _ ⟨0,rfl,by omega,(by first|rfl|simp[upd_apply]),(by first|rfl|simp[upd_apply]),(by first|rfl|simp[upd_apply]),(by first|rfl|simp[upd_apply]),rfl,(by omega)⟩
 rintro m f K1 ⟨i,rfl,hi,f0,f1,f9,f10,hK,hj⟩
 subst hK
 try simp (maxSteps:=3000000) (disch:=first|omega|simp only[lnx];omega) only[↓xpre,xpost,↓reduceIte,reduceEqDiff,reduceAdd,reduceSub,reduceLeDiff,zz0,f0,f1,f9,f10,IfW_dec]
 refine⟨fun hlt=>?_,fun hge=>?_⟩
 ·have hi':i<9:=by omega
  have g1:=idx1V_cel (k:=.u8) (q:=q) (n:=9) (j:=i) (kk:=.i64) hi' (by rw[hq.1];exact hi')
  have b1:=hq.2 i hi'
  have no:okAt p n q i=false→Q (.bool false) K1:=fun e=>by have:=hQ _ p1;rw[okForm_f hi' e] at this;exact this
  by_cases c1:p≤q.getD i 0
  ·try simp (maxSteps:=3000000) (disch:=first|omega|simp only[lnx];omega) only[↓xpre,xpost,↓reduceIte,reduceEqDiff,reduceAdd,reduceSub,reduceLeDiff,zz0,f0,f1,f9,f10,↓WX_idx1,g1,wrap64_in,decide_eq_true c1,WG_un]
   exact no (by unfold okAt;exact decide_eq_false (by omega))
  by_cases c3:q.getD i 0=0
  ·try simp (maxSteps:=3000000) (disch:=first|omega|simp only[lnx];omega) only[↓xpre,xpost,↓reduceIte,reduceEqDiff,reduceAdd,reduceSub,reduceLeDiff,zz0,f0,f1,f9,f10,↓WX_idx1,g1,wrap64_in,decide_eq_false c1,decide_eq_false (show ¬ (q.getD i 0≠0) from fun e=>e c3)]
   refine InvQ_go (9-(i+1)) (by omega) ⟨(i+1),rfl,by omega,(by first|rfl|exact f0|(simp only[upd_apply];rfl)|(show I64 _=_;congr 1;omega)),(by first|rfl|exact f1|(simp only[upd_apply];rfl)|(show I64 _=_;congr 1;omega)),(by first|rfl|exact f9|(simp only[upd_apply];rfl)|(show I64 _=_;congr 1;omega)),(by first|rfl|exact f10|(simp only[upd_apply];rfl)|(show I64 _=_;congr 1;omega)),rfl,(step_all hj (by unfold okAt;exact decide_eq_true ⟨by omega,fun _=>c3⟩))⟩
  ·by_cases c2:n≤(i:Int)
   ·try simp (maxSteps:=3000000) (disch:=first|omega|simp only[lnx];omega) only[↓xpre,xpost,↓reduceIte,reduceEqDiff,reduceAdd,reduceSub,reduceLeDiff,zz0,f0,f1,f9,f10,↓WX_idx1,g1,wrap64_in,decide_eq_false c1,decide_eq_true c2,decide_eq_true (show q.getD i 0≠0 from c3)]
    exact no (by unfold okAt;exact decide_eq_false (fun e=>c3 (e.2 c2)))
   ·try simp (maxSteps:=3000000) (disch:=first|omega|simp only[lnx];omega) only[↓xpre,xpost,↓reduceIte,reduceEqDiff,reduceAdd,reduceSub,reduceLeDiff,zz0,f0,f1,f9,f10,↓WX_idx1,g1,wrap64_in,decide_eq_false c1,decide_eq_false c2,decide_eq_true (show q.getD i 0≠0 from c3)]
    refine InvQ_go (9-(i+1)) (by omega) ⟨(i+1),rfl,by omega,(by first|rfl|exact f0|(simp only[upd_apply];rfl)|(show I64 _=_;congr 1;omega)),(by first|rfl|exact f1|(simp only[upd_apply];rfl)|(show I64 _=_;congr 1;omega)),(by first|rfl|exact f9|(simp only[upd_apply];rfl)|(show I64 _=_;congr 1;omega)),(by first|rfl|exact f10|(simp only[upd_apply];rfl)|(show I64 _=_;congr 1;omega)),rfl,(step_all hj (by unfold okAt;exact decide_eq_true ⟨by omega,fun e=>absurd e c2⟩))⟩
 ·try simp (maxSteps:=3000000) (disch:=first|omega|simp only[lnx];omega) only[↓xpre,xpost,↓reduceIte,reduceEqDiff,reduceAdd,reduceSub,reduceLeDiff,zz0,f0,f1,f9,f10]
  have:=hQ _ p1
  rw[okForm_t fun j hj'=>hj j (by omega)] at this
  exact this
def z9:List Int:=[0,0,0,0,0,0,0,0,0]
theorem zeros9':([.int .u8 0,.int .u8 0,.int .u8 0,.int .u8 0,.int .u8 0,.int .u8 0,.int .u8 0,.int .u8 0,.int .u8 0]:List Value)=cel .u8 z9:=rfl
def isZ (q:List Int):Bool:=q==z9
theorem intsOf_cel {k:IntKind}:∀ {q:List Int},q≠[]→intsOf (cel k q)=some (k,q)
 | [],h=>absurd rfl h
 | [a],_=>rfl
 | a::b::l,_=>by
  have ih:=intsOf_cel (k:=k) (q:=b::l) (by simp)
  have e:cel k (a::b::l)=.int k a::cel k (b::l):=rfl
  have e2:cel k (b::l)=.int k b::cel k l:=rfl
  rw[e2] at ih
  rw[e,e2]
  simp only[intsOf,ih,if_true]
theorem eqaV_cel {n:Nat} {k:IntKind} {q r:List Int} (hq:q.length=n) (hr:r.length=n) (h0:0<n):eqaV false n (.agg (cel k q).toArray) (.agg (cel k r).toArray)=some (.bool (q==r)):=by
 have e1:=intsOf_cel (k:=k) (q:=q) (by intro e;rw[e] at hq;simp at hq;omega)
 have e2:=intsOf_cel (k:=k) (q:=r) (by intro e;rw[e] at hr;simp at hr;omega)
 simp only[eqaV,e1,e2]
 rw[if_pos ⟨trivial,hq,hr⟩]
 simp
theorem s_l01Zero {q:List Int} {h:AH} {Q:Value→AH→Prop} (hq:q.length=9) (hQ:∀ h',h<+:h'→Q (.bool (isZ q)) h'):WF S 49 [aggV .u8 q] h Q:=by
 refine WF_fn (fn:=c49) rfl rfl ?_
 dsimp only[c49,oO,oM,oS,oG,oK,oE,oL,oF,oX,oN]
 have tk:q.take 9=q:=List.take_of_length_le (by rw[hq];exact Nat.le_refl _)
 have e:=eqaV_cel (k:=.u8) hq (show z9.length=9 from rfl) (by omega)
 try simp (maxSteps:=3000000) (disch:=first|omega|simp only[lnx];omega) only[↓xpre,xpost,↓reduceIte,reduceEqDiff,reduceAdd,reduceSub,reduceLeDiff,zz0,aggV,cel_all,cel_len,hq,cel_take,tk,fillL,zeros9',e]
 have:=hQ _ (pre_new (b:=⟨cel .u8 q,34,false,true⟩) (List.prefix_refl h))
 unfold isZ at this
 simpa using this
def seg (q:List Int) (i:Nat):List Int:=(q.drop (i*9)).take 9
theorem By.seg {q:List Int} (hq:By 27 q) {i:Nat} (hi:i<3):By 9 (seg q i):=by
 have h1:=hq.1
 refine⟨by unfold X.seg;simp;omega,fun j hj=>?_⟩
 unfold X.seg
 rw[cut_get hj]
 exact hq.2 _ (by omega)
def hasZ (q:List Int):Bool:=isZ (seg q 0)||isZ (seg q 1)||isZ (seg q 2)
theorem i_hasZero {q:List Int} {h:AH} {Q:Value→AH→Prop} (hq:By 27 q) (hQ:∀ h',h<+:h'→Q (.bool (hasZ q)) h'):WF S 74 [aggV .u8 q] h Q:=by
 refine WF_fn (fn:=c74) rfl rfl ?_
 dsimp only[c74,oO,oM,oS,oG,oK,oE,oL,oF,oX,oN]
 have hQ':=hQ _ (pre_new (b:=⟨cel .u8 q,53,false,true⟩) (List.prefix_refl h))
 have hz9:z9.length=9:=rfl
 have e0:=eqaV_cel (k:=.u8) (hq.seg (i:=0) (by omega)).1 hz9 (by omega)
 have e1:=eqaV_cel (k:=.u8) (hq.seg (i:=1) (by omega)).1 hz9 (by omega)
 have e2:=eqaV_cel (k:=.u8) (hq.seg (i:=2) (by omega)).1 hz9 (by omega)
 have s0:seg q 0=q.take 9:=by unfold seg;simp
 have s1:seg q 1=(q.drop 9).take 9:=rfl
 have s2:seg q 2=(q.drop 18).take 9:=rfl
 unfold hasZ isZ at hQ'
 rw[s0] at e0 hQ'
 rw[s1] at e1 hQ'
 rw[s2] at e2 hQ'
 generalize hc0:(q.take 9==z9)=c0 at *
 generalize hc1:((q.drop 9).take 9==z9)=c1 at *
 generalize hc2:((q.drop 18).take 9==z9)=c2 at *
 try simp (maxSteps:=3000000) (disch:=first|omega|simp only[lnx];omega) only[↓xpre,xpost,↓reduceIte,reduceEqDiff,reduceAdd,reduceSub,reduceLeDiff,zz0,aggV,cel_all,cel_len,hq.1,cel_take,cel_drop,List.drop_zero,fillL,zeros9',e0]
 cases c0 with
 | true=>
  try simp (maxSteps:=3000000) (disch:=first|omega|simp only[lnx];omega) only[↓xpre,xpost,↓reduceIte,reduceEqDiff,reduceAdd,reduceSub,reduceLeDiff,zz0]
  exact hQ'
 | false=>
  try simp (maxSteps:=3000000) (disch:=first|omega|simp only[lnx];omega) only[↓xpre,xpost,↓reduceIte,reduceEqDiff,reduceAdd,reduceSub,reduceLeDiff,zz0,cel_all,cel_len,hq.1,cel_take,cel_drop,fillL,zeros9',e1]
  cases c1 with
  | true=>
   try simp (maxSteps:=3000000) (disch:=first|omega|simp only[lnx];omega) only[↓xpre,xpost,↓reduceIte,reduceEqDiff,reduceAdd,reduceSub,reduceLeDiff,zz0]
   exact hQ'
  | false=>
   try simp (maxSteps:=3000000) (disch:=first|omega|simp only[lnx];omega) only[↓xpre,xpost,↓reduceIte,reduceEqDiff,reduceAdd,reduceSub,reduceLeDiff,zz0,cel_all,cel_len,hq.1,cel_take,cel_drop,fillL,zeros9',e2]
   exact hQ'
theorem WO_cut {S:XS} {ops:List XI} {f:Fr} {h:AH} {Q:Fr→AH→Prop} (I:Fr→Prop) (hI:I f) (step:∀ f,I f→WO S ops f h Q):WO S ops f h Q:=step f hI
def JnQ (I:Fr→AH→Prop):XE→Fr→AH→Prop
 | .normal,f,h=>I f h
 | _,_,_=>False
theorem JnQ_n {I:Fr→AH→Prop} {f:Fr} {h:AH}:JnQ I .normal f h=I f h:=rfl
theorem WO.mono {S:XS} {ops:List XI} {f:Fr} {h:AH} {Q Q':Fr→AH→Prop} (w:WO S ops f h Q) (hq:∀ f h,Q f h→Q' f h):WO S ops f h Q':=by
 obtain⟨k,f',h',h1,h2⟩:=w
 exact⟨k,f',h',h1,hq _ _ h2⟩
section
variable {n m:Nat} {h0 h h' h'':AH} {b:Blk}
theorem Kp.refl:Kp n h h:=⟨Nat.le_refl _,fun _ _ _=>rfl⟩
theorem Kp.trans (a:Kp n h h') (c:Kp n h' h''):Kp n h h'':=⟨Nat.le_trans a.1 c.1,fun m hm hn=>(c.2 m (Nat.lt_of_lt_of_le hm a.1) hn).trans (a.2 m hm hn)⟩
theorem Kp.of (p:h<+:h'):Kp n h h':=prefix_kp p
theorem Kp.get (k:Kp n h h') (hm:m≠n) (hg:h.get m=some b):h'.get m=some b:=by rw[k.2 m (get_lt hg) hm];exact hg
theorem Kp.put (k:Kp n h h'):Kp n h (h'.put n b):=⟨by rw[len_put];exact k.1,fun m hm hn=>by rw[get_put_ne (Ne.symm hn)];exact k.2 m hm hn⟩
theorem Kp.putb (k:Kp n h h') (hm:h.length≤m):Kp n h (h'.put m b):=⟨by rw[len_put];exact k.1,fun j hj hn=>by rw[get_put_ne (by omega)];exact k.2 j hj hn⟩
theorem Kp.new (k:Kp n h h'):Kp n h (h'.new b):=k.trans (Kp.of (pre_new (List.prefix_refl _)))
theorem get_none {m:Nat} (hm:m<h.length) (hn:h.get m=none):h[m]?=some none:=by
 unfold AH.get at hn
 rw[List.getElem?_eq_getElem hm] at hn ⊢
 cases e:h[m] with
 | none=>rfl
 | some b=>rw[e] at hn;cases hn
theorem get_some' {m:Nat} (hg:h.get m=some b):h[m]?=some (some b):=by
 have hl:=get_lt hg
 unfold AH.get at hg
 rw[List.getElem?_eq_getElem hl] at hg ⊢
 cases e:h[m] with
 | none=>rw[e] at hg;cases hg
 | some c=>rw[e] at hg;cases hg;rfl
theorem Kp.pre (k:Kp n h h') (p:h0<+:h) (hl:h0.length≤n):h0<+:h':=by
 have l0:=pre_len p
 rw[List.prefix_iff_getElem?] at p ⊢
 intro i hi
 have e:=k.2 i (by omega) (by omega)
 rw[←p i hi]
 cases hg:h.get i with
 | none=>
  rw[hg] at e
  rw[get_none (by omega) hg,get_none (Nat.lt_of_lt_of_le (by omega) k.1) e]
 | some b=>
  rw[hg] at e
  rw[get_some' hg,get_some' e]
end
theorem put_facts {h H:AH} {m:Nat} {b:Blk} (hH:h.put m b=H):(∀ k c,k≠m→h.get k=some c→H.get k=some c)∧H.length=h.length∧(m<h.length→H.get m=some b)∧∀ n h0,Kp n h0 h→h0.length≤m→Kp n h0 H:=by
 subst hH
 exact⟨fun k c hk g=>by rw[get_put_ne (Ne.symm hk)];exact g,len_put,fun hm=>get_put_same hm,fun n h0 k hm=>k.putb hm⟩
def KP (n:Nat) (h:AH) (p:AH→Prop):Prop:=∀ h',Kp n h h'→p h'
theorem KP.now {n:Nat} {h:AH} {p:AH→Prop} (k:KP n h p):p h:=k h Kp.refl
theorem KP.kp {n:Nat} {h h':AH} {p:AH→Prop} (k:KP n h p) (d:Kp n h h'):KP n h' p:=fun h2 d2=>k h2 (d.trans d2)
theorem KP.pre {n:Nat} {h h':AH} {p:AH→Prop} (k:KP n h p) (d:h<+:h'):KP n h' p:=k.kp (Kp.of d)
def KN (lo:Nat) (h:AH) (p:AH→Prop):Prop:=∀ h':AH,h.length≤h'.length→(∀ m,lo≤m→m<h.length→h'.get m=h.get m)→p h'
section
variable {lo lo' n m:Nat} {h h':AH} {p:AH→Prop} {b:Blk}
theorem KN.now (k:KN lo h p):p h:=k h (Nat.le_refl _) fun _ _ _=>rfl
theorem KN.kp (k:KN lo h p) (d:Kp n h h') (hn:n<lo):KN lo h' p:=fun h2 l2 g2=>k h2 (Nat.le_trans d.1 l2) fun m h1 h3=>(g2 m h1 (Nat.lt_of_lt_of_le h3 d.1)).trans (d.2 m h3 (by omega))
theorem KN.pre (k:KN lo h p) (d:h<+:h'):KN lo h' p:=fun h2 l2 g2=>k h2 (Nat.le_trans (pre_len d) l2) fun m h1 h3=>(g2 m h1 (Nat.lt_of_lt_of_le h3 (pre_len d))).trans (prefix_get d h3)
theorem KN.put (k:KN lo h p) (hm:m<lo):KN lo (h.put m b) p:=fun h2 l2 g2=>k h2 (by rw[len_put] at l2;exact l2) fun j h1 h3=>(g2 j h1 (by rw[len_put];exact h3)).trans (get_put_ne (by omega))
theorem KN.mono (k:KN lo h p) (hl:lo'≤lo):KN lo' h p:=fun h2 l2 g2=>k h2 l2 fun m h1 h3=>g2 m (by omega) h3
end
abbrev U64 (n:Int):Value:=.int .u64 n
abbrev srcP (n:Nat):Value:=.pointer (some ⟨n,0,none⟩)
structure Src (h0 h:AH) (n:Nat):Prop where
 p:h0<+:h
 lo:h0.length≤n
 ex:∃ (cv:Value) (code:List (List Int)) (a:Nat) (k:Int) (e:TypeId) (full:Bool),Els .u8 1 h0 cv code∧Byt 1 code∧code.length≤1000000∧a≤code.length∧h.get n=some ⟨[cv,I64 a,U64 k],e,false,full⟩
theorem Src.kp {h0 h h':AH} {n:Nat} (s:Src h0 h n) (p:h<+:h'):Src h0 h' n:=by
 obtain⟨cv,code,a,k,e,full,h1,h2,h3,h4,h5⟩:=s.ex
 exact⟨s.p.trans p,s.lo,cv,code,a,k,e,full,h1,h2,h3,h4,pre_get p h5⟩
theorem Src.keep {h0 h h':AH} {n:Nat} (s:Src h0 h n) (p:h0<+:h') (g:∀ b,h.get n=some b→h'.get n=some b):Src h0 h' n:=by
 obtain⟨cv,code,a,k,e,full,h1,h2,h3,h4,h5⟩:=s.ex
 exact⟨p,s.lo,cv,code,a,k,e,full,h1,h2,h3,h4,g _ h5⟩
theorem Src.lt {h0 h:AH} {n:Nat} (s:Src h0 h n):n<h.length:=by
 obtain⟨cv,code,a,k,e,full,h1,h2,h3,h4,h5⟩:=s.ex
 exact get_lt h5
theorem Src.putb {h0 h:AH} {n m:Nat} {b:Blk} (s:Src h0 h n) (hm:m≠n) (hl:h0.length≤m):Src h0 (h.put m b) n:=s.keep (pre_put s.p hl) fun c g=>by rw[get_put_ne hm];exact g
theorem Src.put {h0 h H:AH} {n m:Nat} {b:Blk} (s:Src h0 h n) (hH:h.put m b=H) (hm:m≠n) (hl:h0.length≤m):Src h0 H n:=by
 subst hH
 exact s.putb hm hl
theorem and24 (x:Int):xbin .and (U64 x) (U64 16777215)=some (U64 ((BitVec.ofInt 64 x &&& BitVec.ofInt 64 16777215).toNat:Nat))∧(BitVec.ofInt 64 x &&& BitVec.ofInt 64 16777215).toNat≤16777215:=by
 have hb:(BitVec.ofInt 64 x &&& BitVec.ofInt 64 16777215).toNat≤16777215:=by
  rw[BitVec.toNat_and]
  exact Nat.le_trans Nat.and_le_right (by decide)
 refine⟨?_,hb⟩
 simp only[xbin,if_true]
 congr 2
 show IntKind.wrap .u64 ((BitVec.ofInt 64 x &&& BitVec.ofInt 64 16777215).toNat:Nat)=_
 generalize (BitVec.ofInt 64 x &&& BitVec.ofInt 64 16777215).toNat=y at hb
 simp only[IntKind.wrap]
 have:IntKind.u64.bits=64:=rfl
 rw[this,show IntKind.u64.signed=false from rfl,Bool.false_and,if_neg (by decide)]
 omega
theorem bin_shr {k k':IntKind} {x:Int} {b:Int} (hb:0≤b):xbin .shr (.int k x) (.int k' b)=some (.int k (x.fdiv (2^(min b.toNat k.bits)))):=by simp[xbin,hb]
theorem s_l01Next {h0 h:AH} {n:Nat} {k:Int} {Q:Value→AH→Prop} (s:Src h0 h n) (hQ:∀ r h',Kp n h h'→h'.length=h.length→Src h0 h' n→(1≤k→0≤r∧r<k)→(k<1→r=0)→Q (I64 r) h'):WF S 26 [srcP n,I64 k] h Q:=by
 refine WF_fn (fn:=c26) rfl rfl ?_
 dsimp only[c26,oO,oM,oS,oG,oK,oE,oL,oF,oX,oN]
 obtain⟨cv,code,a,hs,e,full,h1,h2,h3,h4,h5⟩:=s.ex
 unfold srcP
 by_cases hk:k<1
 ·((try simp (maxSteps:=3000000) (dsimp:=false) (disch:=first|omega|simp only[lnx];omega) only[↓ypre,ypost,↓reduceIte,reduceEqDiff,reduceAdd,reduceSub,reduceLeDiff,zz0,ynew,decide_eq_true hk]);try simp only[yback])
  exact hQ 0 _ Kp.refl rfl s (by omega) (fun _=>rfl)
 ·((try simp (maxSteps:=3000000) (dsimp:=false) (disch:=first|omega|simp only[lnx];omega) only[↓ypre,ypost,↓reduceIte,reduceEqDiff,reduceAdd,reduceSub,reduceLeDiff,zz0,ynew,decide_eq_false hk,nchkV_p,rd1_of h5,wr_of h5,splice_eq]);try simp only[yback])
  generalize hx:IntKind.u64.wrap (IntKind.u64.wrap (hs*6364136223846793005)+1442695040888963407)=x
  generalize hH:h.put n ⟨[cv,I64 a,U64 x],e,false,full⟩=H
  have gH:H.get n=some ⟨[cv,I64 a,U64 x],e,false,full⟩:=by rw[←hH];exact get_put_same (get_lt h5)
  have lH:H.length=h.length:=by rw[←hH,len_put]
  have kH:Kp n h H:=by rw[←hH];exact Kp.refl.put
  have pH:=kH.pre s.p s.lo
  obtain⟨a1,a2⟩:=and24 (x.fdiv (2^(min (33:Int).toNat IntKind.u64.bits)))
  generalize hN:(BitVec.ofInt 64 (x.fdiv (2^(min (33:Int).toNat IntKind.u64.bits))) &&& BitVec.ofInt 64 16777215).toNat=N at a1 a2
  have e1:=h1.pre pH
  have fin:∀ (y:Int) (h':AH),0≤y→Kp n h h'→h'.length=h.length→Src h0 h' n→Q (I64 (y.tmod k)) h':=fun y h' hy kp hl ss=>
   hQ _ h' kp hl ss (fun _=>⟨Int.tmod_nonneg _ hy,Int.tmod_lt_of_pos _ (by omega)⟩) (fun hk'=>absurd hk' hk)
  ((try simp (maxSteps:=3000000) (dsimp:=false) (disch:=first|omega|simp only[lnx];omega) only[↓ypre,ypost,↓reduceIte,reduceEqDiff,reduceAdd,reduceSub,reduceLeDiff,zz0,ynew,rd1_of gH,bin_shr,a1,e1.len,wrap64_in,Int.reduceLE]);try simp only[yback])
  by_cases hlt:(a:Int)<code.length
  ·have hi':a<code.length:=by omega
   obtain⟨n2,off,hix,hrn,hr1⟩:=e1.at hi'
   have rb:=hr1 0 (by omega)
   have bb:=h2 a hi' 0 (by omega)
   rw[Nat.add_zero] at rb
   generalize (code.getD a []).getD 0 0=y at rb bb
   ((try simp (maxSteps:=3000000) (dsimp:=false) (disch:=first|omega|simp only[lnx];omega) only[↓ypre,ypost,↓reduceIte,reduceEqDiff,reduceAdd,reduceSub,reduceLeDiff,zz0,ynew,decide_eq_true hlt,hix,rb,rd1_of gH,wr_of gH,splice_eq,wrap64_in,bin_rem (show k≠0 by omega)]);try simp only[yback])
   exact fin (N+y) _ (by omega) kH.put (by rw[len_put,lH]) ⟨pre_put pH s.lo,s.lo,cv,code,a+1,x,e,full,h1,h2,h3,by omega,get_put_same (get_lt gH)⟩
  ·((try simp (maxSteps:=3000000) (dsimp:=false) (disch:=first|omega|simp only[lnx];omega) only[↓ypre,ypost,↓reduceIte,reduceEqDiff,reduceAdd,reduceSub,reduceLeDiff,zz0,ynew,decide_eq_false hlt,bin_rem (show k≠0 by omega)]);try simp only[yback])
   exact fin N H (by omega) kH lH ⟨pH,s.lo,cv,code,a,x,e,full,h1,h2,h3,h4,gH⟩
theorem s_l01From {h:AH} {cv:Value} {code:List (List Int)} {Q:Value→AH→Prop} (hv:Els .u8 1 h cv code) (hb:Byt 1 code) (hl:code.length≤1000000)
  (hQ:∀ h',h<+:h'→h'.length=h.length+1→Src h h' h.length→Q (srcP h.length) h'):WF S 23 [cv] h Q:=by
 refine WF_fn (fn:=c23) rfl rfl ?_
 dsimp only[c23,oO,oM,oS,oG,oK,oE,oL,oF,oX,oN]
 ((try simp (maxSteps:=3000000) (dsimp:=false) (disch:=first|omega|simp only[lnx];omega) only[↓ypre,ypost,↓reduceIte,reduceEqDiff,reduceAdd,reduceSub,reduceLeDiff,zz0,ynew,hv.len,hv.one,hv.cells]);try simp only[yback])
 generalize hx:IntKind.u64.wrap (12619+IntKind.u64.wrap (code.length:Int))=x0
 ((try simp (maxSteps:=3000000) (dsimp:=false) (disch:=first|omega|simp only[lnx];omega) only[↓ypre,ypost,↓reduceIte,reduceEqDiff,reduceAdd,reduceSub,reduceLeDiff,zz0,ynew,fillL,hv.one,hv.cells]);try simp only[yback])
 generalize hH1:AH.new h _=H1
 obtain⟨hb1,p1,n1⟩:=new_facts hH1
 refine WC_loop_inv (fun m f K1=>∃ (i:Nat) (x:Int),m=code.length-i∧i≤code.length∧f 0=cv∧f 3=srcP h.length∧f 4=I64 i∧(h<+:K1)∧(K1.length=h.length+1)∧(K1.get h.length=some ⟨[cv,I64 0,U64 x],82,false,true⟩)) ?_ (code.length-0) _ _ ⟨0,x0,rfl,by omega,(by first|rfl|simp[upd_apply]),(by first|rfl|simp[upd_apply]),(by first|rfl|simp[upd_apply]),p1,n1,hb1⟩
 rintro m f K1 ⟨i,x,rfl,hi,f0,f3,f4,pp,hl1,hg⟩
 have e1:=hv.pre pp
 unfold srcP at f3
 by_cases hlt:(i:Int)<code.length
 ·by_cases h4:(i:Int)<4096
  ·have hi':i<code.length:=by omega
   obtain⟨n2,off,hix,hrn,hr1⟩:=e1.at hi'
   have rb:=hr1 0 (by omega)
   rw[Nat.add_zero] at rb
   ((try simp (maxSteps:=3000000) (dsimp:=false) (disch:=first|omega|simp only[lnx];omega) only[↓ypre,ypost,↓reduceIte,reduceEqDiff,reduceAdd,reduceSub,reduceLeDiff,zz0,ynew,f0,f3,f4,e1.len,decide_eq_true hlt,decide_eq_true h4,nchkV_p,rd1_of hg,hix,rb,wr_of hg,splice_eq,wrap64_in]);try simp only[yback])
   refine InvQ_go (code.length-(i+1)) (by omega) ⟨(i+1),(_),rfl,by omega,(by first|rfl|exact f0|(simp only[upd_apply];rfl)|(show I64 _=_;congr 1;omega)),(by first|rfl|exact f3|(simp only[upd_apply];rfl)|(show I64 _=_;congr 1;omega)),(by first|rfl|exact f4|(simp only[upd_apply];rfl)|(show I64 _=_;congr 1;omega)),(pre_put pp (by omega)),(by rw[len_put];exact hl1),(get_put_same (get_lt hg))⟩
  ·((try simp (maxSteps:=3000000) (dsimp:=false) (disch:=first|omega|simp only[lnx];omega) only[↓ypre,ypost,↓reduceIte,reduceEqDiff,reduceAdd,reduceSub,reduceLeDiff,zz0,ynew,f0,f3,f4,e1.len,decide_eq_true hlt,decide_eq_false h4]);try simp only[yback])
   exact hQ _ pp hl1 ⟨pp,Nat.le_refl _,cv,code,0,x,_,_,hv,hb,hl,Nat.zero_le _,hg⟩
 ·((try simp (maxSteps:=3000000) (dsimp:=false) (disch:=first|omega|simp only[lnx];omega) only[↓ypre,ypost,↓reduceIte,reduceEqDiff,reduceAdd,reduceSub,reduceLeDiff,zz0,ynew,f0,f3,f4,e1.len,decide_eq_false hlt,WG_un]);try simp only[yback])
  exact hQ _ pp hl1 ⟨pp,Nat.le_refl _,cv,code,0,x,_,_,hv,hb,hl,Nat.zero_le _,hg⟩
theorem s_l01Pick {h0 h:AH} {n:Nat} {v:Value} {ns:List Int} {Q:Value→AH→Prop} (s:Src h0 h n) (hv:KP n h fun h'=>Ints h' v ns) (h1:1≤ns.length) (h2:ns.length≤1000)
  (hQ:∀ j h',Kp n h h'→h'.length=h.length→Src h0 h' n→j<ns.length→Q (I64 (ns.getD j 0)) h'):WF S 80 [srcP n,v] h Q:=by
 refine WF_fn (fn:=c80) rfl rfl ?_
 dsimp only[c80,oO,oM,oS,oG,oK,oE,oL,oF,oX,oN]
 ((try simp (maxSteps:=3000000) (dsimp:=false) (disch:=first|omega|simp only[lnx];omega) only[↓ypre,ypost,↓reduceIte,reduceEqDiff,reduceAdd,reduceSub,reduceLeDiff,zz0,ynew,hv.now.len]);try simp only[yback])
 refine s_l01Next s fun r h' kp hl ss hr _=>?_
 obtain⟨r0,r1⟩:=hr (by omega)
 have iv:=hv h' kp
 ((try simp (maxSteps:=3000000) (dsimp:=false) (disch:=first|omega|simp only[lnx];omega) only[↓ypre,ypost,↓reduceIte,reduceEqDiff,reduceAdd,reduceSub,reduceLeDiff,zz0,ynew,iv.ix r0 r1,iv.rd r0 r1]);try simp only[yback])
 have:=hQ r.toNat h' kp hl ss (by omega)
 exact this
theorem kp_new {h H:AH} {n:Nat} {ns:List Int} {e:TypeId} (hH:h.new ⟨ns.map (Value.int .i64),e,false,true⟩=H) (hn:n<h.length):KP n H fun h'=>Ints h' (.slice (some ⟨h.length,0,none⟩) ns.length 1) ns:=by
 obtain⟨g1,p1,n1⟩:=new_facts hH
 intro h' k
 exact Ints.own (k.get (by omega) g1) rfl
theorem s_l01Near {h0 h:AH} {n:Nat} {m:Int} {Q:Value→AH→Prop} (s:Src h0 h n) (hm:-1000000000≤m∧m≤1000000000)
  (hQ:∀ r h',Kp n h h'→Src h0 h' n → -4611686018427387904≤r∧r≤1099511627776→Q (I64 r) h'):WF S 35 [srcP n,I64 m] h Q:=by
 refine WF_fn (fn:=c35) rfl rfl ?_
 dsimp only[c35,oO,oM,oS,oG,oK,oE,oL,oF,oX,oN]
 have s0:=s
 ((try simp (maxSteps:=3000000) (dsimp:=false) (disch:=first|omega|simp only[lnx];omega) only[↓ypre,ypost,↓reduceIte,reduceEqDiff,reduceAdd,reduceSub,reduceLeDiff,zz0,ynew]);try simp only[yback])
 refine s_l01Next s fun r h1 k1 l1 s1 hr _=>?_
 by_cases h0':r=0
 ·((try simp (maxSteps:=3000000) (dsimp:=false) (disch:=first|omega|simp only[lnx];omega) only[↓ypre,ypost,↓reduceIte,reduceEqDiff,reduceAdd,reduceSub,reduceLeDiff,zz0,ynew,decide_eq_true h0',wrap64_in,fillL,zrep]);try simp only[yback])
  generalize hH:AH.new h1 _=H
  have lt:=s1.lt
  have kv:=kp_new (ns:=[-1,m+1,1099511627776,-4611686018427387904]) hH lt
  obtain⟨g1,p1,n1⟩:=new_facts hH
  refine s_l01Pick (s1.kp p1) kv (by simp) (by simp) fun j h2 k2 l2 s2 hj=>?_
  ((try simp (maxSteps:=3000000) (dsimp:=false) (disch:=first|omega|simp only[lnx];omega) only[↓ypre,ypost,↓reduceIte,reduceEqDiff,reduceAdd,reduceSub,reduceLeDiff,zz0,ynew]);try simp only[yback])
  refine hQ _ _ ((k1.trans (Kp.of p1)).trans k2) s2 ?_
  have:j=0∨j=1∨j=2∨j=3:=by simp at hj;omega
  rcases this with rfl|rfl|rfl|rfl<;>simp<;>omega
 ·((try simp (maxSteps:=3000000) (dsimp:=false) (disch:=first|omega|simp only[lnx];omega) only[↓ypre,ypost,↓reduceIte,reduceEqDiff,reduceAdd,reduceSub,reduceLeDiff,zz0,ynew,decide_eq_false h0',wrap64_in]);try simp only[yback])
  refine s_l01Next s1 fun r2 h2 k2 l2 s2 hr2 hr3=>?_
  ((try simp (maxSteps:=3000000) (dsimp:=false) (disch:=first|omega|simp only[lnx];omega) only[↓ypre,ypost,↓reduceIte,reduceEqDiff,reduceAdd,reduceSub,reduceLeDiff,zz0,ynew]);try simp only[yback])
  refine hQ _ _ (k1.trans k2) s2 ?_
  by_cases h:m+1<1
  ·have:=hr3 h
   omega
  ·have:=hr2 (by omega)
   omega
def sz (n:Int):Bool:=decide (1≤n∧n≤3)
theorem s_l01Sizes {p n m k:Int} {h:AH} {Q:Value→AH→Prop} (hQ:Q (.bool (isP p&&sz n&&sz m&&sz k)) h):WF S 66 [I64 p,I64 n,I64 m,I64 k] h Q:=by
 refine WF_fn (fn:=c66) rfl rfl ?_
 dsimp only[c66,oO,oM,oS,oG,oK,oE,oL,oF,oX,oN]
 try simp (maxSteps:=3000000) (disch:=first|omega|simp only[lnx];omega) only[↓xpre,xpost,↓reduceIte,reduceEqDiff,reduceAdd,reduceSub,reduceLeDiff,zz0]
 refine s_l01Prime ?_
 cases c0:isP p with
 | false=>
  rw[c0] at hQ
  try simp (maxSteps:=3000000) (disch:=first|omega|simp only[lnx];omega) only[↓xpre,xpost,↓reduceIte,reduceEqDiff,reduceAdd,reduceSub,reduceLeDiff,zz0,WG_un]
  exact hQ
 | true=>
  rw[c0] at hQ
  try simp (maxSteps:=3000000) (disch:=first|omega|simp only[lnx];omega) only[↓xpre,xpost,↓reduceIte,reduceEqDiff,reduceAdd,reduceSub,reduceLeDiff,zz0]
  refine s_l01In ?_
  have e1:decide (1≤n∧n≤3)=sz n:=rfl
  have e2:decide (1≤m∧m≤3)=sz m:=rfl
  have e3:decide (1≤k∧k≤3)=sz k:=rfl
  rw[e1]
  cases c1:sz n with
  | false=>
   rw[c1] at hQ
   try simp (maxSteps:=3000000) (disch:=first|omega|simp only[lnx];omega) only[↓xpre,xpost,↓reduceIte,reduceEqDiff,reduceAdd,reduceSub,reduceLeDiff,zz0,WG_un]
   exact hQ
  | true=>
   rw[c1] at hQ
   try simp (maxSteps:=3000000) (disch:=first|omega|simp only[lnx];omega) only[↓xpre,xpost,↓reduceIte,reduceEqDiff,reduceAdd,reduceSub,reduceLeDiff,zz0]
   refine s_l01In ?_
   rw[e2]
   cases c2:sz m with
   | false=>
    rw[c2] at hQ
    try simp (maxSteps:=3000000) (disch:=first|omega|simp only[lnx];omega) only[↓xpre,xpost,↓reduceIte,reduceEqDiff,reduceAdd,reduceSub,reduceLeDiff,zz0,WG_un]
    exact hQ
   | true=>
    rw[c2] at hQ
    try simp (maxSteps:=3000000) (disch:=first|omega|simp only[lnx];omega) only[↓xpre,xpost,↓reduceIte,reduceEqDiff,reduceAdd,reduceSub,reduceLeDiff,zz0]
    refine s_l01In ?_
    rw[e3]
    try simp (maxSteps:=3000000) (disch:=first|omega|simp only[lnx];omega) only[↓xpre,xpost,↓reduceIte,reduceEqDiff,reduceAdd,reduceSub,reduceLeDiff,zz0]
    exact hQ
theorem i_isSize {v:Value} {ns:List Int} {h:AH} {Q:Value→AH→Prop} (hv:Ints h v ns) (hl:(ns.length:Int)≤1048576) (hQ:Q (.bool (ns.all sz)) h):WF S 69 [v] h Q:=by
 refine WF_fn (fn:=c69) rfl rfl ?_
 dsimp only[c69,oO,oM,oS,oG,oK,oE,oL,oF,oX,oN]
 try simp (maxSteps:=3000000) (disch:=first|omega|simp only[lnx];omega) only[↓xpre,xpost,↓reduceIte,reduceEqDiff,reduceAdd,reduceSub,reduceLeDiff,zz0,hv.len]
 refine WC_loop_inv (fun m f K1=>∃ (i:Nat),m=ns.length-i∧i≤ns.length∧f 5=v∧f 6=I64 ns.length∧f 7=I64 i∧(K1=h)∧(∀ j,j<i→sz (ns.getD j 0)=true)) ?_ (ns.length-0) _ _ ⟨0,rfl,by omega,(by first|rfl|simp[upd_apply]),(by first|rfl|simp[upd_apply]),(by first|rfl|simp[upd_apply]),rfl,(by omega)⟩
 rintro m f K1 ⟨i,rfl,hi,f5,f6,f7,hK,hj⟩
 subst hK
 try simp (maxSteps:=3000000) (disch:=first|omega|simp only[lnx];omega) only[↓xpre,xpost,↓reduceIte,reduceEqDiff,reduceAdd,reduceSub,reduceLeDiff,zz0,f5,f6,f7,IfW_dec]
 refine⟨fun hlt=>?_,fun hge=>?_⟩
 ·have hi':i<ns.length:=by omega
  have hix:=hv.ix (k:=.i64) (j:=i) (by omega) (by omega)
  have hrd:=hv.rd (j:=i) (by omega) (by omega)
  simp only[nth,Int.toNat_natCast] at hrd
  have no:sz (ns.getD i 0)=false→Q (.bool false) K1:=fun e=>by
   have:ns.all sz=false:=by
    rw[List.all_eq_false]
    refine⟨ns.getD i 0,?_,by rw[e];simp⟩
    rw[List.getD_eq_getElem?_getD,List.getElem?_eq_getElem hi']
    exact List.getElem_mem hi'
   rw[this] at hQ
   exact hQ
  by_cases c1:ns.getD i 0<1
  ·try simp (maxSteps:=3000000) (disch:=first|omega|simp only[lnx];omega) only[↓xpre,xpost,↓reduceIte,reduceEqDiff,reduceAdd,reduceSub,reduceLeDiff,zz0,f5,f6,f7,hix,hrd,decide_eq_true c1,WG_un]
   exact no (by unfold sz;exact decide_eq_false (by omega))
  by_cases c2:3<ns.getD i 0
  ·try simp (maxSteps:=3000000) (disch:=first|omega|simp only[lnx];omega) only[↓xpre,xpost,↓reduceIte,reduceEqDiff,reduceAdd,reduceSub,reduceLeDiff,zz0,f5,f6,f7,hix,hrd,decide_eq_false c1,decide_eq_true c2]
   exact no (by unfold sz;exact decide_eq_false (by omega))
  try simp (maxSteps:=3000000) (disch:=first|omega|simp only[lnx];omega) only[↓xpre,xpost,↓reduceIte,reduceEqDiff,reduceAdd,reduceSub,reduceLeDiff,zz0,f5,f6,f7,hix,hrd,decide_eq_false c1,decide_eq_false c2,wrap64_in]
  refine InvQ_go (ns.length-(i+1)) (by omega) ⟨(i+1),rfl,by omega,(by first|rfl|exact f5|(simp only[upd_apply];rfl)|(show I64 _=_;congr 1;omega)),(by first|rfl|exact f6|(simp only[upd_apply];rfl)|(show I64 _=_;congr 1;omega)),(by first|rfl|exact f7|(simp only[upd_apply];rfl)|(show I64 _=_;congr 1;omega)),rfl,(step_all hj (by unfold sz;exact decide_eq_true (by omega)))⟩
 ·try simp (maxSteps:=3000000) (disch:=first|omega|simp only[lnx];omega) only[↓xpre,xpost,↓reduceIte,reduceEqDiff,reduceAdd,reduceSub,reduceLeDiff,zz0,f5,f6,f7]
  have:ns.all sz=true:=by
   rw[List.all_eq_true]
   intro x hx
   obtain⟨j,hj',rfl⟩:=List.mem_iff_getElem.1 hx
   have:=hj j (by omega)
   rw[List.getD_eq_getElem?_getD,List.getElem?_eq_getElem hj'] at this
   exact this
  rw[this] at hQ
  exact hQ
def szX (x:Sch):Bool:=isP x.p&&sz x.n&&sz x.m&&sz x.k
structure SZ (x:Sch):Prop where
 p:2≤x.p∧x.p≤5
 n:1≤x.n∧x.n≤3
 m:1≤x.m∧x.m≤3
 k:1≤x.k∧x.k≤3
 nm:1≤x.n*x.m∧x.n*x.m≤9
 mk2:1≤x.m*x.k∧x.m*x.k≤9
 nk:1≤x.n*x.k∧x.n*x.k≤9
theorem szX_facts {x:Sch} (h:szX x=true):SZ x:=by
 simp only[szX,sz,Bool.and_eq_true,decide_eq_true_eq] at h
 obtain⟨⟨⟨h1,h2⟩,h3⟩,h4⟩:=h
 exact⟨isP_in h1,h2,h3,h4,mul_in1 (A:=3) (B:=3) h2 h3,mul_in1 (A:=3) (B:=3) h3 h4,mul_in1 (A:=3) (B:=3) h2 h4⟩
theorem xres_tmp3 {f:Fr} {h:AH} {t u w:Nat}:xres f h [.tmp t,.tmp u,.tmp w]=some (.tuple #[f t,f u,f w]):=rfl
theorem s_l01Lengths {x:Sch} {v:Value} {h:AH} {Q:Value→AH→Prop} (hv:isOne v=true) (z:SZ x) (hQ:∀ h',h<+:h'→Q (.tuple #[I64 (x.n*x.m),I64 (x.m*x.k),I64 (x.n*x.k)]) h'):WF S 60 [schV x v] h Q:=by
 refine WF_fn (fn:=c60) rfl rfl ?_
 dsimp only[c60,oO,oM,oS,oG,oK,oE,oL,oF,oX,oN]
 have:=z.nm
 have:=z.mk2
 have:=z.nk
 try simp (maxSteps:=3000000) (disch:=first|omega|simp only[lnx];omega) only[↓xpre,xpost,↓reduceIte,reduceEqDiff,reduceAdd,reduceSub,reduceLeDiff,zz0,schV,hv,wrap64_in,xres_tmp3]
 exact hQ _ (pre_new (List.prefix_refl _))
theorem i_placesOf {x:Sch} {v:Value} {h:AH} {Q:Value→AH→Prop} (hv:isOne v=true) (z:SZ x) (hQ:∀ h',h<+:h'→Q (.agg #[I64 (x.n*x.m),I64 (x.m*x.k),I64 (x.n*x.k)]) h'):WF S 43 [schV x v] h Q:=by
 refine WF_fn (fn:=c43) rfl rfl ?_
 dsimp only[c43,oO,oM,oS,oG,oK,oE,oL,oF,oX,oN]
 have:=z.nm
 have:=z.mk2
 have:=z.nk
 try simp (maxSteps:=3000000) (disch:=first|omega|simp only[lnx];omega) only[↓xpre,xpost,↓reduceIte,reduceEqDiff,reduceAdd,reduceSub,reduceLeDiff,zz0,schV,hv,wrap64_in,fillL]
 exact hQ _ (pre_new (pre_new (List.prefix_refl _)))
def pl (x:Sch) (i:Nat):Int:=if i=0 then x.n*x.m else if i=1 then x.m*x.k else x.n*x.k
def okProd (x:Sch) (q:List Int):Bool:=okForm x.p (pl x 0) (seg q 0)&&okForm x.p (pl x 1) (seg q 1)&&okForm x.p (pl x 2) (seg q 2)&&!hasZ q
theorem s_l01Product {x:Sch} {v:Value} {q:List Int} {h:AH} {Q:Value→AH→Prop} (hv:isOne v=true) (z:SZ x) (hq:By 27 q) (hQ:∀ h',h<+:h'→Q (.bool (okProd x q)) h') :
  WF S 67 [schV x v,aggV .u8 q] h Q:=by
 refine WF_fn (fn:=c67) rfl rfl ?_
 dsimp only[c67,oO,oM,oS,oG,oK,oE,oL,oF,oX,oN]
 have s0:q.take 9=seg q 0:=by unfold seg;simp
 have s1:(q.drop 9).take 9=seg q 1:=rfl
 have s2:(q.drop 18).take 9=seg q 2:=rfl
 try simp (maxSteps:=3000000) (disch:=first|omega|simp only[lnx];omega) only[↓xpre,xpost,↓reduceIte,reduceEqDiff,reduceAdd,reduceSub,reduceLeDiff,zz0,schV,hv,aggV,cel_all]
 generalize hH1:AH.new h _=H1
 obtain⟨hb1,p1,n1⟩:=new_facts hH1
 generalize hH2:AH.new H1 _=H2
 obtain⟨hb2,p2,n2⟩:=new_facts hH2
 have hb1:=pre_get p2 hb1
 try simp (maxSteps:=3000000) (disch:=first|omega|simp only[lnx];omega) only[↓xpre,xpost,↓reduceIte,reduceEqDiff,reduceAdd,reduceSub,reduceLeDiff,zz0,rdn_of hb1]
 refine s_l01Lengths hv z fun H3 p3=>?_
 have hb1:=pre_get p3 hb1
 have hb2:=pre_get p3 hb2
 try simp (maxSteps:=3000000) (disch:=first|omega|simp only[lnx];omega) only[↓xpre,xpost,↓reduceIte,reduceEqDiff,reduceAdd,reduceSub,reduceLeDiff,zz0,rd1_of hb1,rdn_of hb2,cel_len,hq.1,cel_take,cel_drop,List.drop_zero,s0,s1,s2]
 refine s_l01Form (hq.seg (by omega)) fun H4 p4=>?_
 have hb1:=pre_get p4 hb1
 have hb2:=pre_get p4 hb2
 unfold okProd hasZ at hQ
 have e0:pl x 0=x.n*x.m:=rfl
 have e1:pl x 1=x.m*x.k:=rfl
 have e2:pl x 2=x.n*x.k:=rfl
 rw[e0,e1,e2] at hQ
 have ph:=(p1.trans p2).trans (p3.trans p4)
 cases c0:okForm x.p (x.n*x.m) (seg q 0) with
 | false=>
  try simp (maxSteps:=3000000) (disch:=first|omega|simp only[lnx];omega) only[↓xpre,xpost,↓reduceIte,reduceEqDiff,reduceAdd,reduceSub,reduceLeDiff,zz0,WG_un]
  have:=hQ _ ph
  rw[c0] at this
  exact this
 | true=>
  rw[c0] at hQ
  try simp (maxSteps:=3000000) (disch:=first|omega|simp only[lnx];omega) only[↓xpre,xpost,↓reduceIte,reduceEqDiff,reduceAdd,reduceSub,reduceLeDiff,zz0,rd1_of hb1,rdn_of hb2,cel_len,hq.1,cel_take,cel_drop,s0,s1,s2]
  refine s_l01Form (hq.seg (by omega)) fun H5 p5=>?_
  have hb1:=pre_get p5 hb1
  have hb2:=pre_get p5 hb2
  have ph:=ph.trans p5
  cases c1:okForm x.p (x.m*x.k) (seg q 1) with
  | false=>
   try simp (maxSteps:=3000000) (disch:=first|omega|simp only[lnx];omega) only[↓xpre,xpost,↓reduceIte,reduceEqDiff,reduceAdd,reduceSub,reduceLeDiff,zz0,WG_un]
   have:=hQ _ ph
   rw[c1] at this
   exact this
  | true=>
   rw[c1] at hQ
   try simp (maxSteps:=3000000) (disch:=first|omega|simp only[lnx];omega) only[↓xpre,xpost,↓reduceIte,reduceEqDiff,reduceAdd,reduceSub,reduceLeDiff,zz0,rd1_of hb1,rdn_of hb2,cel_len,hq.1,cel_take,cel_drop,s0,s1,s2]
   refine s_l01Form (hq.seg (by omega)) fun H6 p6=>?_
   have hb1:=pre_get p6 hb1
   have hb2:=pre_get p6 hb2
   have ph:=ph.trans p6
   cases c2:okForm x.p (x.n*x.k) (seg q 2) with
   | false=>
    try simp (maxSteps:=3000000) (disch:=first|omega|simp only[lnx];omega) only[↓xpre,xpost,↓reduceIte,reduceEqDiff,reduceAdd,reduceSub,reduceLeDiff,zz0,WG_un]
    have:=hQ _ ph
    rw[c2] at this
    exact this
   | true=>
    rw[c2] at hQ
    try simp (maxSteps:=3000000) (disch:=first|omega|simp only[lnx];omega) only[↓xpre,xpost,↓reduceIte,reduceEqDiff,reduceAdd,reduceSub,reduceLeDiff,zz0,rdn_of hb2,cel_len,hq.1,cel_take,cel_drop,List.drop_zero,s0,s1,s2]
    refine s_l01Zero (hq.seg (by omega)).1 fun H7 p7=>?_
    have hb2:=pre_get p7 hb2
    have ph:=ph.trans p7
    cases d0:isZ (seg q 0) with
    | true=>
     try simp (maxSteps:=3000000) (disch:=first|omega|simp only[lnx];omega) only[↓xpre,xpost,↓reduceIte,reduceEqDiff,reduceAdd,reduceSub,reduceLeDiff,zz0,WG_un]
     have:=hQ _ ph
     rw[d0] at this
     exact this
    | false=>
     rw[d0] at hQ
     try simp (maxSteps:=3000000) (disch:=first|omega|simp only[lnx];omega) only[↓xpre,xpost,↓reduceIte,reduceEqDiff,reduceAdd,reduceSub,reduceLeDiff,zz0,rdn_of hb2,cel_len,hq.1,cel_take,cel_drop,s0,s1,s2]
     refine s_l01Zero (hq.seg (by omega)).1 fun H8 p8=>?_
     have hb2:=pre_get p8 hb2
     have ph:=ph.trans p8
     cases d1:isZ (seg q 1) with
     | true=>
      try simp (maxSteps:=3000000) (disch:=first|omega|simp only[lnx];omega) only[↓xpre,xpost,↓reduceIte,reduceEqDiff,reduceAdd,reduceSub,reduceLeDiff,zz0,WG_un]
      have:=hQ _ ph
      rw[d1] at this
      exact this
     | false=>
      rw[d1] at hQ
      try simp (maxSteps:=3000000) (disch:=first|omega|simp only[lnx];omega) only[↓xpre,xpost,↓reduceIte,reduceEqDiff,reduceAdd,reduceSub,reduceLeDiff,zz0,rdn_of hb2,cel_len,hq.1,cel_take,cel_drop,s0,s1,s2]
      refine s_l01Zero (hq.seg (by omega)).1 fun H9 p9=>?_
      have ph:=ph.trans p9
      try simp (maxSteps:=3000000) (disch:=first|omega|simp only[lnx];omega) only[↓xpre,xpost,↓reduceIte,reduceEqDiff,reduceAdd,reduceSub,reduceLeDiff,zz0]
      exact hQ _ ph
theorem i_factors {q:List Int} {h:AH} {Q:Value→AH→Prop} (hq:q.length=27) (hQ:∀ h',h<+:h'→Q (aggV .u8 q) h'):WF S 44 [aggV .u8 q] h Q:=by
 refine WF_fn (fn:=c44) rfl rfl ?_
 dsimp only[c44,oO,oM,oS,oG,oK,oE,oL,oF,oX,oN]
 have z27:(List.replicate 27 (0:Int)).length=27:=by simp
 have a1:(q.take 9).length=9:=by simp;omega
 have a2:((q.drop 9).take 9).length=9:=by simp;omega
 have a3:((q.drop 18).take 9).length=9:=by simp;omega
 have fl:fillL ([.int .u8 0,.int .u8 0,.int .u8 0,.int .u8 0,.int .u8 0,.int .u8 0,.int .u8 0,.int .u8 0,.int .u8 0,.int .u8 0,.int .u8 0,.int .u8 0,.int .u8 0,.int .u8 0,.int .u8 0,.int .u8 0,.int .u8 0,.int .u8 0,.int .u8 0,.int .u8 0,.int .u8 0,.int .u8 0,.int .u8 0,.int .u8 0,.int .u8 0,.int .u8 0,.int .u8 0]) [(0,9,.agg (cel .u8 (q.take 9)).toArray),(9,9,.agg (cel .u8 ((q.drop 9).take 9)).toArray),(18,9,.agg (cel .u8 ((q.drop 18).take 9)).toArray)]=some (cel .u8 q):=by
  have f0:List.replicate 27 0=fillN q 0:=by rw[fillN_zero,hq]
  have f3:fillN q 27=q:=by have:=fillN_all (ns:=q);rw[hq] at this;exact this
  have s1:=cel_fill (k:=.u8) (q:=q) (i:=0) (n:=9) (by omega)
  have s2:=cel_fill (k:=.u8) (q:=q) (i:=9) (n:=9) (by omega)
  have s3:=cel_fill (k:=.u8) (q:=q) (i:=18) (n:=9) (by omega)
  rw[List.drop_zero,←f0] at s1
  rw[f3] at s3
  have fl:∀ i,i≤27→(fillN q i).length=27:=fun i hi=>by rw[fillN_len (by omega),hq]
  rw[zeros27]
  simp only[fillL,cellsL_cel,cel_len,a1,a2,a3,z27,fl 9 (by omega),fl 18 (by omega),s1,s2,s3,cel_all,and_self,if_true,Nat.reduceAdd,Nat.reduceLeDiff,Nat.zero_add]
 have tk:q.take 27=q:=List.take_of_length_le (by omega)
 have w1:∀ (h1:AH) (e:TypeId),(h1.new ⟨[.int .u8 0,.int .u8 0,.int .u8 0,.int .u8 0,.int .u8 0,.int .u8 0,.int .u8 0,.int .u8 0,.int .u8 0,.int .u8 0,.int .u8 0,.int .u8 0,.int .u8 0,.int .u8 0,.int .u8 0,.int .u8 0,.int .u8 0,.int .u8 0,.int .u8 0,.int .u8 0,.int .u8 0,.int .u8 0,.int .u8 0,.int .u8 0,.int .u8 0,.int .u8 0,.int .u8 0],e,false,true⟩).wr h1.length 0 (cel .u8 q)=some (h1.new ⟨cel .u8 q,e,false,true⟩):=fun h1 e=>wr_all (by rw[cel_len,hq];rfl)
 try simp (maxSteps:=3000000) (disch:=first|omega|simp only[lnx];omega) only[↓xpre,xpost,↓reduceIte,reduceEqDiff,reduceAdd,reduceSub,reduceLeDiff,zz0,aggV,cel_all,cel_len,hq,cel_take,cel_drop,List.drop_zero,fl,↓w1,tk]
 exact hQ _ (pre_new (pre_new (List.prefix_refl _)))
theorem pl_get {x:Sch} {i:Nat} (hi:i<3):([I64 (x.n*x.m),I64 (x.m*x.k),I64 (x.n*x.k)]:List Value)[i]?=some (I64 (pl x i)):=by
 have:i=0∨i=1∨i=2:=by omega
 rcases this with rfl|rfl|rfl<;>rfl
theorem i_isProduct {x:Sch} {q:List Int} {h:AH} {Q:Value→AH→Prop} (z:SZ x) (hq:By 27 q) (hQ:∀ h',h<+:h'→Q (.bool (okProd x q)) h') :
  WF S 70 [I64 x.p,.agg #[I64 (x.n*x.m),I64 (x.m*x.k),I64 (x.n*x.k)],aggV .u8 q] h Q:=by
 refine WF_fn (fn:=c70) rfl rfl ?_
 dsimp only[c70,oO,oM,oS,oG,oK,oE,oL,oF,oX,oN]
 try simp (maxSteps:=3000000) (disch:=first|omega|simp only[lnx];omega) only[↓xpre,xpost,↓reduceIte,reduceEqDiff,reduceAdd,reduceSub,reduceLeDiff,zz0,aggV,cel_all]
 generalize hH1:AH.new h _=H1
 obtain⟨hb1,p1,n1⟩:=new_facts hH1
 generalize hH2:AH.new H1 _=H2
 obtain⟨hb2,p2,n2⟩:=new_facts hH2
 have hb1:=pre_get p2 hb1
 have tk:q.take 27=q:=List.take_of_length_le (by rw[hq.1];exact Nat.le_refl _)
 try simp (maxSteps:=3000000) (disch:=first|omega|simp only[lnx];omega) only[↓xpre,xpost,↓reduceIte,reduceEqDiff,reduceAdd,reduceSub,reduceLeDiff,zz0,rdn_of hb2,cel_len,hq.1,cel_take,tk]
 refine i_factors hq.1 fun H3 p3=>?_
 try simp (maxSteps:=3000000) (disch:=first|omega|simp only[lnx];omega) only[↓xpre,xpost,↓reduceIte,reduceEqDiff,reduceAdd,reduceSub,reduceLeDiff,zz0]
 refine WC_loop_inv (fun m f K1=>∃ (i:Nat),m=3-i∧i≤3∧f 0=I64 x.p∧f 4=.pointer (some ⟨h.length,0,none⟩)∧f 5=.pointer (some ⟨H1.length,0,none⟩)∧f 10=aggV .u8 q∧f 11=I64 i∧(H3<+:K1)∧(∀ j,j<i→okForm x.p (pl x j) (seg q j)=true)) ?_ (3-0) _ _ ⟨0,rfl,by omega,(by first|rfl|simp[upd_apply]),(by first|rfl|simp[upd_apply]),(by first|rfl|simp[upd_apply]),(by first|rfl|simp[upd_apply]),(by first|rfl|simp[upd_apply]),List.prefix_refl _,(by omega)⟩
 rintro m f K1 ⟨i,rfl,hi,f0,f4,f5,f10,f11,pp,hj⟩
 have hb1:=pre_get (p3.trans pp) hb1
 have hb2:=pre_get (p3.trans pp) hb2
 by_cases hlt:(i:Int)<3
 ·have hi':i<3:=by omega
  have e1:idxnV 3 9 (aggV .u8 q) (I64 i)=some (.agg (cel .u8 (seg q i)).toArray):=by
   simp only[idxnV,aggV,toL,Int.toNat_natCast,cel_len,hq.1]
   rw[if_pos ⟨by omega,by omega,by omega⟩]
   simp only[cel_drop,cel_take]
   rfl
  have sl:=(hq.seg hi').1
  have w1:∀ (h1:AH) (e:TypeId),(h1.new ⟨[.int .u8 0,.int .u8 0,.int .u8 0,.int .u8 0,.int .u8 0,.int .u8 0,.int .u8 0,.int .u8 0,.int .u8 0],e,false,true⟩).wr h1.length 0 (cel .u8 (seg q i))=some (h1.new ⟨cel .u8 (seg q i),e,false,true⟩):=fun h1 e=>wr_all (by rw[cel_len,sl];rfl)
  have ts:(seg q i).take 9=seg q i:=List.take_of_length_le (by omega)
  have lt1:=get_lt hb1
  try simp (maxSteps:=3000000) (disch:=first|omega|simp only[lnx];omega) only[↓xpre,xpost,↓reduceIte,reduceEqDiff,reduceAdd,reduceSub,reduceLeDiff,zz0,f0,f4,f5,f10,f11,decide_eq_true hlt,↓WX_idxn,e1,cel_all,cel_len,sl,↓w1,↓WX_ixa,ixaV_ptr,Int.toNat_natCast,Nat.mul_one,rd1_of hb1,pl_get hi',cel_take,ts]
  refine i_isForm (hq.seg hi') fun H4 p4=>?_
  cases c0:okForm x.p (pl x i) (seg q i) with
  | false=>
   try simp (maxSteps:=3000000) (disch:=first|omega|simp only[lnx];omega) only[↓xpre,xpost,↓reduceIte,reduceEqDiff,reduceAdd,reduceSub,reduceLeDiff,zz0,f0,f4,f5,f10,f11]
   have:=hQ _ ((p1.trans p2).trans ((p3.trans pp).trans ((pre_new (List.prefix_refl _)).trans p4)))
   have e2:okProd x q=false:=by
    unfold okProd
    have:i=0∨i=1∨i=2:=by omega
    rcases this with rfl|rfl|rfl<;>simp[c0]
   rw[e2] at this
   exact this
  | true=>
   try simp (maxSteps:=3000000) (disch:=first|omega|simp only[lnx];omega) only[↓xpre,xpost,↓reduceIte,reduceEqDiff,reduceAdd,reduceSub,reduceLeDiff,zz0,f0,f4,f5,f10,f11,wrap64_in]
   refine InvQ_go (3-(i+1)) (by omega) ⟨(i+1),rfl,by omega,(by first|rfl|exact f0|(simp only[upd_apply];rfl)|(show I64 _=_;congr 1;omega)),(by first|rfl|exact f4|(simp only[upd_apply];rfl)|(show I64 _=_;congr 1;omega)),(by first|rfl|exact f5|(simp only[upd_apply];rfl)|(show I64 _=_;congr 1;omega)),(by first|rfl|exact f10|(simp only[upd_apply];rfl)|(show I64 _=_;congr 1;omega)),(by first|rfl|exact f11|(simp only[upd_apply];rfl)|(show I64 _=_;congr 1;omega)),(pp.trans ((pre_new (List.prefix_refl _)).trans p4)),(step_all hj c0)⟩
 ·try simp (maxSteps:=3000000) (disch:=first|omega|simp only[lnx];omega) only[↓xpre,xpost,↓reduceIte,reduceEqDiff,reduceAdd,reduceSub,reduceLeDiff,zz0,f0,f4,f5,f10,f11,decide_eq_false hlt,rdn_of hb2,cel_len,hq.1,cel_take,tk]
  refine i_hasZero hq fun H4 p4=>?_
  try simp (maxSteps:=3000000) (disch:=first|omega|simp only[lnx];omega) only[↓xpre,xpost,↓reduceIte,reduceEqDiff,reduceAdd,reduceSub,reduceLeDiff,zz0,f0,f4,f5,f10,f11]
  have:=hQ _ ((p1.trans p2).trans ((p3.trans pp).trans p4))
  have e2:okProd x q=!hasZ q:=by
   unfold okProd
   rw[hj 0 (by omega),hj 1 (by omega),hj 2 (by omega)]
   simp
  rw[e2] at this
  exact this
def isX (x:Sch):Bool:=szX x&&decide (x.ps.length≤30)&&x.ps.all (okProd x)
theorem Prods.by {h:AH} {v:Value} {L:List (List Int)} (hv:Prods h v L) {i:Nat} (hi:i<L.length):By 27 (L.getD i []):=⟨hv.1.wid hi,hv.2 i hi⟩
theorem all_getD {α:Type} {d:α} {f:α→Bool} {L:List α} (h:∀ j,j<L.length→f (L.getD j d)=true):L.all f=true:=by
 rw[List.all_eq_true]
 intro x hx
 obtain⟨j,hj,rfl⟩:=List.mem_iff_getElem.1 hx
 have:=h j hj
 rw[List.getD_eq_getElem?_getD,List.getElem?_eq_getElem hj] at this
 exact this
theorem all_getD_f {α:Type} {d:α} {f:α→Bool} {L:List α} {j:Nat} (hj:j<L.length) (h:f (L.getD j d)=false):L.all f=false:=by
 rw[List.all_eq_false]
 refine⟨L.getD j d,?_,by rw[h];simp⟩
 rw[List.getD_eq_getElem?_getD,List.getElem?_eq_getElem hj]
 exact List.getElem_mem hj
theorem s_l01Is {v:Value} {x:Sch} {h:AH} {Q:Value→AH→Prop} (hv:Prods h v x.ps) (hl:SmallX x.ps) (hQ:∀ h',h<+:h'→Q (.bool (isX x)) h'):WF S 25 [schV x v] h Q:=by
 refine WF_fn (fn:=c25) rfl rfl ?_
 dsimp only[c25,oO,oM,oS,oG,oK,oE,oL,oF,oX,oN]
 unfold SmallX at hl
 try simp (maxSteps:=3000000) (disch:=first|omega|simp only[lnx];omega) only[↓xpre,xpost,↓reduceIte,reduceEqDiff,reduceAdd,reduceSub,reduceLeDiff,zz0,schV,hv.one]
 generalize hH1:AH.new h _=H1
 obtain⟨hb1,p1,n1⟩:=new_facts hH1
 try simp (maxSteps:=3000000) (disch:=first|omega|simp only[lnx];omega) only[↓xpre,xpost,↓reduceIte,reduceEqDiff,reduceAdd,reduceSub,reduceLeDiff,zz0,rd1_of hb1]
 refine s_l01Sizes ?_
 have hQ1:=hQ _ p1
 unfold isX at hQ hQ1
 have e0:(isP x.p&&sz x.n&&sz x.m&&sz x.k)=szX x:=rfl
 rw[e0]
 cases c0:szX x with
 | false=>
  try simp (maxSteps:=3000000) (disch:=first|omega|simp only[lnx];omega) only[↓xpre,xpost,↓reduceIte,reduceEqDiff,reduceAdd,reduceSub,reduceLeDiff,zz0,WG_un]
  rw[c0] at hQ1
  exact hQ1
 | true=>
  rw[c0] at hQ hQ1
  have z:=szX_facts c0
  by_cases c1:(30:Int)<x.ps.length
  ·try simp (maxSteps:=3000000) (disch:=first|omega|simp only[lnx];omega) only[↓xpre,xpost,↓reduceIte,reduceEqDiff,reduceAdd,reduceSub,reduceLeDiff,zz0,rd1_of hb1,(hv.pre p1).1.len,decide_eq_true c1]
   rw[decide_eq_false (show ¬ x.ps.length≤30 by omega)] at hQ1
   exact hQ1
  rw[decide_eq_true (show x.ps.length≤30 by omega)] at hQ
  try simp (maxSteps:=3000000) (disch:=first|omega|simp only[lnx];omega) only[↓xpre,xpost,↓reduceIte,reduceEqDiff,reduceAdd,reduceSub,reduceLeDiff,zz0,rd1_of hb1,(hv.pre p1).1.len,decide_eq_false c1]
  refine WC_loop_inv (fun m f K1=>∃ (i:Nat),m=x.ps.length-i∧i≤x.ps.length∧f 1=.pointer (some ⟨h.length,0,none⟩)∧f 3=I64 i∧(H1<+:K1)∧(∀ j,j<i→okProd x (x.ps.getD j [])=true)) ?_ (x.ps.length-0) _ _ ⟨0,rfl,by omega,(by first|rfl|simp[upd_apply]),(by first|rfl|simp[upd_apply]),List.prefix_refl _,(by omega)⟩
  rintro m f K1 ⟨i,rfl,hi,f1,f3,pp,hj⟩
  have hb1:=pre_get pp hb1
  have hvK:=hv.pre (p1.trans pp)
  try simp (maxSteps:=3000000) (disch:=first|omega|simp only[lnx];omega) only[↓xpre,xpost,↓reduceIte,reduceEqDiff,reduceAdd,reduceSub,reduceLeDiff,zz0,f1,f3,rd1_of hb1,hvK.1.len,IfW_dec]
  refine⟨fun hlt=>?_,fun hge=>?_⟩
  ·have hi':i<x.ps.length:=by omega
   obtain⟨n,off,hix,hrn,hr1⟩:=hvK.1.at hi'
   have r27:=hrn 0 27 (by omega)
   rw[List.drop_zero,List.take_of_length_le (by rw[hvK.1.wid hi'];exact Nat.le_refl _),Nat.add_zero] at r27
   try simp (maxSteps:=3000000) (disch:=first|omega|simp only[lnx];omega) only[↓xpre,xpost,↓reduceIte,reduceEqDiff,reduceAdd,reduceSub,reduceLeDiff,zz0,f1,f3,rdn_of hb1,rd1_of hb1,hix,r27]
   refine s_l01Product hvK.one z (hvK.by hi') fun H2 p2=>?_
   cases c2:okProd x (x.ps.getD i []) with
   | false=>
    try simp (maxSteps:=3000000) (disch:=first|omega|simp only[lnx];omega) only[↓xpre,xpost,↓reduceIte,reduceEqDiff,reduceAdd,reduceSub,reduceLeDiff,zz0,f1,f3]
    have:=hQ _ ((p1.trans pp).trans p2)
    rw[all_getD_f hi' c2] at this
    exact this
   | true=>
    try simp (maxSteps:=3000000) (disch:=first|omega|simp only[lnx];omega) only[↓xpre,xpost,↓reduceIte,reduceEqDiff,reduceAdd,reduceSub,reduceLeDiff,zz0,f1,f3,wrap64_in]
    refine InvQ_go (x.ps.length-(i+1)) (by omega) ⟨(i+1),rfl,by omega,(by first|rfl|exact f1|(simp only[upd_apply];rfl)|(show I64 _=_;congr 1;omega)),(by first|rfl|exact f3|(simp only[upd_apply];rfl)|(show I64 _=_;congr 1;omega)),(pp.trans p2),(step_all hj c2)⟩
  ·try simp (maxSteps:=3000000) (disch:=first|omega|simp only[lnx];omega) only[↓xpre,xpost,↓reduceIte,reduceEqDiff,reduceAdd,reduceSub,reduceLeDiff,zz0,f1,f3]
   have:=hQ _ (p1.trans pp)
   rw[all_getD (d:=[]) fun j hj'=>hj j (by omega)] at this
   exact this
theorem i_IsScheme {v:Value} {x:Sch} {h:AH} {Q:Value→AH→Prop} (hv:Prods h v x.ps) (hl:SmallX x.ps) (hQ:∀ h',h<+:h'→Q (.bool (isX x)) h'):WF S 27 [schV x v] h Q:=by
 refine WF_fn (fn:=c27) rfl rfl ?_
 dsimp only[c27,oO,oM,oS,oG,oK,oE,oL,oF,oX,oN]
 unfold SmallX at hl
 try simp (maxSteps:=3000000) (disch:=first|omega|simp only[lnx];omega) only[↓xpre,xpost,↓reduceIte,reduceEqDiff,reduceAdd,reduceSub,reduceLeDiff,zz0,schV,hv.one]
 generalize hH1:AH.new h _=H1
 obtain⟨hb1,p1,n1⟩:=new_facts hH1
 try simp (maxSteps:=3000000) (disch:=first|omega|simp only[lnx];omega) only[↓xpre,xpost,↓reduceIte,reduceEqDiff,reduceAdd,reduceSub,reduceLeDiff,zz0,rd1_of hb1]
 refine i_isPrime ?_
 have hQ1:=hQ _ p1
 unfold isX at hQ hQ1
 cases c0:isP x.p with
 | false=>
  try simp (maxSteps:=3000000) (disch:=first|omega|simp only[lnx];omega) only[↓xpre,xpost,↓reduceIte,reduceEqDiff,reduceAdd,reduceSub,reduceLeDiff,zz0,WG_un]
  have:szX x=false:=by unfold szX;rw[c0];rfl
  rw[this] at hQ1
  exact hQ1
 | true=>
  try simp (maxSteps:=3000000) (disch:=first|omega|simp only[lnx];omega) only[↓xpre,xpost,↓reduceIte,reduceEqDiff,reduceAdd,reduceSub,reduceLeDiff,zz0,rd1_of hb1,fillL,zrep]
  generalize hH2:AH.new H1 _=H2
  obtain⟨hb2,p2,n2⟩:=new_facts hH2
  have hb1:=pre_get p2 hb1
  refine i_isSize (ns:=[x.n,x.m,x.k]) (Ints.own (ns:=[x.n,x.m,x.k]) hb2 rfl) (by simp) ?_
  have e0:([x.n,x.m,x.k]:List Int).all sz=szX x:=by unfold szX;rw[c0];simp[Bool.and_assoc]
  rw[e0]
  have hQ2:=hQ _ (p1.trans p2)
  cases c1:szX x with
  | false=>
   try simp (maxSteps:=3000000) (disch:=first|omega|simp only[lnx];omega) only[↓xpre,xpost,↓reduceIte,reduceEqDiff,reduceAdd,reduceSub,reduceLeDiff,zz0,WG_un]
   rw[c1] at hQ2
   exact hQ2
  | true=>
   rw[c1] at hQ hQ2
   have z:=szX_facts c1
   by_cases c2:(30:Int)<x.ps.length
   ·try simp (maxSteps:=3000000) (disch:=first|omega|simp only[lnx];omega) only[↓xpre,xpost,↓reduceIte,reduceEqDiff,reduceAdd,reduceSub,reduceLeDiff,zz0,rd1_of hb1,(hv.pre (p1.trans p2)).1.len,decide_eq_true c2]
    rw[decide_eq_false (show ¬ x.ps.length≤30 by omega)] at hQ2
    exact hQ2
   rw[decide_eq_true (show x.ps.length≤30 by omega)] at hQ
   try simp (maxSteps:=3000000) (disch:=first|omega|simp only[lnx];omega) only[↓xpre,xpost,↓reduceIte,reduceEqDiff,reduceAdd,reduceSub,reduceLeDiff,zz0,rd1_of hb1,(hv.pre (p1.trans p2)).1.len,decide_eq_false c2]
   refine WC_loop_inv (fun m f K1=>∃ (i:Nat),m=x.ps.length-i∧i≤x.ps.length∧f 1=.pointer (some ⟨h.length,0,none⟩)∧f 27=v∧f 28=I64 x.ps.length∧f 29=I64 i∧(H2<+:K1)∧(∀ j,j<i→okProd x (x.ps.getD j [])=true)) ?_ (x.ps.length-0) _ _ ⟨0,rfl,by omega,(by first|rfl|simp[upd_apply]),(by first|rfl|simp[upd_apply]),(by first|rfl|simp[upd_apply]),(by first|rfl|simp[upd_apply]),List.prefix_refl _,(by omega)⟩
   rintro m f K1 ⟨i,rfl,hi,f1,f27,f28,f29,pp,hj⟩
   have hb1:=pre_get pp hb1
   have hvK:=hv.pre ((p1.trans p2).trans pp)
   by_cases hlt:(i:Int)<x.ps.length
   ·have hi':i<x.ps.length:=by omega
    obtain⟨n,off,hix,hrn,hr1⟩:=hvK.1.at hi'
    have r27:=hrn 0 27 (by omega)
    have wi:=hvK.1.wid hi'
    have tk:(x.ps.getD i []).take 27=x.ps.getD i []:=List.take_of_length_le (by omega)
    rw[List.drop_zero,tk,Nat.add_zero] at r27
    have w1:∀ (h1:AH) (e:TypeId),(h1.new ⟨[.int .u8 0,.int .u8 0,.int .u8 0,.int .u8 0,.int .u8 0,.int .u8 0,.int .u8 0,.int .u8 0,.int .u8 0,.int .u8 0,.int .u8 0,.int .u8 0,.int .u8 0,.int .u8 0,.int .u8 0,.int .u8 0,.int .u8 0,.int .u8 0,.int .u8 0,.int .u8 0,.int .u8 0,.int .u8 0,.int .u8 0,.int .u8 0,.int .u8 0,.int .u8 0,.int .u8 0],e,false,true⟩).wr h1.length 0 (cel .u8 (x.ps.getD i []))=some (h1.new ⟨cel .u8 (x.ps.getD i []),e,false,true⟩):=fun h1 e=>wr_all (by rw[cel_len,wi];rfl)
    try simp (maxSteps:=3000000) (disch:=first|omega|simp only[lnx];omega) only[↓xpre,xpost,↓reduceIte,reduceEqDiff,reduceAdd,reduceSub,reduceLeDiff,zz0,f1,f27,f28,f29,decide_eq_true hlt,hix,r27,cel_all,cel_len,wi,↓w1]
    generalize hH3:AH.new K1 _=H3
    obtain⟨hb3,p3,n3⟩:=new_facts hH3
    have hb1:=pre_get p3 hb1
    try simp (maxSteps:=3000000) (disch:=first|omega|simp only[lnx];omega) only[↓xpre,xpost,↓reduceIte,reduceEqDiff,reduceAdd,reduceSub,reduceLeDiff,zz0,f1,f27,f28,f29,rd1_of hb1,rdn_of hb1]
    refine i_placesOf hvK.one z fun H4 p4=>?_
    have hb1:=pre_get p4 hb1
    have hb3:=pre_get p4 hb3
    try simp (maxSteps:=3000000) (disch:=first|omega|simp only[lnx];omega) only[↓xpre,xpost,↓reduceIte,reduceEqDiff,reduceAdd,reduceSub,reduceLeDiff,zz0,f1,f27,f28,f29,rdn_of hb3,cel_len,wi,cel_take,tk]
    refine⟨p4,?_⟩
    refine i_isProduct z (hvK.by hi') fun H5 p5=>?_
    cases c3:okProd x (x.ps.getD i []) with
    | false=>
     try simp (maxSteps:=3000000) (disch:=first|omega|simp only[lnx];omega) only[↓xpre,xpost,↓reduceIte,reduceEqDiff,reduceAdd,reduceSub,reduceLeDiff,zz0,f1,f27,f28,f29]
     have:=hQ _ (((p1.trans p2).trans pp).trans ((p3.trans p4).trans p5))
     rw[all_getD_f hi' c3] at this
     exact this
    | true=>
     try simp (maxSteps:=3000000) (disch:=first|omega|simp only[lnx];omega) only[↓xpre,xpost,↓reduceIte,reduceEqDiff,reduceAdd,reduceSub,reduceLeDiff,zz0,f1,f27,f28,f29,wrap64_in]
     refine InvQ_go (x.ps.length-(i+1)) (by omega) ⟨(i+1),rfl,by omega,(by first|rfl|exact f1|(simp only[upd_apply];rfl)|(show I64 _=_;congr 1;omega)),(by first|rfl|exact f27|(simp only[upd_apply];rfl)|(show I64 _=_;congr 1;omega)),(by first|rfl|exact f28|(simp only[upd_apply];rfl)|(show I64 _=_;congr 1;omega)),(by first|rfl|exact f29|(simp only[upd_apply];rfl)|(show I64 _=_;congr 1;omega)),(pp.trans ((p3.trans p4).trans p5)),(step_all hj c3)⟩
   ·try simp (maxSteps:=3000000) (disch:=first|omega|simp only[lnx];omega) only[↓xpre,xpost,↓reduceIte,reduceEqDiff,reduceAdd,reduceSub,reduceLeDiff,zz0,f1,f27,f28,f29,decide_eq_false hlt]
    have:=hQ _ ((p1.trans p2).trans pp)
    rw[all_getD (d:=[]) fun j hj'=>hj j (by omega)] at this
    exact this
end Go.Proofs.YtigpfopobpoamaaGreat.X

set_option linter.unusedVariables false
set_option linter.unusedSimpArgs false
set_option maxRecDepth 20000
set_option maxHeartbeats 4000000
namespace Go.Proofs.YtigpfopobpoamaaGreat.X
open Go Go.RowKit
def bs:Nat→(Nat→Bool)→Nat
 | 0,_=>0
 | R+1,f=>bs R f+(if f R=true then 2^R else 0)
section
variable {R:Nat} {f g:Nat→Bool}
end
end Go.Proofs.YtigpfopobpoamaaGreat.X
