/- Texts of one claim, put together by merge.py: XMB, XP5, XU6, XU7, XW2, XW3, XW4, XM4, XDP, XMC, XBH, XBI, XBJ, XBK, XBL, XS8, XS9, XS10, XS11, XS12, XS13, XS14, XS15, XM7, XDS, XM8, XZ9, XDT. -/
import Derived.Test.YtapafdpnmakekaaTO13
import Derived.Test.YtapafdpnmakekaaTO8
import Derived.Test.YtapafdpnmakekaaTO11
import Derived.Test.YtapafdpnmakekaaTO10
import Derived.Test.YtapafdpnmakekaaTO9
import Derived.Test.YtapafdpnmakekaaTO12
set_option linter.unusedVariables false
set_option linter.unusedSimpArgs false
set_option maxRecDepth 20000
set_option maxHeartbeats 4000000
namespace Go.Proofs.Ytapafdpnmakekaa.X
open Go Go.RowKit
def rmv (L:List (List Int)) (k:Nat):List (List Int):=L.take k++L.drop (k+1)
section
variable {L R:List (List Int)} {q r m:List Int} {a b c i k:Nat} {p:Int} {x:Sch}
theorem rmv_len (hk:k<L.length):(rmv L k).length=L.length-1:=by
 unfold rmv
 rw[List.length_append,List.length_take,List.length_drop]
 omega
theorem rmv_at (hi:i<k):(rmv L k).getD i []=L.getD i []:=by
 by_cases h:i<L.length
 ·unfold rmv
  rw[getD_app_l (by rw[List.length_take];omega),List.getD_eq_getElem?_getD,List.getElem?_take_of_lt hi,←List.getD_eq_getElem?_getD]
 ·unfold rmv
  rw[List.take_of_length_le (by omega),List.drop_of_length_le (by omega),List.append_nil]
theorem rmv_mem (h:q∈rmv L k):q∈L:=by
 unfold rmv at h
 rcases List.mem_append.1 h with h|h
 ·exact List.mem_of_mem_take h
 ·exact List.mem_of_mem_drop h
theorem split_at (hk:k<L.length):L=L.take k++L.getD k []::L.drop (k+1):=by
 rw[List.getD_eq_getElem?_getD,List.getElem?_eq_getElem hk,Option.getD_some,←List.drop_eq_getElem_cons hk,List.take_append_drop]
theorem rmv_sT (hk:k<L.length):sT (rmv L k) a b c+tm (L.getD k []) a b c=sT L a b c:=by
 have h:=congrArg (fun l=>sT l a b c) (split_at hk)
 simp only[sT_app,sT] at h
 unfold rmv
 rw[sT_app]
 omega
noncomputable def jn (p:Int) (L:List (List Int)) (i k:Nat) (m:List Int):List (List Int):=if hasZ m=true then rmv (rmv L k) i else (rmv L k).set i (nrm p m)
structure IsPair (p:Int) (L:List (List Int)) (i k:Nat) (m:List Int):Prop where
 ik:i<k
 kl:k<L.length
 m:mrg p (L.getD i []) (L.getD k [])=some m
 before:∀ i' k',i'<k'→k'<L.length→(i'<i∨i'=i∧k'<k)→mrg p (L.getD i' []) (L.getD k' [])=none
def NoPair (p:Int) (L:List (List Int)):Prop:=∀ i k,i<k→k<L.length→mrg p (L.getD i []) (L.getD k [])=none
theorem IsPair.uniq {i' k':Nat} {m':List Int} (h:IsPair p L i k m) (g:IsPair p L i' k' m'):i=i'∧k=k'∧m=m':=by
 have e:i=i'∧k=k':=by
  refine Decidable.byContradiction fun hne=>?_
  have:(i<i'∨i=i'∧k<k')∨(i'<i∨i'=i∧k'<k):=by omega
  rcases this with h1|h1
  ·have:=g.before i k h.ik h.kl h1
   rw[h.m] at this
   cases this
  ·have:=h.before i' k' g.ik g.kl h1
   rw[g.m] at this
   cases this
 obtain⟨rfl,rfl⟩:=e
 have:=h.m.symm.trans g.m
 cases this
 exact⟨rfl,rfl,rfl⟩
theorem IsPair.no (h:IsPair p L i k m) (g:NoPair p L):False:=by
 have:=g i k h.ik h.kl
 rw[h.m] at this
 cases this
inductive Red (p:Int):List (List Int)→List (List Int)→Prop
 | stop {L:List (List Int)}:NoPair p L→Red p L L
 | step {L R:List (List Int)} {i k:Nat} {m:List Int}:IsPair p L i k m→Red p (jn p L i k m) R→Red p L R
theorem Red.next (h:Red p L R) (g:IsPair p L i k m):Red p (jn p L i k m) R:=by
 cases h with
 | stop h=>exact (g.no h).elim
 | step h1 h2=>
  obtain⟨rfl,rfl,rfl⟩:=h1.uniq g
  exact h2
theorem Red.end (h:Red p L R) (g:NoPair p L):R=L:=by
 cases h with
 | stop h=>rfl
 | step h1 h2=>exact (h1.no g).elim
theorem jn_len (hk:k<L.length) (hi:i<k):(jn p L i k m).length<L.length:=by
 unfold jn
 split
 ·rw[rmv_len (by rw[rmv_len hk];omega),rmv_len hk]
  omega
 ·rw[List.length_set,rmv_len hk]
  omega
theorem pair_or:NoPair p L∨∃ i k m,IsPair p L i k m:=by
 by_cases h:∃ i k,i<k∧k<L.length∧mrg p (L.getD i []) (L.getD k [])≠none
 ·right
  -- the least i,then the least k
  have key:∀ N i,L.length-i=N→(∀ i' k',i'<i→i'<k'→k'<L.length→mrg p (L.getD i' []) (L.getD k' [])=none)→(∃ i k,i<k∧k<L.length∧mrg p (L.getD i []) (L.getD k [])≠none)→∃ i k m,IsPair p L i k m:=by
   intro N
   induction N with
   | zero=>
    rintro i hN hb ⟨i',k',h1,h2,h3⟩
    exact absurd (hb i' k' (by omega) h1 h2) h3
   | succ N ih=>
    intro i hN hb hex
    have key2:∀ M k,L.length-k=M→i<k→(∀ k',i<k'→k'<k→mrg p (L.getD i []) (L.getD k' [])=none)→(∃ i k m,IsPair p L i k m)∨∀ k',i<k'→k'<L.length→mrg p (L.getD i []) (L.getD k' [])=none:=by
     intro M
     induction M with
     | zero=>exact fun k hM hik hbk=>.inr fun k' h1 h2=>hbk k' h1 (by omega)
     | succ M ih2=>
      intro k hM hik hbk
      cases e:mrg p (L.getD i []) (L.getD k []) with
      | some m=>
       refine .inl ⟨i,k,m,hik,by omega,e,fun i' k' h1 h2 h3=>?_⟩
       rcases h3 with h3|⟨rfl,h3⟩
       ·exact hb i' k' h3 h1 h2
       ·exact hbk k' h1 h3
      | none=>
       refine ih2 (k+1) (by omega) (by omega) fun k' h1 h2=>?_
       by_cases h3:k'=k
       ·rw[h3];exact e
       ·exact hbk k' h1 (by omega)
    rcases key2 _ (i+1) rfl (by omega) (fun k' h1 h2=>by omega) with h1|h1
    ·exact h1
    ·refine ih (i+1) (by omega) (fun i' k' h2 h3 h4=>?_) hex
     by_cases h5:i'=i
     ·rw[h5];exact h1 k' (by omega) h4
     ·exact hb i' k' (by omega) h3 h4
  exact key _ 0 rfl (fun i' k' h1=>by omega) h
 ·left
  intro i k h1 h2
  refine Decidable.byContradiction fun h3=>h ⟨i,k,h1,h2,h3⟩
theorem red_ex:∀ (N:Nat) (L:List (List Int)),L.length≤N→∃ R,Red p L R
 | 0,L,h=>⟨L,.stop fun i k h1 h2=>by omega⟩
 | N+1,L,h=>by
  rcases pair_or (p:=p) (L:=L) with h1|⟨i,k,m,h1⟩
  ·exact⟨L,.stop h1⟩
  ·have:=jn_len (p:=p) (m:=m) h1.kl h1.ik
   obtain⟨R,hR⟩:=red_ex N (jn p L i k m) (by omega)
   exact⟨R,.step h1 hR⟩
noncomputable def redL (p:Int) (L:List (List Int)):List (List Int):=Classical.choose (red_ex (p:=p) L.length L (Nat.le_refl _))
theorem redL_red:Red p L (redL p L):=Classical.choose_spec (red_ex (p:=p) L.length L (Nat.le_refl _))
structure NL (x:Sch) (L:List (List Int)):Prop where
 g:GX (wps x L)
 n:∀ q∈L,Nm q
theorem GX.of {x:Sch} (hs:szX x=true) (hl:L.length≤30) (h:∀ q∈L,By 27 q∧okProd x q=true):GX (wps x L):=by
 have w:Wid 27 L:=fun q hq=>(h q hq).1.1
 refine⟨?_,w,(byt_iff w).2 fun q hq=>(h q hq).1⟩
 unfold isX
 rw[Bool.and_eq_true,Bool.and_eq_true]
 exact⟨⟨hs,decide_eq_true hl⟩,List.all_eq_true.2 fun q hq=>(h q hq).2⟩
theorem isX_parts {x:Sch} (h:isX x=true):szX x=true∧x.ps.length≤30∧∀ q∈x.ps,okProd x q=true:=by
 unfold isX at h
 rw[Bool.and_eq_true,Bool.and_eq_true] at h
 exact⟨h.1.1,of_decide_eq_true h.1.2,List.all_eq_true.1 h.2⟩
theorem GX.parts {x:Sch} (g:GX x):szX x=true∧x.ps.length≤30∧∀ q∈x.ps,By 27 q∧okProd x q=true:=by
 obtain⟨h1,h2,h3⟩:=isX_parts g.ok
 exact⟨h1,h2,fun q hq=>⟨(byt_iff g.w).1 g.b q hq,h3 q hq⟩⟩
theorem GX.pr {x:Sch} (g:GX x) (h:q∈x.ps):Pr x.p q:=by
 obtain⟨h1,h2⟩:=g.parts.2.2 q h
 exact Pr.of h1 h2
theorem szX_isP {x:Sch} (h:szX x=true):isP x.p=true:=by
 unfold szX at h
 simp only[Bool.and_eq_true] at h
 exact h.1.1.1
noncomputable def nrms (p:Int) (L:List (List Int)):List (List Int):=L.map (nrm p)
theorem nrms_sT (hp:isP p=true) (h:∀ q∈L,Pr p q) (ha:a<9) (hb:b<9) (hc:c<9):Cg p (sT (nrms p L) a b c) (sT L a b c):=by
 induction L with
 | nil=>exact .rfl'
 | cons q L ih=>
  show Cg p (tm (nrm p q) a b c+sT (nrms p L) a b c) _
  exact (nrm_tm hp (h q (by simp)) ha hb hc).add (ih fun r hr=>h r (by simp[hr]))
theorem nrms_NL {x:Sch} (g:GX x):NL x (nrms x.p x.ps)∧EqS x (wps x (nrms x.p x.ps)):=by
 obtain⟨h1,h2,h3⟩:=g.parts
 have hp:=szX_isP h1
 refine⟨⟨GX.of h1 (by unfold nrms;rw[List.length_map];exact h2) fun q hq=>?_,fun q hq=>?_⟩,⟨rfl,rfl,rfl,rfl⟩,fun a b c ha hb hc=>(nrms_sT hp (fun q hq=>g.pr hq) ha hb hc).symm⟩
 ·obtain⟨r,hr,rfl⟩:=List.mem_map.1 hq
  exact⟨(nrm_Pr hp (g.pr hr)).bb,nrm_ok hp (h3 r hr).1 (h3 r hr).2⟩
 ·obtain⟨r,hr,rfl⟩:=List.mem_map.1 hq
  exact nrm_Nm hp (g.pr hr)
theorem gd_mem {i:Nat} (hi:i<L.length):L.getD i []∈L:=by
 rw[List.getD_eq_getElem?_getD,List.getElem?_eq_getElem hi]
 exact List.getElem_mem hi
theorem pair_m {x:Sch} (n:NL x L) (h:IsPair x.p L i k m):By 27 m∧(∀ j,j<3→okForm x.p (pl x j) (seg m j)=true)∧(hasZ m=false→okProd x m=true):=by
 have hp:=isP_in (szX_isP n.g.parts.1)
 have hi:i<L.length:=Nat.lt_trans h.ik h.kl
 have qi:=n.g.parts.2.2 _ (gd_mem hi)
 have qk:=n.g.parts.2.2 _ (gd_mem h.kl)
 have ok:=mrg_ok hp.1 qi.1.1 (okProd_iff.1 qi.2).1 (okProd_iff.1 qk.2).1 h.m
 exact⟨mrg_by hp qi.1 h.m,ok,fun hz=>okProd_iff.2 ⟨ok,hz⟩⟩
theorem jn_NL {x:Sch} (n:NL x L) (h:IsPair x.p L i k m):NL x (jn x.p L i k m)∧EqS (wps x L) (wps x (jn x.p L i k m)):=by
 obtain⟨h1,h2,h3⟩:=n.g.parts
 have hP:isP x.p=true:=szX_isP h1
 have hi:i<L.length:=Nat.lt_trans h.ik h.kl
 obtain⟨mb,mo,mz⟩:=pair_m n h
 have hl:=jn_len (p:=x.p) (m:=m) h.kl h.ik
 have hm:∀ q∈jn x.p L i k m,(By 27 q∧okProd x q=true)∧Nm q:=fun q hq=>by
  unfold jn at hq
  split at hq
  ·have:=rmv_mem (rmv_mem hq)
   exact⟨h3 q this,n.n q this⟩
  ·rename_i hz
   rcases List.mem_or_eq_of_mem_set hq with hq|rfl
   ·have:=rmv_mem hq
    exact⟨h3 q this,n.n q this⟩
   ·have hz:hasZ m=false:=by simpa using hz
    have pm:=Pr.of mb (mz hz)
    exact⟨⟨(nrm_Pr hP pm).bb,nrm_ok hP mb (mz hz)⟩,nrm_Nm hP pm⟩
 refine⟨⟨GX.of h1 (by have:L.length≤30:=h2;omega) fun q hq=>(hm q hq).1,fun q hq=>(hm q hq).2⟩,⟨rfl,rfl,rfl,rfl⟩,fun a b c ha hb hc=>?_⟩
 show Cg x.p (sT L a b c) (sT (jn x.p L i k m) a b c)
 have e1:=rmv_sT (a:=a) (b:=b) (c:=c) h.kl
 have e2:Cg x.p (tm m a b c) (tm (L.getD i []) a b c+tm (L.getD k []) a b c):=mrg_tm (n.g.parts.2.2 _ (gd_mem hi)).1.1 h.m ha hb hc
 have li:i<(rmv L k).length:=by rw[rmv_len h.kl];have:=h.ik;have:=h.kl;omega
 unfold jn
 cases hz:hasZ m with
 | true=>
  rw[if_pos rfl]
  have e3:=rmv_sT (a:=a) (b:=b) (c:=c) li
  rw[rmv_at h.ik] at e3
  rw[tm_zero ha hb hc hz] at e2
  obtain⟨u,hu⟩:=e2
  exact⟨-u,by rw[Int.mul_neg];omega⟩
 | false=>
  rw[if_neg (by decide)]
  have e3:=sT_set (q:=nrm x.p m) (a:=a) (b:=b) (c:=c) li
  rw[rmv_at h.ik] at e3
  have e4:Cg x.p (tm (nrm x.p m) a b c) (tm (L.getD i []) a b c+tm (L.getD k []) a b c):=(nrm_tm hP (Pr.of mb (mz hz)) ha hb hc).trans e2
  obtain⟨u,hu⟩:=e4
  exact⟨-u,by rw[Int.mul_neg];omega⟩
theorem red_NL {x:Sch} (h:Red x.p L R) (n:NL x L):NL x R∧EqS (wps x L) (wps x R)∧R.length≤L.length∧NoPair x.p R:=by
 generalize hp:x.p=p at h
 induction h with
 | stop h=>exact⟨n,.rfl',Nat.le_refl _,h⟩
 | @step _ _ _ _ m' h1 h2 ih=>
  rw[←hp] at h1 h2 ih
  have hl:=jn_len (p:=x.p) (m:=m') h1.kl h1.ik
  obtain⟨n',e'⟩:=jn_NL n h1
  obtain⟨a1,a2,a3,a4⟩:=ih n'
  exact⟨a1,e'.trans a2,by omega,hp▸a4⟩
noncomputable def redX (x:Sch):Sch:=wps x (redL x.p (nrms x.p x.ps))
theorem redX_ok {x:Sch} (g:GX x):GX (redX x)∧EqS x (redX x)∧(redX x).ps.length≤x.ps.length:=by
 obtain⟨h1,h2⟩:=nrms_NL g
 obtain⟨n,e,l,-⟩:=red_NL (redL_red (p:=x.p) (L:=nrms x.p x.ps)) h1
 refine⟨n.g,h2.trans e,?_⟩
 have:(nrms x.p x.ps).length=x.ps.length:=List.length_map _
 show (redL x.p (nrms x.p x.ps)).length≤_
 omega
end
structure Pgs where
 N:Nat
 xs:Nat→Prg
def cellG (ps ns:Nat→Int) (vs ws:Nat→Value) (i f:Nat):Value:=if f=0 then I64 (ps i) else if f=1 then I64 (ns i) else if f=2 then vs i else ws i
structure PG (c:List Value) (N:Nat) (ps ns:Nat→Int) (vs ws:Nat→Value):Prop where
 len:c.length=N*4
 at4:∀ i,i<N→∀ f,f<4→c[i*4+f]?=some (cellG ps ns vs ws i f)
section
variable {c:List Value} {N:Nat} {ps ns ps' ns':Nat→Int} {vs ws:Nat→Value}
end
def GR (h:AH) (v:Value) (y:Pgs):Prop:=(v=.slice none 0 0∧y.N=0)∨∃ nb vs ws,v=.slice (some ⟨nb,0,none⟩) y.N 4∧(∃ c e fl,h.get nb=some ⟨c,e,false,fl⟩∧PG c y.N (fun i=>(y.xs i).p) (fun i=>(y.xs i).n) vs ws)∧∀ i,i<y.N→PrgR h (vs i) (ws i) (y.xs i)
def InG (a b:Nat) (h:AH) (v:Value) (y:Pgs):Prop:=(v=.slice none 0 0∧y.N=0)∨∃ (nb:Nat) (cs:Nat→Nat) (vs ws:Nat→Value),v=.slice (some ⟨nb,0,none⟩) y.N 4∧a≤cs 0∧cs y.N≤nb∧nb<b∧(∃ c e fl,h.get nb=some ⟨c,e,false,fl⟩∧PG c y.N (fun i=>(y.xs i).p) (fun i=>(y.xs i).n) vs ws)∧∀ i,i<y.N→InP (cs i) (cs (i+1)) h (vs i) (ws i) (y.xs i)
def kkG (xs:Nat→Prg):Nat→Int
 | 0=>0
 | i+1=>kkG xs i+(2+cntP (xs i))
@[simp] theorem kkG_0 {xs:Nat→Prg}:kkG xs 0=0:=rfl
section
variable {a b c d:Nat} {h h':AH} {v:Value} {y:Pgs}
theorem GR.len (o:GR h v y):lenV v=some (I64 y.N):=by
 rcases o with⟨rfl,e⟩|⟨nb,vs,ws,rfl,_⟩
 ·rw[e]
  rfl
 ·rfl
theorem GR.pre (o:GR h v y) (p:h<+:h'):GR h' v y:=by
 rcases o with o|⟨nb,vs,ws,h1,⟨c,e,fl,g,h2⟩,h3⟩
 ·exact .inl o
 ·exact .inr ⟨nb,vs,ws,h1,⟨c,e,fl,pre_get p g,h2⟩,fun i hi=>(h3 i hi).pre p⟩
theorem InG.rd (o:InG a b h v y):GR h v y:=by
 rcases o with o|⟨nb,cs,vs,ws,h1,_,_,_,h2,h3⟩
 ·exact .inl o
 ·exact .inr ⟨nb,vs,ws,h1,h2,fun i hi=>(h3 i hi).rd⟩
theorem InG.pre (o:InG a b h v y) (p:h<+:h'):InG a b h' v y:=by
 rcases o with o|⟨nb,cs,vs,ws,h1,e1,e2,e3,⟨c,e,fl,g,h2⟩,h3⟩
 ·exact .inl o
 ·exact .inr ⟨nb,cs,vs,ws,h1,e1,e2,e3,⟨c,e,fl,pre_get p g,h2⟩,fun i hi=>(h3 i hi).pre p⟩
end
theorem OnlyR.put {a b n:Nat} {h:AH} {bl:Blk} (hn:a≤n∧n<b):OnlyR a b h (h.put n bl):=⟨len_put,fun m hm=>by
 unfold AH.put
 rw[List.getElem?_set_ne (fun e=>hm (by omega))]⟩
theorem runP_in {x:Prg} {h:AH} {v w:Value} (f:PrgF x) (hv:PrgR h v w x) {ns:List Int} (hn:allIn x.p ns=true) (hl:(ns.length:Int)=x.n):allIn x.p (runP x ns)=true:=by
 have vin:=valS_in f hv hn hl (i:=x.st.length) (Nat.le_refl _)
 have key:∀ {i:Nat},i≤x.out.length→allIn x.p (outS x.p x.out (valS x.p x.st ns x.st.length) i)=true:=by
  intro i
  induction i with
  | zero=>intro _;rfl
  | succ i ih=>
   intro hi
   refine allIn_app (ih (by omega)) ?_
   obtain⟨a,b,hq⟩:=all2 (hv.2.wid (show i<x.out.length by omega))
   have o2:=f.out2 (by omega) hq
   have fp:=f.p
   rw[hq]
   have hA:=allIn_iff.1 vin a.toNat (by rw[valS_len];omega)
   have m:=Int.mul_nonneg o2.2.2.1 hA.1
   exact tmod_nn m (by omega)
 exact key (Nat.le_refl _)
theorem pgX_facts {h:AH} {v:Value} {x:Sch} {b:Bool} (hv:Prods h v x.ps) (hx:isX x=true) (h0:1≤x.ps.length) {i:Nat} (hi:i<3) :
  (pgX x b i).p=x.p∧(pgX x b i).n=nuX x i∧(pgX x b i).out.length=(fmX x i).length:=by
 have ok:=fmX_ok hv hx h0 hi
 obtain⟨hp,hn,hl,hm⟩:=lsOK_iff.1 ok
 unfold pgX pgO
 cases b with
 | true=>
  rw[if_pos rfl]
  have si:=shS_facts ok
  have nz:=si.nz
  have f:=finP_facts (x:=⟨x.p,nuX x i,(shS x.p (fmX x i)).st,[]⟩) (rows:=(shS x.p (fmX x i)).T) (N:=10000) hp (fun j hj=>by
   obtain⟨g1,g2⟩:=si.gt j hj
   exact⟨allIn_iff.2 fun k hk=>g2 k (by omega),by omega⟩) hn (i:=(shS x.p (fmX x i)).T.length) (Nat.le_refl _)
  have len:=si.len
  simp only[List.length_nil,Nat.zero_add] at f
  exact⟨f.1,f.2.1,f.2.2.2.trans len⟩
 | false=>
  rw[if_neg (by decide)]
  have f:=finP_facts (x:=⟨x.p,nuX x i,[],[]⟩) (rows:=fmX x i) (N:=30) hp (fun j hj=>⟨(isMat_iff.1 hm j hj).2,by have:=(isMat_iff.1 hm j hj).1;omega⟩) hn (i:=(fmX x i).length) (Nat.le_refl _)
  simp only[List.length_nil,Nat.zero_add] at f
  exact⟨f.1,f.2.1,f.2.2.2⟩
theorem fmX_len {x:Sch} {n k:Nat} (en:x.n=n) (ek:x.k=k):(fmX x 0).length=x.ps.length∧(fmX x 1).length=x.ps.length∧(fmX x 2).length=n*k:=by
 refine⟨?_,?_,?_⟩
 ·show (lsF x 0 _).length=_
  exact lsF_len
 ·show (lsF x 1 _).length=_
  exact lsF_len
 ·show (trL (lsF x 2 (x.n*x.k).toNat) (x.n*x.k).toNat).length=_
  rw[trL_len,en,ek,←Int.natCast_mul,Int.toNat_natCast]
def rsC (x:Sch) (L R:List (List Int)):Int:=if isX x=true then (if mOK x L R=true then (if x.ps.length=0 then 5 else 0) else 2) else 1
def prX (x:Sch) (b:Bool) (L R:List (List Int)) (j:Nat):Int:=((runP (pgX x b 0) L.flatten).getD j 0*(runP (pgX x b 1) R.flatten).getD j 0).tmod x.p
def rsF (x:Sch) (b:Bool) (L R:List (List Int)):List (List Int):=parts (runP (pgX x b 2) (gen x.ps.length (prX x b L R))) x.k.toNat x.n.toNat
def rsR (x:Sch) (b:Bool) (L R:List (List Int)):List (List Int)×Int:=if rsC x L R=0 then (rsF x b L R,0) else ([],rsC x L R)
structure RF (x:Sch) (b:Bool) (L R:List (List Int)) (n m k:Nat):Prop where
 mf:MF x L R n m k
 h0:1≤x.ps.length∧x.ps.length≤30
 p:2≤x.p∧x.p≤5
 f:∀ i,i<3→PrgF (pgX x b i)
 ep:∀ i,i<3→(pgX x b i).p=x.p
 n0:((L.flatten.length:Nat):Int)=(pgX x b 0).n
 n1:((R.flatten.length:Nat):Int)=(pgX x b 1).n
 n2:(x.ps.length:Int)=(pgX x b 2).n
 o0:(runP (pgX x b 0) L.flatten).length=x.ps.length
 o1:(runP (pgX x b 1) R.flatten).length=x.ps.length
 o2:∀ ns,(runP (pgX x b 2) ns).length=n*k
theorem rf_of {h:AH} {v:Value} {x:Sch} {b:Bool} {L R:List (List Int)} (hv:Prods h v x.ps) (hc:rsC x L R=0):isX x=true∧mcX x L R=0∧∃ n m k,RF x b L R n m k:=by
 have hx:isX x=true:=by
  unfold rsC at hc
  split at hc
  ·assumption
  ·omega
 have hm:mOK x L R=true:=by
  unfold rsC at hc
  rw[if_pos hx] at hc
  split at hc
  ·assumption
  ·omega
 have h0:¬ x.ps.length=0:=fun e=>by
  unfold rsC at hc
  rw[if_pos hx,if_pos hm,if_pos e] at hc
  omega
 have hmc:mcX x L R=0:=by
  unfold mcX
  rw[if_pos hx,if_pos hm]
 obtain⟨n,m,k,mf⟩:=mf_of hmc
 obtain⟨zz,hp,hl30,ho⟩:=isX_facts hx
 have h0':1≤x.ps.length:=by omega
 have pf:=fun i (hi:i<3)=>pgX_facts (b:=b) hv hx h0' hi
 obtain⟨l0,l1,l2⟩:=fmX_len mf.en mf.ek
 refine⟨hx,hmc,n,m,k,mf,⟨h0',hl30⟩,isP_in hp,fun i hi=>isPrg_facts (pgX_isPrg hv hx h0' hi),fun i hi=>(pf i hi).1,?_,?_,?_,?_,?_,fun ns=>?_⟩
 ·rw[(pf 0 (by omega)).2.1,flat_len mf.wL,mf.lL]
  show _=pl x 0
  unfold pl
  simp[mf.en,mf.em]
 ·rw[(pf 1 (by omega)).2.1,flat_len mf.wR,mf.lR]
  show _=pl x 1
  unfold pl
  simp[mf.em,mf.ek]
 ·rw[(pf 2 (by omega)).2.1]
  rfl
 ·rw[runP_len,(pf 0 (by omega)).2.2,l0]
 ·rw[runP_len,(pf 1 (by omega)).2.2,l1]
 ·rw[runP_len,(pf 2 (by omega)).2.2,l2]
theorem RF.in0 {x:Sch} {b:Bool} {L R:List (List Int)} {n m k:Nat} (o:RF x b L R n m k) {h:AH} {v w:Value} (hv:PrgR h v w (pgX x b 0)):allIn x.p (runP (pgX x b 0) L.flatten)=true:=by
 have e:=o.ep 0 (by omega)
 have:=runP_in (o.f 0 (by omega)) hv (by rw[e];exact o.mf.aL) o.n0
 rw[e] at this
 exact this
theorem RF.in1 {x:Sch} {b:Bool} {L R:List (List Int)} {n m k:Nat} (o:RF x b L R n m k) {h:AH} {v w:Value} (hv:PrgR h v w (pgX x b 1)):allIn x.p (runP (pgX x b 1) R.flatten)=true:=by
 have e:=o.ep 1 (by omega)
 have:=runP_in (o.f 1 (by omega)) hv (by rw[e];exact o.mf.aR) o.n1
 rw[e] at this
 exact this
theorem prX_in {x:Sch} {b:Bool} {L R:List (List Int)} (hp:2≤x.p∧x.p≤5) (h0:allIn x.p (runP (pgX x b 0) L.flatten)=true) (h1:allIn x.p (runP (pgX x b 1) R.flatten)=true) (l0:(runP (pgX x b 0) L.flatten).length=x.ps.length) (l1:(runP (pgX x b 1) R.flatten).length=x.ps.length) :
  (∀ j,j<x.ps.length→(0≤(runP (pgX x b 0) L.flatten).getD j 0*(runP (pgX x b 1) R.flatten).getD j 0∧(runP (pgX x b 0) L.flatten).getD j 0*(runP (pgX x b 1) R.flatten).getD j 0≤16)∧0≤prX x b L R j∧prX x b L R j<x.p)∧allIn x.p (gen x.ps.length (prX x b L R))=true:=by
 have key:∀ j,j<x.ps.length→(0≤(runP (pgX x b 0) L.flatten).getD j 0*(runP (pgX x b 1) R.flatten).getD j 0∧(runP (pgX x b 0) L.flatten).getD j 0*(runP (pgX x b 1) R.flatten).getD j 0≤16)∧0≤prX x b L R j∧prX x b L R j<x.p:=fun j hj=>by
  have a:=allIn_iff.1 h0 j (by omega)
  have c:=allIn_iff.1 h1 j (by omega)
  have m:=Int.mul_nonneg a.1 c.1
  have m2:(runP (pgX x b 0) L.flatten).getD j 0*(runP (pgX x b 1) R.flatten).getD j 0≤4*4:=Int.le_trans (Int.mul_le_mul_of_nonneg_right (show _≤(4:Int) by omega) c.1) (Int.mul_le_mul_of_nonneg_left (by omega) (by decide))
  exact⟨⟨m,by omega⟩,tmod_nn m (by omega)⟩
 exact⟨key,allIn_iff.2 fun j hj=>by
  rw[gen_len] at hj
  rw[gen_get hj]
  exact (key j hj).2⟩
end Go.Proofs.Ytapafdpnmakekaa.X

set_option linter.unusedVariables false
set_option linter.unusedSimpArgs false
set_option maxRecDepth 20000
set_option maxHeartbeats 4000000
namespace Go.Proofs.Ytapafdpnmakekaa.X
open Go Go.RowKit
open Nat (reduceEqDiff reduceAdd reduceSub reduceLeDiff)
theorem rsC_mc {x:Sch} {L R:List (List Int)} (h:mcX x L R≠0):rsC x L R=mcX x L R:=by
 unfold rsC mcX at *
 by_cases h1:isX x=true
 ·rw[if_pos h1] at h ⊢
  rw[if_pos h1]
  by_cases h2:mOK x L R=true
  ·rw[if_pos h2] at h
   exact absurd rfl h
  ·rw[if_neg h2,if_neg h2]
 ·rw[if_neg h1,if_neg h1]
theorem rsC_5 {x:Sch} {L R:List (List Int)} (h:mcX x L R=0):rsC x L R=if x.ps.length=0 then 5 else 0:=by
 obtain⟨h1,_⟩:=mcX_0 h
 unfold rsC
 unfold mcX at h
 rw[if_pos h1] at h ⊢
 by_cases h2:mOK x L R=true
 ·rw[if_pos h2]
 ·rw[if_neg h2] at h
  omega
theorem i_RunScheme {v u z:Value} {x:Sch} {b:Bool} {L R:List (List Int)} {h:AH} {Q:Value→AH→Prop} (hv:Prods h v x.ps) (hl:SmallX x.ps) (hu:Rows h u L) (hL:SmallM L) (hz:Rows h z R) (hR:SmallM R)
  (hQ:∀ v' h',h<+:h'→OwnRows h h' v' (rsR x b L R).1→Q (.tuple #[v',I64 (rsR x b L R).2]) h'):WF S 23 [schV x v,.bool b,u,z] h Q:=by
 refine WF_fn (fn:=c23) rfl rfl ?_
 dsimp only[c23,oO,oM,oS,oG,oK,oE,oL,oF,oX,oN]
 ((try simp (maxSteps:=3000000) (dsimp:=false) (disch:=first|omega|simp only[lnx];omega) only[↓ypre,ypost,↓reduceIte,reduceEqDiff,reduceAdd,reduceSub,reduceLeDiff,zz0,ynew,schV,hv.one]);try simp only[yback])
 generalize hH1:AH.new h _=H1
 obtain⟨hb1,p1,n1⟩:=new_facts hH1
 ((try simp (maxSteps:=3000000) (dsimp:=false) (disch:=first|omega|simp only[lnx];omega) only[↓ypre,ypost,↓reduceIte,reduceEqDiff,reduceAdd,reduceSub,reduceLeDiff,zz0,ynew,rdn_of hb1]);try simp only[yback])
 refine i_matricesCode (x:=x) (hv.pre p1) hl (hu.pre p1) hL (hz.pre p1) hR fun H2 p2=>?_
 have p12:=p1.trans p2
 have hb2:=pre_get p2 hb1
 have no:∀ c,rsC x L R=c→c≠0→Q (.tuple #[.slice none 0 0,I64 c]) H2:=fun c e hc=>by
  unfold rsR at hQ
  rw[if_neg (by omega),e] at hQ
  exact hQ _ _ p12 (.inl ⟨rfl,rfl⟩)
 by_cases hc:mcX x L R=0
 case neg=>
  ((try simp (maxSteps:=3000000) (dsimp:=false) (disch:=first|omega|simp only[lnx];omega) only[↓ypre,ypost,↓reduceIte,reduceEqDiff,reduceAdd,reduceSub,reduceLeDiff,zz0,ynew,decide_eq_true (show mcX x L R≠0 from hc)]);try simp only[yback])
  exact no _ (rsC_mc hc) hc
 have e5:=rsC_5 hc
 have hv2:=hv.pre p12
 ((try simp (maxSteps:=3000000) (dsimp:=false) (disch:=first|omega|simp only[lnx];omega) only[↓ypre,ypost,↓reduceIte,reduceEqDiff,reduceAdd,reduceSub,reduceLeDiff,zz0,ynew,decide_eq_false (show ¬ mcX x L R≠0 from fun y=>y hc),rd1_of hb2,hv2.1.len]);try simp only[yback])
 by_cases h0:x.ps.length=0
 ·rw[if_pos h0] at e5
  ((try simp (maxSteps:=3000000) (dsimp:=false) (disch:=first|omega|simp only[lnx];omega) only[↓ypre,ypost,↓reduceIte,reduceEqDiff,reduceAdd,reduceSub,reduceLeDiff,zz0,ynew,decide_eq_true (show (x.ps.length:Int)=0 by omega)]);try simp only[yback])
  exact no 5 e5 (by decide)
 rw[if_neg h0] at e5
 obtain⟨hx,_,n,m,k,rf⟩:=rf_of (b:=b) hv e5
 unfold rsR at hQ
 rw[if_pos e5] at hQ
 have mf:=rf.mf
 have bb:=mf.b
 have nk:=mf.nk
 have lL:=mf.lL
 have lR:=mf.lR
 have hp:=rf.p
 have hh0:=rf.h0
 ((try simp (maxSteps:=3000000) (dsimp:=false) (disch:=first|omega|simp only[lnx];omega) only[↓ypre,ypost,↓reduceIte,reduceEqDiff,reduceAdd,reduceSub,reduceLeDiff,zz0,ynew,decide_eq_false (show ¬ (x.ps.length:Int)=0 by omega),rdn_of hb2]);try simp only[yback])
 refine i_programsOf (x:=x) (b:=b) hv2 hx (by omega) fun nb q1 q2 H3 v1 w1 v2 w2 v3 w3 p3 g i0 i1 i2 i3=>?_
 have o3:Pr3 H3 nb x b v1 w1 v2 w2 v3 w3:=⟨g,i1.rd,i2.rd,i3.rd⟩
 have p13:=p12.trans p3
 obtain⟨y0,z0,_,r0,pr0⟩:=o3.at (i:=0) (by omega)
 have x0:ixsV 4 (.slice (some ⟨nb,0,none⟩) 3 4) (.int .i64 0)=some (.pointer (some ⟨nb,0,none⟩)):=ix4 (nb:=nb) (len:=3) (i:=0) (kk:=.i64) (by omega)
 have x1:ixsV 4 (.slice (some ⟨nb,0,none⟩) 3 4) (.int .i64 1)=some (.pointer (some ⟨nb,4,none⟩)):=ix4 (nb:=nb) (len:=3) (i:=1) (kk:=.i64) (by omega)
 have x2:ixsV 4 (.slice (some ⟨nb,0,none⟩) 3 4) (.int .i64 2)=some (.pointer (some ⟨nb,8,none⟩)):=ix4 (nb:=nb) (len:=3) (i:=2) (kk:=.i64) (by omega)
 have r0:H3.rdn nb 0 4=some (prgC (pgX x b 0) y0 z0):=r0
 ((try simp (maxSteps:=3000000) (dsimp:=false) (disch:=first|omega|simp only[lnx];omega) only[↓ypre,ypost,↓reduceIte,reduceEqDiff,reduceAdd,reduceSub,reduceLeDiff,zz0,ynew,x0,r0]);try simp only[yback])
 refine i_Concat (hu.pre p13) mf.wL (by omega) (by omega) fun nl fl H4 e4 p4 o4=>?_
 refine⟨p4,?_⟩
 ((try simp (maxSteps:=3000000) (dsimp:=false) (disch:=first|omega|simp only[lnx];omega) only[↓ypre,ypost,↓reduceIte,reduceEqDiff,reduceAdd,reduceSub,reduceLeDiff,zz0,ynew]);try simp only[yback])
 have ea0:Value.agg (prgC (pgX x b 0) y0 z0).toArray=prgV (pgX x b 0) y0 z0:=rfl
 rw[ea0]
 refine i_run (pr0.pre p4) (rf.f 0 (by omega)) o4.ints (by rw[rf.ep 0 (by omega)];exact mf.aL) rf.n0 fun na fa H5 e5' p5 o5=>?_
 refine⟨p5,?_⟩
 have p35:=p4.trans p5
 obtain⟨y1,z1,_,r1,pr1⟩:=(o3.pre p35).at (i:=1) (by omega)
 have r1:AH.rdn H5 nb 4 4=some (prgC (pgX x b 1) y1 z1):=r1
 ((try simp (maxSteps:=3000000) (dsimp:=false) (disch:=first|omega|simp only[lnx];omega) only[↓ypre,ypost,↓reduceIte,reduceEqDiff,reduceAdd,reduceSub,reduceLeDiff,zz0,ynew,x1,r1]);try simp only[yback])
 refine i_Concat (hz.pre (p13.trans p35)) mf.wR (by omega) (by omega) fun nr fr H6 e6 p6 o6=>?_
 refine⟨p6,?_⟩
 ((try simp (maxSteps:=3000000) (dsimp:=false) (disch:=first|omega|simp only[lnx];omega) only[↓ypre,ypost,↓reduceIte,reduceEqDiff,reduceAdd,reduceSub,reduceLeDiff,zz0,ynew]);try simp only[yback])
 have ea1:Value.agg (prgC (pgX x b 1) y1 z1).toArray=prgV (pgX x b 1) y1 z1:=rfl
 rw[ea1]
 refine i_run (pr1.pre p6) (rf.f 1 (by omega)) o6.ints (by rw[rf.ep 1 (by omega)];exact mf.aR) rf.n1 fun nb2 fb H7 e7 p7 o7=>?_
 have p57:=p6.trans p7
 have in0:=rf.in0 pr0
 have in1:=rf.in1 pr1
 have l0:=rf.o0
 have l1:=rf.o1
 obtain⟨pin,pal⟩:=prX_in hp in0 in1 l0 l1
 have oa:=o5.pre p57
 have lta:=o5.lt
 have k56:=pre_len p6
 rw[l0,l1]
 ((try simp (maxSteps:=3000000) (dsimp:=false) (disch:=first|omega|simp only[lnx];omega) only[↓ypre,ypost,↓reduceIte,reduceEqDiff,reduceAdd,reduceSub,reduceLeDiff,zz0,ynew,show lenV (sl na x.ps.length)=some (I64 x.ps.length) from rfl]);try simp only[yback])
 have ga:runP (pgX x b 0) L.flatten=gen x.ps.length fun j=>if j<0 then prX x b L R j else (runP (pgX x b 0) L.flatten).getD j 0:=gen_ext l0 fun j _=>by rw[if_neg (by omega)]
 rw[ga] at oa
 have p37:=p35.trans p57
 have k34:=pre_len p4
 have hne:na≠nb2:=by omega
 refine WC_loop_inv (fun m f K1=>∃ (j:Nat),m=x.ps.length-j∧j≤x.ps.length∧f 4=.pointer (some ⟨h.length,0,none⟩)∧f 11=.slice (some ⟨nb,0,none⟩) 3 4∧f 12=sl na x.ps.length∧f 13=sl nb2 x.ps.length∧f 42=I64 x.ps.length∧f 43=I64 j∧(H3<+:K1)∧(Lst K1 na (gen x.ps.length fun j'=>if j'<j then prX x b L R j' else (runP (pgX x b 0) L.flatten).getD j' 0) fa)∧(Lst K1 nb2 (runP (pgX x b 1) R.flatten) fb)) ?_ (x.ps.length-0) _ _ ⟨0,rfl,by omega,(by first|rfl|simp[upd_apply]),(by first|rfl|simp[upd_apply]),(by first|rfl|simp[upd_apply]),(by first|rfl|simp[upd_apply]),(by first|rfl|simp[upd_apply]),(by first|rfl|simp[upd_apply]),p37,oa,o7⟩
 rintro m f K1 ⟨j,rfl,hj,f4,f11,f12,f13,f42,f43,pp,la,lb⟩
 have bK:=pre_get (p3.trans pp) hb2
 by_cases hlt:(j:Int)<x.ps.length
 ·have hj':j<x.ps.length:=by omega
  have ixa:ixsV 1 (sl na x.ps.length) (I64 j)=some (.pointer (some ⟨na,j,none⟩)):=by rw[Lst.ix (by omega),Int.toNat_natCast]
  have ixb:ixsV 1 (sl nb2 x.ps.length) (I64 j)=some (.pointer (some ⟨nb2,j,none⟩)):=by rw[Lst.ix (by omega),Int.toNat_natCast]
  have rda:=la.rd (j:=j) (by rw[gen_len];exact hj')
  rw[gen_get hj',if_neg (Nat.lt_irrefl _)] at rda
  have rdb:=lb.rd (j:=j) (by omega)
  obtain⟨⟨m1,m2⟩,m3⟩:=pin j hj'
  obtain⟨H8,w8,e8,l8⟩:=la.wr (j:=j) (x:=prX x b L R j) (by rw[gen_len];exact hj')
  rw[gen_set hj' _ rfl] at l8
  have epr:((runP (pgX x b 0) L.flatten).getD j 0*(runP (pgX x b 1) R.flatten).getD j 0).tmod x.p=prX x b L R j:=rfl
  ((try simp (maxSteps:=3000000) (dsimp:=false) (disch:=first|omega|simp only[lnx];omega) only[↓ypre,ypost,↓reduceIte,reduceEqDiff,reduceAdd,reduceSub,reduceLeDiff,zz0,ynew,f4,f11,f12,f13,f42,f43,decide_eq_true hlt,ixa,ixb,rda,rdb,rd1_of bK,wrap64_in,bin_rem (show x.p≠0 by omega),epr,w8]);try simp only[yback])
  refine InvQ_go (x.ps.length-(j+1)) (by omega) ⟨(j+1),rfl,by omega,(by first|rfl|exact f4|(simp only[upd_apply];rfl)|(show I64 _=_;congr 1;omega)),(by first|rfl|exact f11|(simp only[upd_apply];rfl)|(show I64 _=_;congr 1;omega)),(by first|rfl|exact f12|(simp only[upd_apply];rfl)|(show I64 _=_;congr 1;omega)),(by first|rfl|exact f13|(simp only[upd_apply];rfl)|(show I64 _=_;congr 1;omega)),(by first|rfl|exact f42|(simp only[upd_apply];rfl)|(show I64 _=_;congr 1;omega)),(by first|rfl|exact f43|(simp only[upd_apply];rfl)|(show I64 _=_;congr 1;omega)),(by rw[e8];exact pre_put pp (by omega)),l8,(by rw[e8];exact lb.put_ne hne)⟩
 have ej:j=x.ps.length:=by omega
 rw[ej] at la
 rw[gen_congr (g':=prX x b L R) (fun j' hj=>by rw[if_pos hj])] at la
 obtain⟨y2,z2,_,r2,pr2⟩:=(o3.pre pp).at (i:=2) (by omega)
 have r2:AH.rdn K1 nb 8 4=some (prgC (pgX x b 2) y2 z2):=r2
 ((try simp (maxSteps:=3000000) (dsimp:=false) (disch:=first|omega|simp only[lnx];omega) only[↓ypre,ypost,↓reduceIte,reduceEqDiff,reduceAdd,reduceSub,reduceLeDiff,zz0,ynew,f4,f11,f12,f13,f42,f43,decide_eq_false hlt,x2,r2]);try simp only[yback])
 have ea2:Value.agg (prgC (pgX x b 2) y2 z2).toArray=prgV (pgX x b 2) y2 z2:=rfl
 have la':=la.ints
 rw[gen_len] at la'
 rw[ea2]
 refine i_run pr2 (rf.f 2 (by omega)) la' (by rw[rf.ep 2 (by omega)];exact pal) (by rw[gen_len];exact rf.n2) fun nc fc H9 e9 p9 o9=>?_
 refine⟨p9,?_⟩
 have b9:=pre_get p9 bK
 ((try simp (maxSteps:=3000000) (dsimp:=false) (disch:=first|omega|simp only[lnx];omega) only[↓ypre,ypost,↓reduceIte,reduceEqDiff,reduceAdd,reduceSub,reduceLeDiff,zz0,ynew,f4,f11,f12,f13,f42,f43,rd1_of b9]);try simp only[yback])
 rw[mf.ek]
 have lc:=rf.o2 (gen x.ps.length (prX x b L R))
 refine i_parted (w:=k) (n:=n) o9.ints (by omega) (by omega) lc fun v6 H10 p10 o10=>?_
 ((try simp (maxSteps:=3000000) (dsimp:=false) (disch:=first|omega|simp only[lnx];omega) only[↓ypre,ypost,↓reduceIte,reduceEqDiff,reduceAdd,reduceSub,reduceLeDiff,zz0,ynew,f4,f11,f12,f13,f42,f43]);try simp only[yback])
 have eF:parts (runP (pgX x b 2) (gen x.ps.length (prX x b L R))) k n=rsF x b L R:=by
  unfold rsF
  rw[mf.en,mf.ek,Int.toNat_natCast,Int.toNat_natCast]
 rw[eF] at o10
 have pq:=(p13.trans pp).trans p9
 exact hQ _ _ (pq.trans p10) (o10.lo (pre_len pq))
end Go.Proofs.Ytapafdpnmakekaa.X

set_option linter.unusedVariables false
set_option linter.unusedSimpArgs false
set_option maxRecDepth 20000
set_option maxHeartbeats 4000000
namespace Go.Proofs.Ytapafdpnmakekaa.X
open Go Go.RowKit
def LstZ (h0 h:AH) (v:Value) (l:List Int):Prop:=(l=[]∧v=.slice none 0 2)∨∃ n full,v=sl n l.length∧h0.length≤n∧Lst h n l full
theorem LstZ.ints {h0 h:AH} {v:Value} {l:List Int} (o:LstZ h0 h v l):Ints h v l:=by
 rcases o with⟨rfl,rfl⟩|⟨n,full,rfl,_,o⟩
 ·exact .inl ⟨rfl,2,by omega,rfl⟩
 ·exact o.ints
theorem dot_congrL {q q' ns:List Int}:∀ {k:Nat},(∀ i,i<k→q.getD i 0=q'.getD i 0)→dot q ns k=dot q' ns k
 | 0,_=>rfl
 | k+1,h=>by
  simp only[dot]
  rw[dot_congrL (k:=k) fun i hi=>h i (by omega),h k (by omega)]
theorem take_gD {q:List Int} {w i:Nat} (hi:i<w):(q.take w).getD i 0=q.getD i 0:=by
 rw[List.getD_eq_getElem?_getD,List.getD_eq_getElem?_getD,List.getElem?_take,if_pos hi]
theorem seg_gD {q:List Int} {i j:Nat} (hj:j<9):(seg q i).getD j 0=q.getD (i*9+j) 0:=by
 unfold seg
 rw[take_gD hj,List.getD_eq_getElem?_getD,List.getD_eq_getElem?_getD,List.getElem?_drop]
section
variable {h:AH} {v:Value} {x:Sch} {b:Bool} {L R:List (List Int)} {n m k:Nat}
theorem prX_val (hv:Prods h v x.ps) (hx:isX x=true) (rf:RF x b L R n m k) {j:Nat} (hj:j<x.ps.length):prX x b L R j=(valI x.p L.flatten R.flatten (x.ps.getD j [])).tmod x.p:=by
 have mf:=rf.mf
 have bb:=mf.b
 have h0:=rf.h0
 have ok0:=fmX_ok hv hx (show 1≤x.ps.length by omega) (i:=0) (by omega)
 have ok1:=fmX_ok hv hx (show 1≤x.ps.length by omega) (i:=1) (by omega)
 obtain⟨e0,e1,_⟩:=fmX_len mf.en mf.ek
 have n0:=rf.n0
 have n1:=rf.n1
 have fl:=flat_len mf.wL
 have fr:=flat_len mf.wR
 rw[mf.lL] at fl
 rw[mf.lR] at fr
 have f0:=mf.fL
 have f1:=mf.fR
 have g0:(fmX x 0).getD j []=(seg (x.ps.getD j []) 0).take (n*m):=by
  show (lsF x 0 (x.n*x.m).toNat).getD j []=_
  rw[lsF_get hj,mf.en,mf.em,←Int.natCast_mul,Int.toNat_natCast]
 have g1:(fmX x 1).getD j []=(seg (x.ps.getD j []) 1).take (m*k):=by
  show (lsF x 1 (x.m*x.k).toNat).getD j []=_
  rw[lsF_get hj,mf.em,mf.ek,←Int.natCast_mul,Int.toNat_natCast]
 have nu0:nuX x 0=(pgX x b 0).n:=((pgX_facts (b:=b) hv hx (show 1≤x.ps.length by omega) (i:=0) (by omega)).2.1).symm
 have nu1:nuX x 1=(pgX x b 1).n:=((pgX_facts (b:=b) hv hx (show 1≤x.ps.length by omega) (i:=1) (by omega)).2.1).symm
 have sl:∀ i,i<3→(seg (x.ps.getD j []) i).length=9:=fun i hi=>((hv.by hj).seg hi).1
 have r0:=runP_pgO (b:=b) ok0 (ns:=L.flatten) (by rw[nu0];exact n0) mf.aL (j:=j) (by omega)
 have r1:=runP_pgO (b:=b) ok1 (ns:=R.flatten) (by rw[nu1];exact n1) mf.aR (j:=j) (by omega)
 rw[g0] at r0
 rw[g1] at r1
 rw[show ((seg (x.ps.getD j []) 0).take (n*m)).length=L.flatten.length by rw[List.length_take,sl 0 (by omega)];omega,dot_congrL (q':=seg (x.ps.getD j []) 0) (fun i hi=>take_gD (by omega))] at r0
 rw[show ((seg (x.ps.getD j []) 1).take (m*k)).length=R.flatten.length by rw[List.length_take,sl 1 (by omega)];omega,dot_congrL (q':=seg (x.ps.getD j []) 1) (fun i hi=>take_gD (by omega))] at r1
 have a0:(runP (pgX x b 0) L.flatten).getD j 0=_:=r0
 have a1:(runP (pgX x b 1) R.flatten).getD j 0=_:=r1
 unfold prX valI
 rw[a0,a1]
theorem rs_mp (hv:Prods h v x.ps) (hx:isX x=true) (rf:RF x b L R n m k):rsF x b L R=mpF x L R:=by
 have mf:=rf.mf
 have bb:=mf.b
 have nk:=mf.nk
 have h0:=rf.h0
 have hp:=rf.p
 have ok2:=fmX_ok hv hx (show 1≤x.ps.length by omega) (i:=2) (by omega)
 obtain⟨_,_,e2⟩:=fmX_len mf.en mf.ek
 unfold rsF mpF
 rw[mf.en,mf.ek,←Int.natCast_mul,Int.toNat_natCast,Int.toNat_natCast,Int.toNat_natCast]
 congr 1
 refine gen_ext (rf.o2 _) fun i hi=>?_
 have sin:=stM_in hp hv.2 hv.1.widL mf.fL mf.fR mf.aL mf.aR (t:=x.ps.length) (Nat.le_refl _)
 have pin:∀ j,j<x.ps.length→0≤prX x b L R j∧prX x b L R j<x.p:=fun j hj=>by
  rw[prX_val hv hx rf hj]
  exact tmod_nn (valI_in hp (hv.by hj) mf.fL mf.fR mf.aL mf.aR).1 (by omega)
 have pal:allIn x.p (gen x.ps.length (prX x b L R))=true:=allIn_iff.2 fun j hj=>by
  rw[gen_len] at hj
  rw[gen_get hj]
  exact pin j hj
 have r2:=runP_pgO (b:=b) ok2 (ns:=gen x.ps.length (prX x b L R)) (by rw[gen_len];rfl) pal (j:=i) (by omega)
 have a2:(runP (pgX x b 2) (gen x.ps.length (prX x b L R))).getD i 0=_:=r2
 rw[a2]
 have gr:(fmX x 2).getD i []=gen x.ps.length fun j=>(x.ps.getD j []).getD (18+i) 0:=by
  show (trL (lsF x 2 (x.n*x.k).toNat) (x.n*x.k).toNat).getD i []=_
  rw[mf.en,mf.ek,←Int.natCast_mul,Int.toNat_natCast,trL_get hi,lsF_len]
  refine gen_congr fun j hj=>?_
  rw[lsF_get hj,take_gD hi,seg_gD (by omega)]
 rw[gr,gen_len]
 have key:∀ t,t≤x.ps.length→x.p∣dot (gen x.ps.length fun j=>(x.ps.getD j []).getD (18+i) 0) (gen x.ps.length (prX x b L R)) t-stM x.p L.flatten R.flatten x.ps t i:=by
  intro t
  induction t with
  | zero=>intro _;exact⟨0,by simp[stM]⟩
  | succ t ih=>
   intro ht
   obtain⟨k1,h1⟩:=ih (by omega)
   simp only[dot,stM]
   rw[gen_get (by omega),gen_get (by omega),prX_val hv hx rf (show t<x.ps.length by omega)]
   obtain⟨k2,h2⟩:=tmod_dvd (valI x.p L.flatten R.flatten (x.ps.getD t [])) x.p
   obtain⟨k3,h3⟩:=tmod_dvd (stM x.p L.flatten R.flatten x.ps t i+(x.ps.getD t []).getD (18+i) 0*valI x.p L.flatten R.flatten (x.ps.getD t [])) x.p
   exact⟨k1-(x.ps.getD t []).getD (18+i) 0*k2+k3,by grind⟩
 have gal:allIn x.p (gen x.ps.length fun j=>(x.ps.getD j []).getD (18+i) 0)=true:=by
  have:=(lsOK_iff.1 ok2).2.2.2
  have:=(isMat_iff.1 this i (by omega)).2
  rw[gr] at this
  exact this
 obtain⟨k1,h1⟩:=key x.ps.length (Nat.le_refl _)
 obtain⟨k2,h2⟩:=tmod_dvd (dot (gen x.ps.length fun j=>(x.ps.getD j []).getD (18+i) 0) (gen x.ps.length (prX x b L R)) x.ps.length) x.p
 exact dvd_eq ⟨k1-k2,by grind⟩ (tmod_nn (dot_nn (show 1≤x.p by omega) gal pal) (by omega)) (sin i (by omega))
end
section
variable {x y:Sch} {L R:List (List Int)}
theorem EqS.symm (e:EqS x y):EqS y x:=⟨⟨e.l.1.symm,e.l.2.1.symm,e.l.2.2.1.symm,e.l.2.2.2.symm⟩,fun a b c ha hb hc=>by
 rw[←e.l.1]
 exact (e.s a b c ha hb hc).symm⟩
theorem wrS_eq (gx:GX x) (gy:GX y) (e:EqS x y) {I J K:Nat} (bI:I≤9) (bJ:J≤9) (bK:K≤9):∀ {n:Nat},n≤I*(J*K)→wrS x J K n=wrS y J K n
 | 0,_=>rfl
 | n+1,hn=>by
  have ih:=wrS_eq gx gy e bI bJ bK (n:=n) (by omega)
  have hJK:0<J*K:=by
   rcases Nat.eq_zero_or_pos (J*K) with h|h
   ·rw[h] at hn;omega
   ·exact h
  have hK:0<K:=Nat.pos_of_mul_pos_left hJK
  have hJ:0<J:=Nat.pos_of_mul_pos_right hJK
  have b1:n%K<K:=Nat.mod_lt _ hK
  have b2:n / K%J<J:=Nat.mod_lt _ hJ
  have b3:n / K / J<I:=by
   rw[Nat.div_div_eq_div_mul,Nat.div_lt_iff_lt_mul (Nat.mul_pos hK hJ),Nat.mul_comm K J]
   omega
  unfold wrS
  rw[ih]
  have eb:badE x J K n=badE y J K n:=by
   unfold badE wnX
   rw[lsX_eq gx gy e (by omega) (by omega) (by omega),e.l.2.2.1,e.l.2.2.2]
  rw[eb]
theorem wrX_eq (gx:GX x) (gy:GX y) (e:EqS x y):wrX x=wrX y:=by
 have z:=(isX_sz gx.ok).1
 have z1:=z.nm
 have z2:=z.mk2
 have z3:=z.nk
 unfold wrX
 rw[←e.l.2.1,←e.l.2.2.1,←e.l.2.2.2]
 exact wrS_eq gx gy e (I:=(x.n*x.m).toNat) (by omega) (by omega) (by omega) (Nat.le_refl _)
theorem crR_eq (gx:GX x) (gy:GX y) (e:EqS x y):crR x=crR y:=by
 unfold crR
 rw[if_pos gx.ok,if_pos gy.ok,wrX_eq gx gy e]
theorem crR_0 (gx:GX x):(crR x).2=0∧((crR x).1=true↔wrX x=[]):=by
 unfold crR
 rw[if_pos gx.ok]
 exact⟨rfl,by simp⟩
theorem tsR_eq (gx:GX x) (gy:GX y) (e:EqS x y):tsR x=(tofX x,0)∧tsR y=(tofX x,0):=by
 unfold tsR
 rw[if_pos gx.ok,if_pos gy.ok,←tofX_eq gx gy e]
 exact⟨rfl,rfl⟩
theorem mcX_eq (gx:GX x) (gy:GX y) (e:EqS x y):mcX x L R=mcX y L R:=by
 unfold mcX mOK
 rw[if_pos gx.ok,if_pos gy.ok,e.l.1,e.l.2.1,e.l.2.2.1,e.l.2.2.2]
theorem mpF_eq (gx:GX x) (gy:GX y) (e:EqS x y) (hc:mcX x L R=0):mpF x L R=mpF y L R:=by
 have hc2:mcX y L R=0:=by rw[←mcX_eq gx gy e];exact hc
 obtain⟨n,m,k,mf⟩:=mf_of hc
 obtain⟨n',m',k',mg⟩:=mf_of hc2
 have e1:n'=n:=by have:=mf.en;have:=mg.en;have:=e.l.2.1;omega
 have e2:m'=m:=by have:=mf.em;have:=mg.em;have:=e.l.2.2.1;omega
 have e3:k'=k:=by have:=mf.ek;have:=mg.ek;have:=e.l.2.2.2;omega
 subst e1 e2 e3
 have bb:=mf.b
 have n9:n'*m'≤9:=Nat.mul_le_mul (show n'≤3 by omega) (show m'≤3 by omega)
 have m9:m'*k'≤9:=Nat.mul_le_mul (show m'≤3 by omega) (show k'≤3 by omega)
 have k9:=mf.nk
 refine mp_same (isX_sz gx.ok).1.p gx.w gx.b gy.w gy.b mf mg e.l.1 fun a b c ha hb hc=>?_
 rw[Sx_sT,Sx_sT]
 exact e.s a b c (by omega) (by omega) (by omega)
theorem mpR_eq (gx:GX x) (gy:GX y) (e:EqS x y):mpR x L R=mpR y L R:=by
 unfold mpR
 rw[←mcX_eq gx gy e]
 by_cases h:mcX x L R=0
 ·rw[if_pos h,if_pos h,mpF_eq gx gy e h]
 ·rw[if_neg h,if_neg h]
theorem pp_len (gx:GX x) (hc:mcX x L R=0):(ppR x.p L R).2=0∧(ppR x.p L R).1.length=(mpF x L R).length:=by
 obtain⟨n,m,k,mf⟩:=mf_of hc
 obtain⟨en,em,ek,b,nk,wL,wR,lL,lR,fL,fR,aL,aR,hm,hr⟩:=id mf
 have hk0:(R.getD 0 []).length=k:=wR _ (by
  rw[List.getD_eq_getElem?_getD,List.getElem?_eq_getElem (show 0<R.length by omega)]
  exact List.getElem_mem _)
 have pm:PM x.p L R (R.getD 0 []).length:=by
  rw[hk0]
  exact⟨szX_isP gx.parts.1,by omega,by omega,by omega,by rw[lR];exact hm,hr,hk0⟩
 unfold ppR
 rw[if_pos (ppOK_iff.2 pm)]
 refine⟨rfl,?_⟩
 show (ppF x.p L R _).length=_
 unfold ppF mpF
 rw[List.length_map,List.length_range,parts_len,lL,en,Int.toNat_natCast]
theorem rsR_eq {h:AH} {v:Value} (gy:GX y) (hv:Prods h v y.ps) (hc:mcX y L R=0) (h0:0<y.ps.length):rsR y true L R=(mpF y L R,0):=by
 have hr:rsC y L R=0:=by
  unfold mcX at hc
  rw[if_pos gy.ok] at hc
  have hm:mOK y L R=true:=by
   cases e:mOK y L R with
   | true=>rfl
   | false=>rw[e] at hc;cases hc
  unfold rsC
  rw[if_pos gy.ok,if_pos hm,if_neg (by omega)]
 obtain⟨hx,_,n,m,k,rf⟩:=rf_of (b:=true) hv hr
 unfold rsR
 rw[if_pos hr,rs_mp hv hx rf]
end
end Go.Proofs.Ytapafdpnmakekaa.X

set_option linter.unusedVariables false
set_option linter.unusedSimpArgs false
set_option maxRecDepth 20000
set_option maxHeartbeats 4000000
namespace Go.Proofs.Ytapafdpnmakekaa.X
open Go Go.RowKit
open Nat (reduceEqDiff reduceAdd reduceSub reduceLeDiff)
theorem lead_at:∀ {q:List Int} {i:Nat},(∀ j,j<i→q.getD j 0=0)→q.getD i 0≠0→lead q=q.getD i 0
 | [],i,_,h=>by simp at h
 | a::l,0,_,h=>by
  rw[List.getD_cons_zero] at h ⊢
  rw[lead,if_neg h]
 | a::l,i+1,h0,h=>by
  have:=h0 0 (by omega)
  rw[List.getD_cons_zero] at this
  rw[List.getD_cons_succ] at h ⊢
  rw[lead,if_pos this]
  exact lead_at (fun j hj=>by have:=h0 (j+1) (by omega);rwa [List.getD_cons_succ] at this) h
theorem lead_no:∀ {q:List Int},(∀ j,j<q.length→q.getD j 0=0)→lead q=0
 | [],_=>rfl
 | a::l,h=>by
  have:=h 0 (by simp)
  rw[List.getD_cons_zero] at this
  rw[lead,if_pos this]
  exact lead_no fun j hj=>by have:=h (j+1) (by simpa using hj);rwa [List.getD_cons_succ] at this
theorem i_first {q:List Int} {h:AH} {Q:Value→AH→Prop} (hq:By 9 q) (hQ:∀ h',h<+:h'→Q (I64 (lead q)) h'):WF S 325 [aggV .u8 q] h Q:=by
 refine WF_fn (fn:=c325) rfl rfl ?_
 dsimp only[c325,oO,oM,oS,oG,oK,oE,oL,oF,oX,oN]
 have q9:=hq.1
 have tq:(cel .u8 q).take 9=cel .u8 q:=List.take_of_length_le (by rw[cel_len,q9];exact Nat.le_refl _)
 ((try simp (maxSteps:=3000000) (dsimp:=false) (disch:=first|omega|simp only[lnx];omega) only[↓ypre,ypost,↓reduceIte,reduceEqDiff,reduceAdd,reduceSub,reduceLeDiff,zz0,ynew,aggV,cellsL_cel,cel_all]);try simp only[yback])
 generalize hH1:AH.new h _=H1
 obtain⟨hb1,p1,n1⟩:=new_facts hH1
 ((try simp (maxSteps:=3000000) (dsimp:=false) (disch:=first|omega|simp only[lnx];omega) only[↓ypre,ypost,↓reduceIte,reduceEqDiff,reduceAdd,reduceSub,reduceLeDiff,zz0,ynew,rdn_of hb1,cel_len,q9,tq]);try simp only[yback])
 refine WC_loop_inv (fun m f K1=>∃ (i:Nat),m=9-i∧i≤9∧f 5=.agg (cel .u8 q).toArray∧f 6=I64 i∧K1=H1∧((∀ j,j<i→q.getD j 0=0))) ?_ (9-0) _ _ ⟨0,rfl,by omega,(by first|rfl|simp[upd_apply]),(by first|rfl|simp[upd_apply]),rfl,(fun _ h=>absurd h (Nat.not_lt_zero _))⟩
 rintro m f K1 ⟨i,rfl,hi,f5,f6,rfl,no⟩
 by_cases hlt:(i:Int)<9
 ·have g1:=idx1V_cel (k:=.u8) (q:=q) (n:=9) (j:=i) (kk:=.i64) (by omega) (by omega)
  have b1:=hq.2 i (by omega)
  by_cases c:q.getD i 0≠0
  ·((try simp (maxSteps:=3000000) (dsimp:=false) (disch:=first|omega|simp only[lnx];omega) only[↓ypre,ypost,↓reduceIte,reduceEqDiff,reduceAdd,reduceSub,reduceLeDiff,zz0,ynew,f5,f6,decide_eq_true hlt,↓WX_idx1,g1,decide_eq_true c,wrap64_in]);try simp only[yback])
   rw[lead_at no c] at hQ
   exact hQ _ p1
  ·((try simp (maxSteps:=3000000) (dsimp:=false) (disch:=first|omega|simp only[lnx];omega) only[↓ypre,ypost,↓reduceIte,reduceEqDiff,reduceAdd,reduceSub,reduceLeDiff,zz0,ynew,f5,f6,decide_eq_true hlt,↓WX_idx1,g1,decide_eq_false c,wrap64_in]);try simp only[yback])
   refine InvQ_go (9-(i+1)) (by omega) ⟨(i+1),rfl,by omega,(by first|rfl|exact f5|(simp only[upd_apply];rfl)|(show I64 _=_;congr 1;omega)),(by first|rfl|exact f6|(simp only[upd_apply];rfl)|(show I64 _=_;congr 1;omega)),rfl,(step_all no (Decidable.not_not.1 c))⟩
 ·((try simp (maxSteps:=3000000) (dsimp:=false) (disch:=first|omega|simp only[lnx];omega) only[↓ypre,ypost,↓reduceIte,reduceEqDiff,reduceAdd,reduceSub,reduceLeDiff,zz0,ynew,f5,f6,decide_eq_false hlt]);try simp only[yback])
  rw[lead_no fun j hj=>no j (by omega)] at hQ
  exact hQ _ p1
theorem i_multiple {p k:Int} {q:List Int} {h:AH} {Q:Value→AH→Prop} (hp:2≤p∧p≤5) (hq:By 9 q) (hk:0≤k∧k≤1000) (hQ:∀ h',h<+:h'→Q (aggV .u8 (scF p q k)) h'):WF S 326 [I64 p,aggV .u8 q,I64 k] h Q:=by
 refine WF_fn (fn:=c326) rfl rfl ?_
 dsimp only[c326,oO,oM,oS,oG,oK,oE,oL,oF,oX,oN]
 have q9:=hq.1
 have tq:(cel .u8 q).take 9=cel .u8 q:=List.take_of_length_le (by rw[cel_len,q9];exact Nat.le_refl _)
 ((try simp (maxSteps:=3000000) (dsimp:=false) (disch:=first|omega|simp only[lnx];omega) only[↓ypre,ypost,↓reduceIte,reduceEqDiff,reduceAdd,reduceSub,reduceLeDiff,zz0,ynew,aggV,cellsL_cel,cel_all]);try simp only[yback])
 generalize hH1:AH.new h _=H1
 obtain⟨hb1,p1,n1⟩:=new_facts hH1
 generalize hH2:AH.new H1 _=H2
 obtain⟨hb2,p2,n2⟩:=new_facts hH2
 have g1:=pre_get p2 hb1
 ((try simp (maxSteps:=3000000) (dsimp:=false) (disch:=first|omega|simp only[lnx];omega) only[↓ypre,ypost,↓reduceIte,reduceEqDiff,reduceAdd,reduceSub,reduceLeDiff,zz0,ynew,fillL,zeros9z,cel_all,rdn_of g1,cel_len,q9,tq]);try simp only[yback])
 refine i_sum (a:=z9) (b:=q) hp z9_by hq hk fun H3 p3=>?_
 have g2:=pre_get p3 hb2
 have l2:=get_lt g2
 have sl:(scF p q k).length=9:=scF_len
 have e:addF p z9 q k 9=scF p q k:=rfl
 have w9:=wr_full (vs:=cel .u8 (scF p q k)) g2 (by rw[cel_len,sl];rfl)
 have ts:(cel .u8 (scF p q k)).take 9=cel .u8 (scF p q k):=List.take_of_length_le (by rw[cel_len,sl];exact Nat.le_refl _)
 rw[e]
 ((try simp (maxSteps:=3000000) (dsimp:=false) (disch:=first|omega|simp only[lnx];omega) only[↓ypre,ypost,↓reduceIte,reduceEqDiff,reduceAdd,reduceSub,reduceLeDiff,zz0,ynew,aggV,cellsL_cel,cel_len,sl,cel_all,w9,rdn_put_same,ts]);try simp only[yback])
 exact hQ _ (pre_put (p1.trans (p2.trans p3)) (by omega))
theorem Pr.b9 {p:Int} {q:List Int} (h:Pr p q) {j:Nat} (hj:j<3):By 9 (seg q j):=seg_by h.bb hj
theorem rd_sg {h:AH} {n f:Nat} {q:List Int} {e:TypeId} {ro full:Bool} (g:h.get n=some ⟨cel .u8 q,e,ro,full⟩) (hq:q.length=27) (hf:f<3):∀ o,o=f*9→h.rdn n o 9=some (cel .u8 (seg q f)):=fun o e=>by
 rw[e]
 exact rd_seg g hq hf
theorem i_normal {p:Int} {q:List Int} {h:AH} {Q:Value→AH→Prop} (hp:isP p=true) (hq:Pr p q) (hQ:∀ h',h<+:h'→Q (aggV .u8 (nrm p q)) h'):WF S 280 [I64 p,aggV .u8 q] h Q:=by
 refine WF_fn (fn:=c280) rfl rfl ?_
 dsimp only[c280,oO,oM,oS,oG,oK,oE,oL,oF,oX,oN]
 have pp:=isP_in hp
 have q27:=hq.bb.1
 have ld0:=hq.ld (j:=0) (by omega)
 have ld1:=hq.ld (j:=1) (by omega)
 have iv0:=inv_spec hp ld0
 have iv1:=inv_spec hp ld1
 have c0:(cel .u8 q).take 9=cel .u8 (seg q 0):=by have:=cel_seg (q:=q) (f:=0);rwa [Nat.zero_mul,List.drop_zero] at this
 ((try simp (maxSteps:=3000000) (dsimp:=false) (disch:=first|omega|simp only[lnx];omega) only[↓ypre,ypost,↓reduceIte,reduceEqDiff,reduceAdd,reduceSub,reduceLeDiff,zz0,ynew,aggV,cellsL_cel,cel_all,cel_len,q27,c0]);try simp only[yback])
 generalize hH1:AH.new h _=H1
 obtain⟨hb1,p1,n1⟩:=new_facts hH1
 generalize hH2:AH.new H1 _=H2
 obtain⟨hb2,p2,n2⟩:=new_facts hH2
 have g1:=pre_get p2 hb1
 refine i_first (hq.b9 (by omega)) fun H3 p3=>⟨p3,?_⟩
 have g1:=pre_get p3 g1
 ((try simp (maxSteps:=3000000) (dsimp:=false) (disch:=first|omega|simp only[lnx];omega) only[↓ypre,ypost,↓reduceIte,reduceEqDiff,reduceAdd,reduceSub,reduceLeDiff,zz0,ynew,rd_sg g1 q27 (f:=1) (by omega) 9 rfl]);try simp only[yback])
 refine i_first (hq.b9 (by omega)) fun H4 p4=>?_
 have g1:=pre_get p4 g1
 ((try simp (maxSteps:=3000000) (dsimp:=false) (disch:=first|omega|simp only[lnx];omega) only[↓ypre,ypost,↓reduceIte,reduceEqDiff,reduceAdd,reduceSub,reduceLeDiff,zz0,ynew,rd_sg g1 q27 (f:=0) (by omega) 0 rfl]);try simp only[yback])
 refine i_inverse pp ld0 iv0 ?_
 refine⟨List.prefix_refl _,?_⟩
 ((try simp (maxSteps:=3000000) (dsimp:=false) (disch:=first|omega|simp only[lnx];omega) only[↓ypre,ypost,↓reduceIte,reduceEqDiff,reduceAdd,reduceSub,reduceLeDiff,zz0,ynew]);try simp only[yback])
 refine i_multiple (q:=seg q 0) pp (hq.b9 (by omega)) (by have:=iv0.1;have:=iv0.2.1;omega) fun H5 p5=>⟨p5,?_⟩
 have g1:=pre_get p5 g1
 ((try simp (maxSteps:=3000000) (dsimp:=false) (disch:=first|omega|simp only[lnx];omega) only[↓ypre,ypost,↓reduceIte,reduceEqDiff,reduceAdd,reduceSub,reduceLeDiff,zz0,ynew,rd_sg g1 q27 (f:=1) (by omega) 9 rfl]);try simp only[yback])
 refine i_inverse pp ld1 iv1 ?_
 refine⟨List.prefix_refl _,?_⟩
 ((try simp (maxSteps:=3000000) (dsimp:=false) (disch:=first|omega|simp only[lnx];omega) only[↓ypre,ypost,↓reduceIte,reduceEqDiff,reduceAdd,reduceSub,reduceLeDiff,zz0,ynew]);try simp only[yback])
 refine i_multiple (q:=seg q 1) pp (hq.b9 (by omega)) (by have:=iv1.1;have:=iv1.2.1;omega) fun H6 p6=>⟨p6,?_⟩
 have g1:=pre_get p6 g1
 have m1:=mul_in1 (a:=lead (seg q 0)) (b:=lead (seg q 1)) (A:=5) (B:=5) (by omega) (by omega)
 have m2:=tmod_nn (a:=lead (seg q 0)*lead (seg q 1)) (J:=p) (by omega) (by omega)
 ((try simp (maxSteps:=3000000) (dsimp:=false) (disch:=first|omega|simp only[lnx];omega) only[↓ypre,ypost,↓reduceIte,reduceEqDiff,reduceAdd,reduceSub,reduceLeDiff,zz0,ynew,rd_sg g1 q27 (f:=2) (by omega) 18 rfl,wrap64_in,bin_rem (show p≠0 by omega)]);try simp only[yback])
 refine i_multiple (q:=seg q 2) pp (hq.b9 (by omega)) (by omega) fun H7 p7=>?_
 rw[scF_cong (k':=lead (seg q 0)*lead (seg q 1)) pp.1 (hq.b9 (by omega)).1 (Cg.tmod _ _)]
 have g2:=pre_get (p3.trans (p4.trans (p5.trans (p6.trans p7)))) hb2
 have a9:(scF p (seg q 0) (inv p (lead (seg q 0)))).length=9:=scF_len
 have b9:(scF p (seg q 1) (inv p (lead (seg q 1)))).length=9:=scF_len
 have c9:(scF p (seg q 2) (lead (seg q 0)*lead (seg q 1))).length=9:=scF_len
 obtain⟨sa,sb,sc⟩:=sp27 a9 b9 c9
 have n27:=(nrm_Pr hp hq).bb.1
 have w27:=wr_full (vs:=cel .u8 (nrm p q)) g2 (by rw[cel_len,n27];rfl)
 have t27:(cel .u8 (nrm p q)).take 27=cel .u8 (nrm p q):=List.take_of_length_le (by rw[cel_len,n27];exact Nat.le_refl _)
 have l2:=get_lt g2
 have en:scF p (seg q 0) (inv p (lead (seg q 0)))++scF p (seg q 1) (inv p (lead (seg q 1)))++scF p (seg q 2) (lead (seg q 0)*lead (seg q 1))=nrm p q:=rfl
 rw[en] at sc
 ((try simp (maxSteps:=3000000) (dsimp:=false) (disch:=first|omega|simp only[lnx];omega) only[↓ypre,ypost,↓reduceIte,reduceEqDiff,reduceAdd,reduceSub,reduceLeDiff,zz0,ynew,aggV,cellsL_cel,cel_len,a9,b9,c9,zeros27,sa,sb,sc,cel_all,n27,List.length_replicate,w27,rdn_put_same,t27]);try simp only[yback])
 exact hQ _ (pre_put (p1.trans (p2.trans (p3.trans (p4.trans (p5.trans (p6.trans p7)))))) (by omega))
theorem nrms_next {p:Int} {L:List (List Int)} {i:Nat} (hi:i<L.length):nrms p (L.take (i+1))=nrms p (L.take i)++[nrm p (L.getD i [])]:=by
 unfold nrms
 rw[take_next (d:=[]) hi,List.map_append]
 rfl
theorem i_normals {x:Sch} {v:Value} {h:AH} {Q:Value→AH→Prop} (g:GX x) (hv:Prods h v x.ps) (hQ:∀ w h',h<+:h'→OwnP h.length h' w (nrms x.p x.ps)→Q (schV (wps x (nrms x.p x.ps)) w) h'):WF S 159 [schV x v] h Q:=by
 refine WF_fn (fn:=c159) rfl rfl ?_
 dsimp only[c159,oO,oM,oS,oG,oK,oE,oL,oF,oX,oN]
 have o1:=hv.one
 obtain⟨hs,h30,hall⟩:=g.parts
 have hP:=szX_isP hs
 ((try simp (maxSteps:=3000000) (dsimp:=false) (disch:=first|omega|simp only[lnx];omega) only[↓ypre,ypost,↓reduceIte,reduceEqDiff,reduceAdd,reduceSub,reduceLeDiff,zz0,ynew,schV,o1,fillL,zrep]);try simp only[yback])
 generalize hH1:AH.new h _=H1
 obtain⟨hb1,p1,n1⟩:=new_facts hH1
 generalize hH2:AH.new H1 _=H2
 obtain⟨hb2,p2,n2⟩:=new_facts hH2
 generalize hH3:AH.new H2 _=H3
 obtain⟨hb3,p3,n3⟩:=new_facts hH3
 have g1:=pre_get (p2.trans p3) hb1
 have g2:=pre_get p3 hb2
 have P3:=p1.trans (p2.trans p3)
 have vl:=hv.1.len
 have w0:Wid 27 (nrms x.p (x.ps.take 0)):=fun q hq=>by simp[nrms] at hq
 ((try simp (maxSteps:=3000000) (dsimp:=false) (disch:=first|omega|simp only[lnx];omega) only[↓ypre,ypost,↓reduceIte,reduceEqDiff,reduceAdd,reduceSub,reduceLeDiff,zz0,ynew,rd1_of g1,vl]);try simp only[yback])
 refine WC_loop_inv (fun m f K1=>∃ (i:Nat) (kb:Nat) (fu:Bool),m=x.ps.length-i∧i≤x.ps.length∧f 1=.pointer (some ⟨h.length,0,none⟩)∧f 2=.pointer (some ⟨H1.length,0,none⟩)∧f 3=.slice (some ⟨kb,0,none⟩) (nrms x.p (x.ps.take i)).length 27∧f 8=v∧f 9=I64 x.ps.length∧f 10=I64 i∧(h<+:K1)∧(K1.get h.length=some ⟨[I64 x.p,I64 x.n,I64 x.m,I64 x.k,v],26,false,true⟩)∧(K1.get H1.length=some ⟨_,_,false,true⟩)∧(K1.get kb=some ⟨cel .u8 (nrms x.p (x.ps.take i)).flatten,138,false,fu⟩)∧(H2.length≤kb)∧(Wid 27 (nrms x.p (x.ps.take i)))) ?_ (x.ps.length-0) _ _ ⟨0,H2.length,true,rfl,by omega,(by first|rfl|simp[upd_apply]),(by first|rfl|simp[upd_apply]),(by first|rfl|simp[upd_apply]),(by first|rfl|simp[upd_apply]),(by first|rfl|simp[upd_apply]),(by first|rfl|simp[upd_apply]),P3,g1,g2,hb3,Nat.le_refl _,w0⟩
 rintro m f K1 ⟨i,kb,fu,rfl,hi,f1,f2,f3,f8,f9,f10,pp,g1,g2,gb,hk,wn⟩
 by_cases hlt:(i:Int)<x.ps.length
 ·have hi:i<x.ps.length:=by omega
  obtain⟨nn,off,ix,rd⟩:=((hv.pre pp).1).at hi
  have prq:=g.pr (gd_mem hi)
  have q27:=prq.bb.1
  have r27:AH.rdn K1 nn off 27=some (cel .u8 (x.ps.getD i [])):=by
   have:=rd.1 0 27 (by omega)
   rwa [Nat.add_zero,List.drop_zero,List.take_of_length_le (by omega)] at this
  have t27:(cel .u8 (x.ps.getD i [])).take 27=cel .u8 (x.ps.getD i []):=List.take_of_length_le (by rw[cel_len,q27];exact Nat.le_refl _)
  ((try simp (maxSteps:=3000000) (dsimp:=false) (disch:=first|omega|simp only[lnx];omega) only[↓ypre,ypost,↓reduceIte,reduceEqDiff,reduceAdd,reduceSub,reduceLeDiff,zz0,ynew,f1,f2,f3,f8,f9,f10,decide_eq_true hlt,ix,r27,cel_all,cel_len,q27,sp27z q27,zrep27,splice_27 q27]);try simp only[yback])
  generalize hJ1:AH.new K1 _=J1
  obtain⟨b1,s1,m1⟩:=new_facts hJ1
  ((try simp (maxSteps:=3000000) (dsimp:=false) (disch:=first|omega|simp only[lnx];omega) only[↓ypre,ypost,↓reduceIte,reduceEqDiff,reduceAdd,reduceSub,reduceLeDiff,zz0,ynew,f1,f2,f3,f8,f9,f10,rd1_of (pre_get s1 g1),rdn_of b1,cel_len,q27,t27]);try simp only[yback])
  refine i_normal hP prq fun J2 s2=>?_
  have n27:=(nrm_Pr hP prq).bb.1
  have tn:(cel .u8 (nrm x.p (x.ps.getD i []))).take 27=cel .u8 (nrm x.p (x.ps.getD i [])):=List.take_of_length_le (by rw[cel_len,n27];exact Nat.le_refl _)
  have S2:=s1.trans s2
  have ln:(nrms x.p (x.ps.take i)).length=i:=by unfold nrms;rw[List.length_map,List.length_take];omega
  ((try simp (maxSteps:=3000000) (dsimp:=false) (disch:=first|omega|simp only[lnx];omega) only[↓ypre,ypost,↓reduceIte,reduceEqDiff,reduceAdd,reduceSub,reduceLeDiff,zz0,ynew,f1,f2,f3,f8,f9,f10,aggV,cellsL_cel,cel_len,n27,zrep27,sp27z n27,fillL,cel_all,List.append_nil,List.length_replicate]);try simp only[yback])
  refine app_kp (bytes:=27) (pre_get S2 gb) wn n27 (by omega) (by omega) fun H' l' k' g' w'=>?_
  have lkb:=get_lt gb
  have hS:=pre_len S2
  have g1:=k'.get (by omega) (pre_get S2 g1)
  have g2:=k'.get (by omega) (pre_get S2 g2)
  ((try simp (maxSteps:=3000000) (dsimp:=false) (disch:=first|omega|simp only[lnx];omega) only[↓ypre,ypost,↓reduceIte,reduceEqDiff,reduceAdd,reduceSub,reduceLeDiff,zz0,ynew,f1,f2,f3,f8,f9,f10,wrap64_in]);try simp only[yback])
  rw[←nrms_next hi] at g' w'
  refine InvQ_go (x.ps.length-(i+1)) (by omega) ⟨(i+1),(J2.length+1),false,rfl,by omega,(by first|rfl|exact f1|(simp only[upd_apply];rfl)|(show I64 _=_;congr 1;omega)),(by first|rfl|exact f2|(simp only[upd_apply];rfl)|(show I64 _=_;congr 1;omega)),(by rw[nrms_next hi,List.length_append];rfl),(by first|rfl|exact f8|(simp only[upd_apply];rfl)|(show I64 _=_;congr 1;omega)),(by first|rfl|exact f9|(simp only[upd_apply];rfl)|(show I64 _=_;congr 1;omega)),(by first|rfl|exact f10|(simp only[upd_apply];rfl)|(show I64 _=_;congr 1;omega)),(k'.pre (pp.trans S2) (by omega)),g1,g2,g',(by omega),w'⟩
 ·have ei:i=x.ps.length:=by omega
  subst ei
  rw[List.take_length] at gb wn f3
  ((try simp (maxSteps:=3000000) (dsimp:=false) (disch:=first|omega|simp only[lnx];omega) only[↓ypre,ypost,↓reduceIte,reduceEqDiff,reduceAdd,reduceSub,reduceLeDiff,zz0,ynew,f1,f2,f3,f8,f9,f10,decide_eq_false hlt,rdn_of g1]);try simp only[yback])
  refine i_with (x:=x) (L:=nrms x.p x.ps) (v:=v) o1 rfl rfl fun H4 p4=>?_
  have g2:=pre_get p4 g2
  have l2:=get_lt g2
  have gb:=pre_get p4 gb
  have ln:(nrms x.p x.ps).length=x.ps.length:=List.length_map _
  ((try simp (maxSteps:=3000000) (dsimp:=false) (disch:=first|omega|simp only[lnx];omega) only[↓ypre,ypost,↓reduceIte,reduceEqDiff,reduceAdd,reduceSub,reduceLeDiff,zz0,ynew,f1,f2,f3,f8,f9,f10,schV,wr_of g2,splice_eq,rdn_put_same]);try simp only[yback])
  exact hQ _ _ (pre_put (pp.trans p4) (by omega)) ⟨wn,.inr ⟨kb,fu,rfl,by omega,by rw[get_put_ne (by omega)];exact gb⟩⟩
theorem i_times {p:Int} {fa ga:List Int} {h:AH} {Q:Value→AH→Prop} (hp:isP p=true) (hf:Fm p fa) (hz:isZ fa=false) (bf:By 9 fa) (bg:By 9 ga) (lg:0≤lead ga) (hQ:∀ h',h<+:h'→Q (I64 (tms p fa ga)) h'):WF S 327 [I64 p,aggV .u8 fa,aggV .u8 ga] h Q:=by
 refine WF_fn (fn:=c327) rfl rfl ?_
 dsimp only[c327,oO,oM,oS,oG,oK,oE,oL,oF,oX,oN]
 have pp:=isP_in hp
 obtain⟨P,rfl⟩:∃ P:Nat,p=P:=⟨p.toNat,by omega⟩
 have f9:=bf.1
 have g9:=bg.1
 have tf:(cel .u8 fa).take 9=cel .u8 fa:=List.take_of_length_le (by rw[cel_len,f9];exact Nat.le_refl _)
 have tg:(cel .u8 ga).take 9=cel .u8 ga:=List.take_of_length_le (by rw[cel_len,g9];exact Nat.le_refl _)
 ((try simp (maxSteps:=3000000) (dsimp:=false) (disch:=first|omega|simp only[lnx];omega) only[↓ypre,ypost,↓reduceIte,reduceEqDiff,reduceAdd,reduceSub,reduceLeDiff,zz0,ynew,aggV,cellsL_cel,cel_all]);try simp only[yback])
 generalize hH1:AH.new h _=H1
 obtain⟨hb1,p1,n1⟩:=new_facts hH1
 generalize hH2:AH.new H1 _=H2
 obtain⟨hb2,p2,n2⟩:=new_facts hH2
 have g1:=pre_get p2 hb1
 refine WC_loop_inv (fun m f K1=>∃ (i:Nat),m=P-i∧i≤P∧f 0=I64 P∧f 4=.pointer (some ⟨h.length,0,none⟩)∧f 5=.pointer (some ⟨H1.length,0,none⟩)∧f 7=I64 i∧(H2<+:K1)∧(1≤i)∧((∀ s:Int,1≤s→s<i→scF P fa s≠ga))) ?_ (P-1) _ _ ⟨1,rfl,by omega,(by first|rfl|simp[upd_apply]),(by first|rfl|simp[upd_apply]),(by first|rfl|simp[upd_apply]),(by first|rfl|simp[upd_apply]),List.prefix_refl _,Nat.le_refl _,(fun s h1 h2=>by omega)⟩
 rintro m f K1 ⟨i,rfl,hi,f0,f4,f5,f7,pp2,h1,no⟩
 by_cases hlt:(i:Int)<P
 ·((try simp (maxSteps:=3000000) (dsimp:=false) (disch:=first|omega|simp only[lnx];omega) only[↓ypre,ypost,↓reduceIte,reduceEqDiff,reduceAdd,reduceSub,reduceLeDiff,zz0,ynew,f0,f4,f5,f7,decide_eq_true hlt,rdn_of (pre_get pp2 g1),cel_len,f9,tf]);try simp only[yback])
  refine i_multiple (k:=i) pp bf (by omega) fun K2 p3=>⟨p3,?_⟩
  have g2:=pre_get (pp2.trans p3) hb2
  have e:=eqaV_cel (k:=.u8) (n:=9) (scF_len (p:=P) (f:=fa) (k:=i)) g9 (by omega)
  by_cases hs:scF P fa i=ga
  ·have e2:(scF P fa i==ga)=true:=by simpa using hs
   rw[e2] at e
   ((try simp (maxSteps:=3000000) (dsimp:=false) (disch:=first|omega|simp only[lnx];omega) only[↓ypre,ypost,↓reduceIte,reduceEqDiff,reduceAdd,reduceSub,reduceLeDiff,zz0,ynew,f0,f4,f5,f7,aggV,rdn_of g2,cel_len,g9,tg,e]);try simp only[yback])
   rw[tms_some hp hf hz (by omega) hs] at hQ
   exact hQ _ (p1.trans (p2.trans (pp2.trans p3)))
  ·have e2:(scF P fa i==ga)=false:=by simpa using hs
   rw[e2] at e
   ((try simp (maxSteps:=3000000) (dsimp:=false) (disch:=first|omega|simp only[lnx];omega) only[↓ypre,ypost,↓reduceIte,reduceEqDiff,reduceAdd,reduceSub,reduceLeDiff,zz0,ynew,f0,f4,f5,f7,aggV,rdn_of g2,cel_len,g9,tg,e,wrap64_in]);try simp only[yback])
   refine InvQ_go (P-(i+1)) (by omega) ⟨(i+1),rfl,by omega,(by first|rfl|exact f0|(simp only[upd_apply];rfl)|(show I64 _=_;congr 1;omega)),(by first|rfl|exact f4|(simp only[upd_apply];rfl)|(show I64 _=_;congr 1;omega)),(by first|rfl|exact f5|(simp only[upd_apply];rfl)|(show I64 _=_;congr 1;omega)),(by first|rfl|exact f7|(simp only[upd_apply];rfl)|(show I64 _=_;congr 1;omega)),(pp2.trans p3),(by omega),?_⟩
   intro s h1 h2
   by_cases h3:s<i
   ·exact no s h1 h3
   ·have:s=i:=by omega
    rw[this]
    exact hs
 ·((try simp (maxSteps:=3000000) (dsimp:=false) (disch:=first|omega|simp only[lnx];omega) only[↓ypre,ypost,↓reduceIte,reduceEqDiff,reduceAdd,reduceSub,reduceLeDiff,zz0,ynew,f0,f4,f5,f7,decide_eq_false hlt]);try simp only[yback])
  rw[tms_none hp hf hz lg fun s h1 h2=>no s h1 (by omega)] at hQ
  exact hQ _ (p1.trans (p2.trans pp2))
theorem beq_seg {a b:List Int}:(a==b)=decide (a=b):=by
 by_cases h:a=b<;>simp[h]
theorem mrg_1 {p:Int} {q r:List Int} (h:seg q 0=seg r 0∧seg q 1=seg r 1):mrg p q r=some (wth q 2 (addF p (seg q 2) (seg r 2) 1 9)):=by unfold mrg;rw[if_pos h]
theorem mrg_2 {p:Int} {q r:List Int} (h:¬ (seg q 0=seg r 0∧seg q 1=seg r 1)) (h2:seg q 0=seg r 0∧tms p (seg q 2) (seg r 2)≠0):mrg p q r=some (wth q 1 (addF p (seg q 1) (seg r 1) (tms p (seg q 2) (seg r 2)) 9)):=by unfold mrg;rw[if_neg h,if_pos h2]
theorem mrg_3 {p:Int} {q r:List Int} (h:¬ (seg q 0=seg r 0∧seg q 1=seg r 1)) (h2:¬ (seg q 0=seg r 0∧tms p (seg q 2) (seg r 2)≠0)) (h3:seg q 1=seg r 1∧tms p (seg q 2) (seg r 2)≠0):mrg p q r=some (wth q 0 (addF p (seg q 0) (seg r 0) (tms p (seg q 2) (seg r 2)) 9)):=by unfold mrg;rw[if_neg h,if_neg h2,if_pos h3]
theorem mrg_4 {p:Int} {q r:List Int} (h:¬ (seg q 0=seg r 0∧seg q 1=seg r 1)) (h2:¬ (seg q 0=seg r 0∧tms p (seg q 2) (seg r 2)≠0)) (h3:¬ (seg q 1=seg r 1∧tms p (seg q 2) (seg r 2)≠0)):mrg p q r=none:=by unfold mrg;rw[if_neg h,if_neg h2,if_neg h3]
theorem i_merged {p:Int} {q r:List Int} {h:AH} {Q:Value→AH→Prop} (hp:isP p=true) (hq:Pr p q) (hr:Pr p r) (hQ:∀ m h',h<+:h'→mrg p q r=some m→Q (.tuple #[aggV .u8 m,.bool true]) h')
  (hN:∀ h',h<+:h'→mrg p q r=none→Q (.tuple #[aggV .u8 (List.replicate 27 0),.bool false]) h'):WF S 281 [I64 p,aggV .u8 q,aggV .u8 r] h Q:=by
 refine WF_fn (fn:=c281) rfl rfl ?_
 dsimp only[c281,oO,oM,oS,oG,oK,oE,oL,oF,oX,oN]
 have pp:=isP_in hp
 have q27:=hq.bb.1
 have r27:=hr.bb.1
 have c0:∀ {q:List Int},(cel .u8 q).take 9=cel .u8 (seg q 0):=fun {q}=>by have:=cel_seg (q:=q) (f:=0);rwa [Nat.zero_mul,List.drop_zero] at this
 have c2:∀ {q:List Int},((cel .u8 q).drop 18).take 9=cel .u8 (seg q 2):=fun {q}=>cel_seg (f:=2)
 ((try simp (maxSteps:=3000000) (dsimp:=false) (disch:=first|omega|simp only[lnx];omega) only[↓ypre,ypost,↓reduceIte,reduceEqDiff,reduceAdd,reduceSub,reduceLeDiff,zz0,ynew,aggV,cellsL_cel,cel_all,cel_len,q27,r27,c2,zeros27]);try simp only[yback])
 generalize hH1:AH.new h _=H1
 obtain⟨hb1,p1,n1⟩:=new_facts hH1
 generalize hH2:AH.new H1 _=H2
 obtain⟨hb2,p2,n2⟩:=new_facts hH2
 generalize hH3:AH.new H2 _=H3
 obtain⟨hb3,p3,n3⟩:=new_facts hH3
 have ldr:=hr.ld (j:=2) (by omega)
 refine i_times hp (hq.f 2 (by omega)) (hq.z 2 (by omega)) (hq.b9 (by omega)) (hr.b9 (by omega)) (by omega) fun H4 p4=>?_
 have g1:=pre_get (p2.trans (p3.trans p4)) hb1
 have g2:=pre_get (p3.trans p4) hb2
 have g3:=pre_get p4 hb3
 have P4:=p1.trans (p2.trans (p3.trans p4))
 have ti:=tms_in (f:=seg q 2) (g:=seg r 2) pp.1 (by omega) (by have:=(inv_spec hp (hq.ld (j:=2) (by omega))).1;omega)
 have l1:=get_lt g1
 have l3:=get_lt g3
 have q4:=pre_len p4
 have e0:=eqaV_cel (k:=.u8) (seg_n9 q27 (show 0<3 by omega)) (seg_n9 r27 (show 0<3 by omega)) (by omega)
 have e1:=eqaV_cel (k:=.u8) (seg_n9 q27 (show 1<3 by omega)) (seg_n9 r27 (show 1<3 by omega)) (by omega)
 rw[beq_seg] at e0 e1
 have a0:=rd_sg g1 q27 (f:=0) (by omega) 0 rfl
 have b0:=rd_sg g2 r27 (f:=0) (by omega) 0 rfl
 have a1:=rd_sg g1 q27 (f:=1) (by omega) 9 rfl
 have b1:=rd_sg g2 r27 (f:=1) (by omega) 9 rfl
 have a2:=rd_sg g1 q27 (f:=2) (by omega) 18 rfl
 have b2:=rd_sg g2 r27 (f:=2) (by omega) 18 rfl
 have wz:=wr_full (vs:=cel .u8 (List.replicate 27 0)) g3 (by rw[cel_len])
 have tz:(cel .u8 (List.replicate 27 0)).take 27=cel .u8 (List.replicate 27 0):=rfl
 by_cases hA0:seg q 0=seg r 0
 ·by_cases hA1:seg q 1=seg r 1
  ·skip
   ((try simp (maxSteps:=3000000) (dsimp:=false) (disch:=first|omega|simp only[lnx];omega) only[↓ypre,ypost,↓reduceIte,reduceEqDiff,reduceAdd,reduceSub,reduceLeDiff,zz0,ynew,a0,b0,e0,decide_eq_true hA0,a1,b1,e1,decide_eq_true hA1,a2,b2]);try simp only[yback])
   refine i_sum (k:=1) pp (hq.b9 (j:=2) (by omega)) (hr.b9 (j:=2) (by omega)) (by omega) fun H5 p5=>?_
   have ad:=addF_by (k:=1) (b:=seg r 2) (i:=9) pp (hq.b9 (j:=2) (by omega)) (Nat.le_refl _)
   have g15:=pre_get p5 g1
   have g35:=pre_get p5 g3
   have w1:AH.wr H5 h.length 18 (cel .u8 (addF p (seg q 2) (seg r 2) (1) 9))=_:=wr_seg g15 q27 ad.1 (f:=2) (by omega)
   generalize hH6:AH.put H5 _ _=H6 at w1
   have l15:=get_lt g15
   have g16:H6.get h.length=some ⟨cel .u8 (wth q 2 (addF p (seg q 2) (seg r 2) (1) 9)),138,false,true⟩:=by rw[←hH6];exact get_put_same l15
   have g36:=(show AH.get H6 H2.length=AH.get H5 H2.length from by rw[←hH6];exact get_put_ne (by omega)).trans g35
   have m27:=wth_len (f:=2) q27 ad.1 (by omega)
   have t27:(cel .u8 (wth q 2 (addF p (seg q 2) (seg r 2) (1) 9))).take 27=cel .u8 (wth q 2 (addF p (seg q 2) (seg r 2) (1) 9)):=List.take_of_length_le (by rw[cel_len,m27];exact Nat.le_refl _)
   have w27:=wr_full (vs:=cel .u8 (wth q 2 (addF p (seg q 2) (seg r 2) (1) 9))) g36 (by rw[cel_len,m27];rfl)
   have l36:=get_lt g36
   have P6:h<+:H6:=by rw[←hH6];exact pre_put (P4.trans p5) (Nat.le_refl _)
   ((try simp (maxSteps:=3000000) (dsimp:=false) (disch:=first|omega|simp only[lnx];omega) only[↓ypre,ypost,↓reduceIte,reduceEqDiff,reduceAdd,reduceSub,reduceLeDiff,zz0,ynew,aggV,cellsL_cel,cel_len,ad.1,cel_all,w1,rdn_of g16,m27,t27,w27,rdn_put_same]);try simp only[yback])
   exact hQ _ _ (pre_put P6 (by omega)) (mrg_1 ⟨hA0,hA1⟩)
  ·by_cases ht:tms p (seg q 2) (seg r 2)>0
   ·skip
    ((try simp (maxSteps:=3000000) (dsimp:=false) (disch:=first|omega|simp only[lnx];omega) only[↓ypre,ypost,↓reduceIte,reduceEqDiff,reduceAdd,reduceSub,reduceLeDiff,zz0,ynew,a0,b0,e0,decide_eq_true hA0,a1,b1,e1,decide_eq_false hA1,decide_eq_true ht]);try simp only[yback])
    refine i_sum (k:=tms p (seg q 2) (seg r 2)) pp (hq.b9 (j:=1) (by omega)) (hr.b9 (j:=1) (by omega)) (by omega) fun H5 p5=>?_
    have ad:=addF_by (k:=tms p (seg q 2) (seg r 2)) (b:=seg r 1) (i:=9) pp (hq.b9 (j:=1) (by omega)) (Nat.le_refl _)
    have g15:=pre_get p5 g1
    have g35:=pre_get p5 g3
    have w1:AH.wr H5 h.length 9 (cel .u8 (addF p (seg q 1) (seg r 1) (tms p (seg q 2) (seg r 2)) 9))=_:=wr_seg g15 q27 ad.1 (f:=1) (by omega)
    generalize hH6:AH.put H5 _ _=H6 at w1
    have l15:=get_lt g15
    have g16:H6.get h.length=some ⟨cel .u8 (wth q 1 (addF p (seg q 1) (seg r 1) (tms p (seg q 2) (seg r 2)) 9)),138,false,true⟩:=by rw[←hH6];exact get_put_same l15
    have g36:=(show AH.get H6 H2.length=AH.get H5 H2.length from by rw[←hH6];exact get_put_ne (by omega)).trans g35
    have m27:=wth_len (f:=1) q27 ad.1 (by omega)
    have t27:(cel .u8 (wth q 1 (addF p (seg q 1) (seg r 1) (tms p (seg q 2) (seg r 2)) 9))).take 27=cel .u8 (wth q 1 (addF p (seg q 1) (seg r 1) (tms p (seg q 2) (seg r 2)) 9)):=List.take_of_length_le (by rw[cel_len,m27];exact Nat.le_refl _)
    have w27:=wr_full (vs:=cel .u8 (wth q 1 (addF p (seg q 1) (seg r 1) (tms p (seg q 2) (seg r 2)) 9))) g36 (by rw[cel_len,m27];rfl)
    have l36:=get_lt g36
    have P6:h<+:H6:=by rw[←hH6];exact pre_put (P4.trans p5) (Nat.le_refl _)
    ((try simp (maxSteps:=3000000) (dsimp:=false) (disch:=first|omega|simp only[lnx];omega) only[↓ypre,ypost,↓reduceIte,reduceEqDiff,reduceAdd,reduceSub,reduceLeDiff,zz0,ynew,aggV,cellsL_cel,cel_len,ad.1,cel_all,w1,rdn_of g16,m27,t27,w27,rdn_put_same]);try simp only[yback])
    exact hQ _ _ (pre_put P6 (by omega)) (mrg_2 (fun x=>hA1 x.2) ⟨hA0,by omega⟩)
   ·skip
    ((try simp (maxSteps:=3000000) (dsimp:=false) (disch:=first|omega|simp only[lnx];omega) only[↓ypre,ypost,↓reduceIte,reduceEqDiff,reduceAdd,reduceSub,reduceLeDiff,zz0,ynew,a0,b0,e0,decide_eq_true hA0,a1,b1,e1,decide_eq_false hA1,decide_eq_false ht,yWG_un,fillL,zeros27,cel_all,cel_len,List.length_replicate,wz,rdn_put_same,tz]);try simp only[yback])
    exact hN _ (pre_put P4 (by omega)) (mrg_4 (fun x=>hA1 x.2) (fun x=>x.2 (by omega)) (fun x=>hA1 x.1))
 ·by_cases hA1:seg q 1=seg r 1
  ·by_cases ht:tms p (seg q 2) (seg r 2)>0
   ·skip
    ((try simp (maxSteps:=3000000) (dsimp:=false) (disch:=first|omega|simp only[lnx];omega) only[↓ypre,ypost,↓reduceIte,reduceEqDiff,reduceAdd,reduceSub,reduceLeDiff,zz0,ynew,a0,b0,e0,decide_eq_false hA0,yWG_un,a1,b1,e1,decide_eq_true hA1,decide_eq_true ht]);try simp only[yback])
    refine i_sum (k:=tms p (seg q 2) (seg r 2)) pp (hq.b9 (j:=0) (by omega)) (hr.b9 (j:=0) (by omega)) (by omega) fun H5 p5=>?_
    have ad:=addF_by (k:=tms p (seg q 2) (seg r 2)) (b:=seg r 0) (i:=9) pp (hq.b9 (j:=0) (by omega)) (Nat.le_refl _)
    have g15:=pre_get p5 g1
    have g35:=pre_get p5 g3
    have w1:AH.wr H5 h.length 0 (cel .u8 (addF p (seg q 0) (seg r 0) (tms p (seg q 2) (seg r 2)) 9))=_:=wr_seg g15 q27 ad.1 (f:=0) (by omega)
    generalize hH6:AH.put H5 _ _=H6 at w1
    have l15:=get_lt g15
    have g16:H6.get h.length=some ⟨cel .u8 (wth q 0 (addF p (seg q 0) (seg r 0) (tms p (seg q 2) (seg r 2)) 9)),138,false,true⟩:=by rw[←hH6];exact get_put_same l15
    have g36:=(show AH.get H6 H2.length=AH.get H5 H2.length from by rw[←hH6];exact get_put_ne (by omega)).trans g35
    have m27:=wth_len (f:=0) q27 ad.1 (by omega)
    have t27:(cel .u8 (wth q 0 (addF p (seg q 0) (seg r 0) (tms p (seg q 2) (seg r 2)) 9))).take 27=cel .u8 (wth q 0 (addF p (seg q 0) (seg r 0) (tms p (seg q 2) (seg r 2)) 9)):=List.take_of_length_le (by rw[cel_len,m27];exact Nat.le_refl _)
    have w27:=wr_full (vs:=cel .u8 (wth q 0 (addF p (seg q 0) (seg r 0) (tms p (seg q 2) (seg r 2)) 9))) g36 (by rw[cel_len,m27];rfl)
    have l36:=get_lt g36
    have P6:h<+:H6:=by rw[←hH6];exact pre_put (P4.trans p5) (Nat.le_refl _)
    ((try simp (maxSteps:=3000000) (dsimp:=false) (disch:=first|omega|simp only[lnx];omega) only[↓ypre,ypost,↓reduceIte,reduceEqDiff,reduceAdd,reduceSub,reduceLeDiff,zz0,ynew,aggV,cellsL_cel,cel_len,ad.1,cel_all,w1,rdn_of g16,m27,t27,w27,rdn_put_same]);try simp only[yback])
    exact hQ _ _ (pre_put P6 (by omega)) (mrg_3 (fun x=>hA0 x.1) (fun x=>hA0 x.1) ⟨hA1,by omega⟩)
   ·skip
    ((try simp (maxSteps:=3000000) (dsimp:=false) (disch:=first|omega|simp only[lnx];omega) only[↓ypre,ypost,↓reduceIte,reduceEqDiff,reduceAdd,reduceSub,reduceLeDiff,zz0,ynew,a0,b0,e0,decide_eq_false hA0,yWG_un,a1,b1,e1,decide_eq_true hA1,decide_eq_false ht,fillL,zeros27,cel_all,cel_len,List.length_replicate,wz,rdn_put_same,tz]);try simp only[yback])
    exact hN _ (pre_put P4 (by omega)) (mrg_4 (fun x=>hA0 x.1) (fun x=>hA0 x.1) (fun x=>x.2 (by omega)))
  ·skip
   ((try simp (maxSteps:=3000000) (dsimp:=false) (disch:=first|omega|simp only[lnx];omega) only[↓ypre,ypost,↓reduceIte,reduceEqDiff,reduceAdd,reduceSub,reduceLeDiff,zz0,ynew,a0,b0,e0,decide_eq_false hA0,yWG_un,a1,b1,e1,decide_eq_false hA1,fillL,zeros27,cel_all,cel_len,List.length_replicate,wz,rdn_put_same,tz]);try simp only[yback])
   exact hN _ (pre_put P4 (by omega)) (mrg_4 (fun x=>hA0 x.1) (fun x=>hA0 x.1) (fun x=>hA1 x.1))
def RdE (h:AH) (v:Value) (R:List (List Int)):Prop:=
 (R=[]∧∃ t,v=.slice none 0 t)∨∃ n off,v=.slice (some ⟨n,off,none⟩) R.length 27∧h.rdn n off (R.length*27)=some (cel .u8 R.flatten)
section
variable {h h':AH} {v:Value} {R L:List (List Int)} {b off j m:Nat}
theorem rdn_pre {n k:Nat} {c:List Value} (p:h<+:h') (e:h.rdn n off k=some c):h'.rdn n off k=some c:=by
 rw[rdn_eq] at e ⊢
 cases hg:h.get n with
 | none=>rw[hg] at e;cases e
 | some b=>rw[pre_get p hg];rw[hg] at e;exact e
theorem RdE.pre (e:RdE h v R) (p:h<+:h'):RdE h' v R:=by
 rcases e with e|⟨n,off,e1,e2⟩
 ·exact .inl e
 ·exact .inr ⟨n,off,e1,rdn_pre p e2⟩
theorem RdE.len (e:RdE h v R):lenV v=some (I64 R.length):=by
 rcases e with⟨rfl,t,rfl⟩|⟨n,off,rfl,e2⟩<;>rfl
theorem RdE.one (e:RdE h v R):isOne v=true:=by
 rcases e with⟨rfl,t,rfl⟩|⟨n,off,rfl,e2⟩<;>rfl
theorem RdE.cells (e:RdE h v R):cellsL v=[v]:=by
 rcases e with⟨rfl,t,rfl⟩|⟨n,off,rfl,e2⟩<;>rfl
theorem flat_dr {w:Nat}:∀ {L:List (List Int)} {i:Nat},Wid w L→i≤L.length→L.flatten.drop (i*w)=(L.drop i).flatten
 | [],i,_,h=>by simp
 | r::L,0,_,_=>by simp
 | r::L,i+1,hw,h=>by
  have hr:=hw r (by simp)
  rw[List.drop_succ_cons,List.flatten_cons,Nat.succ_mul,List.drop_append,List.drop_of_length_le (by omega),List.nil_append,show i*w+w-r.length=i*w by omega,flat_dr (fun q hq=>hw q (by simp[hq])) (by simpa using h)]
theorem rdn_sub (hw:Wid 27 L) (e:h.rdn b off (L.length*27)=some (cel .u8 L.flatten)) (hj:j+m≤L.length):h.rdn b (off+j*27) (m*27)=some (cel .u8 ((L.drop j).take m).flatten):=by
 rw[rdn_eq] at e ⊢
 cases hg:h.get b with
 | none=>rw[hg] at e;cases e
 | some blk=>
  rw[hg] at e
  simp only[Option.bind_some] at e ⊢
  have hm:j*27+m*27≤L.length*27:=by rw[←Nat.add_mul];exact Nat.mul_le_mul_right _ hj
  split at e
  ·rename_i hl
   rw[if_pos (by omega)]
   have e2:=Option.some.inj e
   have e3:(blk.c.drop (off+j*27)).take (m*27)=(((blk.c.drop off).take (L.length*27)).drop (j*27)).take (m*27):=by
    rw[List.drop_take,List.drop_drop,List.take_take,Nat.min_eq_left (by omega)]
   have wd:Wid 27 (L.drop j):=fun q hq=>hw q (List.mem_of_mem_drop hq)
   rw[e3,e2,cel_drop,cel_take,flat_dr hw (by omega),flat_tk wd (by rw[List.length_drop];omega)]
  ·cases e
theorem OwnP.appR {lo:Nat} {H:AH} {sv:Value} {C:List (List Int)} (o:OwnP lo H sv C) (hv:RdE H v R) (wR:Wid 27 R) (hl:C.length+R.length≤1000) (hlo:lo≤H.length) {Q:Value→AH→Prop}
  (hQ:∀ (sv':Value) (H':AH),(∀ h0:AH,h0.length≤lo→h0<+:H→h0<+:H')→OwnP lo H' sv' (C++R)→Q sv' H'):OQ (appV 138 27 27 sv v H) Q:=by
 have wCR:Wid 27 C→Wid 27 (C++R):=fun w q hq=>by
  rcases List.mem_append.1 hq with h|h
  ·exact w q h
  ·exact wR q h
 obtain⟨wC,hs⟩:=o
 by_cases h0:R.length=0
 ·have e0:R=[]:=List.length_eq_zero_iff.1 h0
  subst e0
  have e:appV 138 27 27 sv v H=some (sv,H):=by
   rcases hs with⟨rfl,rfl⟩|⟨kb,fu,rfl,h2,h3⟩
   ·rcases hv with⟨_,t,rfl⟩|⟨n,off,rfl,e2⟩
    ·simp[appV,xop,ev]
    ·simp only[List.length_nil,Nat.zero_mul] at e2
     simp[appV,xop,ev,e2]
   ·rcases hv with⟨_,t,rfl⟩|⟨n,off,rfl,e2⟩
    ·simp only[appV,xop,ev,if_true]
     rw[if_pos (by omega)]
    ·simp only[List.length_nil,Nat.zero_mul] at e2
     simp only[appV,xop,ev,if_true,List.length_nil,Nat.zero_mul,e2]
     rw[if_pos (by omega)]
  rw[e,OQ_some]
  refine hQ sv H (fun h0 _ p=>p) ?_
  rw[List.append_nil]
  exact⟨wC,hs⟩
 ·rcases hv with⟨rfl,_⟩|⟨n,off,rfl,e2⟩
  ·simp at h0
  rcases hs with⟨rfl,rfl⟩|⟨kb,fu,rfl,h2,h3⟩
  ·have e:appV 138 27 27 (.slice none 0 0) (.slice (some ⟨n,off,none⟩) R.length 27) H=some (.slice (some ⟨H.length,0,none⟩) R.length 27,H.new ⟨cel .u8 R.flatten,138,false,false⟩):=by
    simp only[appV,xop,ev,if_true,e2]
    rw[if_pos (by omega),if_pos (by simp),if_neg (by omega)]
   rw[e,OQ_some]
   exact hQ _ _ (fun h0 _ p=>pre_new p) ⟨by simpa using wR,.inr ⟨H.length,false,by simp,hlo,by simpa using get_new_same⟩⟩
  ·have fl:=flat_len wC
   have e:appV 138 27 27 (.slice (some ⟨kb,0,none⟩) C.length 27) (.slice (some ⟨n,off,none⟩) R.length 27) H=some (.slice (some ⟨H.length,0,none⟩) (C++R).length 27,(H.kill kb).new ⟨cel .u8 (C++R).flatten,138,false,false⟩):=by
    simp only[appV,xop,ev,if_true,e2,h3]
    rw[if_pos (by omega),if_neg (by omega)]
    simp[cel_len,fl,cel_app]
   rw[e,OQ_some]
   exact hQ _ _ (fun h0 q p=>pre_new (pre_kill p (by omega))) ⟨wCR wC,.inr ⟨H.length,false,rfl,hlo,get_new_eq (by rw[len_kill])⟩⟩
end
theorem i_GrowP {n:Nat} {h:AH} {Q:Value→AH→Prop} (hn:n≤1000) (hQ:∀ w h',h<+:h'→OwnP h.length h' w []→Q w h'):WF S 338 [.slice none 0 0,I64 n] h Q:=by
 refine WF_fn (fn:=c338) rfl rfl ?_
 dsimp only[c338,oO,oM,oS,oG,oK,oE,oL,oF,oX,oN]
 have w0:Wid 27 ([]:List (List Int)):=fun q hq=>by simp at hq
 by_cases h0:(n:Int)>0
 ·((try simp (maxSteps:=3000000) (dsimp:=false) (disch:=first|omega|simp only[lnx];omega) only[↓ypre,ypost,↓reduceIte,reduceEqDiff,reduceAdd,reduceSub,reduceLeDiff,zz0,ynew,decide_eq_false (show ¬ (n:Int)<0 by omega),capV_nil,show lenV (.slice none 0 0)=some (I64 0) from rfl,wrap64_in,Int.sub_zero,decide_eq_true h0]);try simp only[yback])
  have s1:slcV 27 (.slice none 0 0) none (some (I64 0))=some (.slice none 0 0):=rfl
  have e1:appzV 138 27 27 (.slice none 0 0) (I64 n) h=some (.slice (some ⟨h.length,0,none⟩) n 27,h.new ⟨[],138,false,false⟩):=by
   rw[appzV_nil,if_pos (by omega),Int.toNat_natCast]
  have s2:slcV 27 (.slice (some ⟨h.length,0,none⟩) n 27) none (some (.int .i64 ((0:Nat):Int)))=some (.slice (some ⟨h.length,0,none⟩) 0 27):=by
   simp[slcV,boundV]
  ((try simp (maxSteps:=3000000) (dsimp:=false) (disch:=first|omega|simp only[lnx];omega) only[↓ypre,ypost,↓reduceIte,reduceEqDiff,reduceAdd,reduceSub,reduceLeDiff,zz0,ynew,omapF_none,omapF_some,s1,e1,s2]);try simp only[yback])
  exact hQ _ _ (pre_new (List.prefix_refl _)) ⟨w0,.inr ⟨h.length,false,rfl,Nat.le_refl _,get_new_same⟩⟩
 ·((try simp (maxSteps:=3000000) (dsimp:=false) (disch:=first|omega|simp only[lnx];omega) only[↓ypre,ypost,↓reduceIte,reduceEqDiff,reduceAdd,reduceSub,reduceLeDiff,zz0,ynew,decide_eq_false (show ¬ (n:Int)<0 by omega),capV_nil,show lenV (.slice none 0 0)=some (I64 0) from rfl,wrap64_in,Int.sub_zero,decide_eq_false h0]);try simp only[yback])
  exact hQ _ _ (List.prefix_refl _) ⟨w0,.inl ⟨rfl,rfl⟩⟩
def len2 (L R:List (List Int)) (i:Nat):Nat:=if i=0 then 0 else if i=1 then L.length else L.length+R.length
def cat2 (L R:List (List Int)) (i:Nat):List (List Int):=if i=0 then [] else if i=1 then L else L++R
theorem i_ConcatP {mb:Nat} {e:TypeId} {ro fl:Bool} {a b:Value} {L R:List (List Int)} {h:AH} {Q:Value→AH→Prop} (hm:h.get mb=some ⟨[a,b],e,ro,fl⟩) (ha:RdE h a L) (hb:RdE h b R) (wL:Wid 27 L) (wR:Wid 27 R) (hl:L.length+R.length≤1000)
  (hQ:∀ w h',h<+:h'→OwnP h.length h' w (L++R)→Q w h'):WF S 328 [.slice (some ⟨mb,0,none⟩) 2 1] h Q:=by
 refine WF_fn (fn:=c328) rfl rfl ?_
 dsimp only[c328,oO,oM,oS,oG,oK,oE,oL,oF,oX,oN]
 ((try simp (maxSteps:=3000000) (dsimp:=false) (disch:=first|omega|simp only[lnx];omega) only[↓ypre,ypost,↓reduceIte,reduceEqDiff,reduceAdd,reduceSub,reduceLeDiff,zz0,ynew,show lenV (.slice (some ⟨mb,0,none⟩) 2 1)=some (I64 2) from rfl]);try simp only[yback])
 have j0:ixsV 1 (.slice (some ⟨mb,0,none⟩) 2 1) (I64 0)=some (.pointer (some ⟨mb,0,none⟩)):=rfl
 have j1:ixsV 1 (.slice (some ⟨mb,0,none⟩) 2 1) (I64 1)=some (.pointer (some ⟨mb,1,none⟩)):=rfl
 refine WC_loop_inv (fun m f K1=>∃ (i:Nat),m=2-i∧i≤2∧f 0=.slice (some ⟨mb,0,none⟩) 2 1∧f 3=I64 (len2 L R i)∧f 9=.slice (some ⟨mb,0,none⟩) 2 1∧f 10=I64 2∧f 11=I64 i∧(K1=h)) ?_ (2-0) _ _ ⟨0,rfl,by omega,(by first|rfl|simp[upd_apply]),(by first|rfl|simp[upd_apply]),(by first|rfl|simp[upd_apply]),(by first|rfl|simp[upd_apply]),(by first|rfl|simp[upd_apply]),rfl⟩
 rintro m f K1 ⟨i,rfl,hi,f0,f3,f9,f10,f11,hK⟩
 subst hK
 by_cases hlt:(i:Int)<2
 ·have hi:i=0∨i=1:=by omega
  rcases hi with rfl|rfl
  ·((try simp (maxSteps:=3000000) (dsimp:=false) (disch:=first|omega|simp only[lnx];omega) only[↓ypre,ypost,↓reduceIte,reduceEqDiff,reduceAdd,reduceSub,reduceLeDiff,zz0,ynew,f0,f3,f9,f10,f11,show ((0:Nat):Int)=0 from rfl,show decide ((0:Int)<2)=true from rfl,j0,rd1_of hm,ha.len,show len2 L R 0=0 from rfl,Int.zero_add,wrap64_in,decide_eq_false (show ¬ (L.length:Int)<0 by omega)]);try simp only[yback])
   refine InvQ_go (2-(0+1)) (by omega) ⟨(0+1),rfl,by omega,(by first|rfl|exact f0|(simp only[upd_apply];rfl)|(show I64 _=_;congr 1;omega)),(rfl),(by first|rfl|exact f9|(simp only[upd_apply];rfl)|(show I64 _=_;congr 1;omega)),(by first|rfl|exact f10|(simp only[upd_apply];rfl)|(show I64 _=_;congr 1;omega)),(rfl),rfl⟩
  ·((try simp (maxSteps:=3000000) (dsimp:=false) (disch:=first|omega|simp only[lnx];omega) only[↓ypre,ypost,↓reduceIte,reduceEqDiff,reduceAdd,reduceSub,reduceLeDiff,zz0,ynew,f0,f3,f9,f10,f11,show ((1:Nat):Int)=1 from rfl,show decide ((1:Int)<2)=true from rfl,j1,rd1_of hm,hb.len,show len2 L R 1=L.length from rfl,wrap64_in,decide_eq_false (show ¬ (L.length:Int)+R.length<0 by omega)]);try simp only[yback])
   refine InvQ_go (2-(1+1)) (by omega) ⟨(1+1),rfl,by omega,(by first|rfl|exact f0|(simp only[upd_apply];rfl)|(show I64 _=_;congr 1;omega)),(rfl),(by first|rfl|exact f9|(simp only[upd_apply];rfl)|(show I64 _=_;congr 1;omega)),(by first|rfl|exact f10|(simp only[upd_apply];rfl)|(show I64 _=_;congr 1;omega)),(rfl),rfl⟩
 have ei:i=2:=by omega
 subst ei
 ((try simp (maxSteps:=3000000) (dsimp:=false) (disch:=first|omega|simp only[lnx];omega) only[↓ypre,ypost,↓reduceIte,reduceEqDiff,reduceAdd,reduceSub,reduceLeDiff,zz0,ynew,f0,f3,f9,f10,f11,decide_eq_false hlt]);try simp only[yback])
 refine i_GrowP (n:=L.length+R.length) hl fun w1 H1 p1 o1=>?_
 ((try simp (maxSteps:=3000000) (dsimp:=false) (disch:=first|omega|simp only[lnx];omega) only[↓ypre,ypost,↓reduceIte,reduceEqDiff,reduceAdd,reduceSub,reduceLeDiff,zz0,ynew,f0,f3,f9,f10,f11,show lenV (.slice (some ⟨mb,0,none⟩) 2 1)=some (I64 2) from rfl]);try simp only[yback])
 refine WC_loop_inv (fun m f K2=>∃ (i:Nat) (sv:Value),m=2-i∧i≤2∧f 6=sv∧f 25=.slice (some ⟨mb,0,none⟩) 2 1∧f 26=I64 2∧f 27=I64 i∧(K1<+:K2)∧(OwnP K1.length K2 sv (cat2 L R i))) ?_ (2-0) _ _ ⟨0,w1,rfl,by omega,(by first|rfl|simp[upd_apply]),(by first|rfl|simp[upd_apply]),(by first|rfl|simp[upd_apply]),(by first|rfl|simp[upd_apply]),p1,o1⟩
 rintro m f K2 ⟨i,sv,rfl,hi,f6,f25,f26,f27,pp,o⟩
 by_cases hlt:(i:Int)<2
 ·have hm2:=pre_get pp hm
  have hi:i=0∨i=1:=by omega
  have lK:=pre_len pp
  rcases hi with rfl|rfl
  ·((try simp (maxSteps:=3000000) (dsimp:=false) (disch:=first|omega|simp only[lnx];omega) only[↓ypre,ypost,↓reduceIte,reduceEqDiff,reduceAdd,reduceSub,reduceLeDiff,zz0,ynew,f6,f25,f26,f27,show ((0:Nat):Int)=0 from rfl,show decide ((0:Int)<2)=true from rfl,j0,rd1_of hm2]);try simp only[yback])
   refine o.appR (ha.pre pp) wL (by show 0+L.length≤1000;omega) lK fun sv' H' p' o'=>?_
   ((try simp (maxSteps:=3000000) (dsimp:=false) (disch:=first|omega|simp only[lnx];omega) only[↓ypre,ypost,↓reduceIte,reduceEqDiff,reduceAdd,reduceSub,reduceLeDiff,zz0,ynew,f6,f25,f26,f27,wrap64_in]);try simp only[yback])
   refine InvQ_go (2-(0+1)) (by omega) ⟨(0+1),sv',rfl,by omega,(by first|rfl|exact f6|(simp only[upd_apply];rfl)|(show I64 _=_;congr 1;omega)),(by first|rfl|exact f25|(simp only[upd_apply];rfl)|(show I64 _=_;congr 1;omega)),(by first|rfl|exact f26|(simp only[upd_apply];rfl)|(show I64 _=_;congr 1;omega)),(rfl),(p' _ (Nat.le_refl _) pp),o'⟩
  ·((try simp (maxSteps:=3000000) (dsimp:=false) (disch:=first|omega|simp only[lnx];omega) only[↓ypre,ypost,↓reduceIte,reduceEqDiff,reduceAdd,reduceSub,reduceLeDiff,zz0,ynew,f6,f25,f26,f27,show ((1:Nat):Int)=1 from rfl,show decide ((1:Int)<2)=true from rfl,j1,rd1_of hm2]);try simp only[yback])
   refine o.appR (hb.pre pp) wR (by show L.length+R.length≤1000;omega) lK fun sv' H' p' o'=>?_
   ((try simp (maxSteps:=3000000) (dsimp:=false) (disch:=first|omega|simp only[lnx];omega) only[↓ypre,ypost,↓reduceIte,reduceEqDiff,reduceAdd,reduceSub,reduceLeDiff,zz0,ynew,f6,f25,f26,f27,wrap64_in]);try simp only[yback])
   refine InvQ_go (2-(1+1)) (by omega) ⟨(1+1),sv',rfl,by omega,(by first|rfl|exact f6|(simp only[upd_apply];rfl)|(show I64 _=_;congr 1;omega)),(by first|rfl|exact f25|(simp only[upd_apply];rfl)|(show I64 _=_;congr 1;omega)),(by first|rfl|exact f26|(simp only[upd_apply];rfl)|(show I64 _=_;congr 1;omega)),(rfl),(p' _ (Nat.le_refl _) pp),o'⟩
 ·have ei:i=2:=by omega
  subst ei
  ((try simp (maxSteps:=3000000) (dsimp:=false) (disch:=first|omega|simp only[lnx];omega) only[↓ypre,ypost,↓reduceIte,reduceEqDiff,reduceAdd,reduceSub,reduceLeDiff,zz0,ynew,f6,f25,f26,f27,decide_eq_false hlt]);try simp only[yback])
  exact hQ _ _ pp o
theorem i_withoutAt {w:Value} {L:List (List Int)} {k:Nat} {h:AH} {Q:Value→AH→Prop} (hw:Els .u8 27 h w L) (hk:k<L.length) (hl:L.length≤1000) (hQ:∀ w' h',h<+:h'→OwnP h.length h' w' (rmv L k)→Q w' h'):WF S 282 [w,I64 k] h Q:=by
 refine WF_fn (fn:=c282) rfl rfl ?_
 dsimp only[c282,oO,oM,oS,oG,oK,oE,oL,oF,oX,oN]
 have w27:Wid 27 L:=hw.widL
 obtain⟨b,off,rfl,hrd⟩:=hw.rdAll (by omega)
 have s1:slcV 27 (.slice (some ⟨b,off,none⟩) L.length 27) none (some (I64 k))=some (.slice (some ⟨b,off,none⟩) k 27):=by
  simp only[slcV,boundV]
  by_cases h0:0<k
  ·rw[if_pos ⟨trivial,by omega,by omega,by omega⟩]
   simp
  ·rw[if_neg (fun x=>by have:=x.2.2.1;omega),if_pos ⟨trivial,trivial,trivial,by omega⟩]
   rw[show k=0 by omega]
 obtain⟨w2,s2,e2⟩:∃ w2,slcV 27 (.slice (some ⟨b,off,none⟩) L.length 27) (some (I64 ((k+1:Nat):Int))) none=some w2∧RdE h w2 (L.drop (k+1)):=by
  by_cases h1:k+1<L.length
  ·refine⟨.slice (some ⟨b,off+(k+1)*27,none⟩) (L.length-(k+1)) 27,?_,.inr ⟨b,off+(k+1)*27,by rw[List.length_drop],?_⟩⟩
   ·simp only[slcV,boundV]
    rw[if_pos ⟨trivial,by omega,by omega,by omega⟩,Int.toNat_natCast,show ((L.length:Int)-((k+1:Nat):Int)).toNat=L.length-(k+1) by omega]
   ·have:=rdn_sub w27 hrd (j:=k+1) (m:=L.length-(k+1)) (by omega)
    rw[List.take_of_length_le (by rw[List.length_drop];exact Nat.le_refl _)] at this
    rw[List.length_drop]
    exact this
  ·refine⟨.slice none 0 1,?_,.inl ⟨List.drop_of_length_le (by omega),1,rfl⟩⟩
   simp only[slcV,boundV]
   rw[if_neg (fun x=>by have:=x.2.2.1;omega),if_neg (fun x=>by have:=x.2.1;cases this),if_pos ⟨trivial,by omega,by omega,by omega⟩]
 have e1:RdE h (.slice (some ⟨b,off,none⟩) k 27) (L.take k):=by
  have lt:(L.take k).length=k:=by rw[List.length_take];omega
  have:=rdn_sub w27 hrd (j:=0) (m:=k) (by omega)
  rw[Nat.zero_mul,Nat.add_zero,List.drop_zero] at this
  exact .inr ⟨b,off,by rw[lt],by rw[lt];exact this⟩
 have q1:(k:Int)+1=((k+1:Nat):Int):=by push_cast;rfl
 have wk:IntKind.i64.wrap ((k:Int)+1)=((k+1:Nat):Int):=by rw[wrap64_in (by omega) (by omega),q1]
 ((try simp (maxSteps:=3000000) (dsimp:=false) (disch:=first|omega|simp only[lnx];omega) only[↓ypre,ypost,↓reduceIte,reduceEqDiff,reduceAdd,reduceSub,reduceLeDiff,zz0,ynew,omapF_none,omapF_some,s1,wk,s2,fillL,zrep,e1.one,e1.cells,e2.one,e2.cells]);try simp only[yback])
 generalize hH1:AH.new h _=H1
 obtain⟨hb1,p1,n1⟩:=new_facts hH1
 refine i_ConcatP hb1 (e1.pre p1) (e2.pre p1) (fun q hq=>w27 q (List.mem_of_mem_take hq)) (fun q hq=>w27 q (List.mem_of_mem_drop hq)) (by rw[List.length_take,List.length_drop];omega) fun w' H2 p2 o2=>?_
 ((try simp (maxSteps:=3000000) (dsimp:=false) (disch:=first|omega|simp only[lnx];omega) only[↓ypre,ypost,↓reduceIte,reduceEqDiff,reduceAdd,reduceSub,reduceLeDiff,zz0,ynew]);try simp only[yback])
 refine hQ w' H2 (p1.trans p2) ?_
 obtain⟨o3,o4|⟨kb,fu,o5,o6,o7⟩⟩:=o2
 ·exact⟨o3,.inl o4⟩
 ·exact⟨o3,.inr ⟨kb,fu,o5,by omega,o7⟩⟩
theorem OwnP.pre {lo:Nat} {h h':AH} {w:Value} {L:List (List Int)} (o:OwnP lo h w L) (p:h<+:h'):OwnP lo h' w L:=by
 obtain⟨hw,o|⟨kb,fu,h1,h2,h3⟩⟩:=o
 ·exact⟨hw,.inl o⟩
 ·exact⟨hw,.inr ⟨kb,fu,h1,h2,pre_get p h3⟩⟩
theorem OwnP.low {lo lo':Nat} {h:AH} {w:Value} {L:List (List Int)} (o:OwnP lo h w L) (hl:lo'≤lo):OwnP lo' h w L:=by
 obtain⟨hw,o|⟨kb,fu,h1,h2,h3⟩⟩:=o
 ·exact⟨hw,.inl o⟩
 ·exact⟨hw,.inr ⟨kb,fu,h1,by omega,h3⟩⟩
theorem OwnP.prods {lo:Nat} {h:AH} {w:Value} {L:List (List Int)} (o:OwnP lo h w L) (b:Byt 27 L):Prods h w L:=⟨o.inE.rd,b⟩
theorem i_reduceOnce {x:Sch} {w:Value} {L:List (List Int)} {h:AH} {Q:Value→AH→Prop} (n:NL x L) (hv:Prods h w L)
  (hQ:∀ i k m w' h',h<+:h'→IsPair x.p L i k m→OwnP h.length h' w' (jn x.p L i k m)→Q (.tuple #[w',.bool true]) h')
  (hN:∀ h',h<+:h'→NoPair x.p L→Q (.tuple #[w,.bool false]) h'):WF S 160 [I64 x.p,w] h Q:=by
 refine WF_fn (fn:=c160) rfl rfl ?_
 dsimp only[c160,oO,oM,oS,oG,oK,oE,oL,oF,oX,oN]
 obtain⟨hs,h30,hall⟩:=n.g.parts
 have hP:isP x.p=true:=szX_isP hs
 have h30:L.length≤30:=h30
 have vl:=hv.1.len
 ((try simp (maxSteps:=3000000) (dsimp:=false) (disch:=first|omega|simp only[lnx];omega) only[↓ypre,ypost,↓reduceIte,reduceEqDiff,reduceAdd,reduceSub,reduceLeDiff,zz0,ynew,vl]);try simp only[yback])
 refine WC_loop_inv (fun m f K1=>∃ (i:Nat),m=L.length-i∧i≤L.length∧f 0=I64 x.p∧f 1=w∧f 11=w∧f 12=I64 L.length∧f 13=I64 i∧(h<+:K1)∧((∀ i' k',i'<i→i'<k'→k'<L.length→mrg x.p (L.getD i' []) (L.getD k' [])=none))) ?_ (L.length-0) _ _ ⟨0,rfl,by omega,(by first|rfl|simp[upd_apply]),(by first|rfl|simp[upd_apply]),(by first|rfl|simp[upd_apply]),(by first|rfl|simp[upd_apply]),(by first|rfl|simp[upd_apply]),List.prefix_refl _,(fun _ _ h=>absurd h (Nat.not_lt_zero _))⟩
 rintro m f K1 ⟨i,rfl,hi,f0,f1,f11,f12,f13,pp,no⟩
 by_cases hi':(i:Int)<L.length
 ·have hi:i<L.length:=by omega
  obtain⟨nn,off,ix,rd⟩:=((hv.pre pp).1).at hi
  have pi:Pr x.p (L.getD i []):=n.g.pr (gd_mem hi)
  have a27:=pi.bb.1
  have ra:AH.rdn K1 nn off 27=some (cel .u8 (L.getD i [])):=by
   have:=rd.1 0 27 (by omega)
   rwa [Nat.add_zero,List.drop_zero,List.take_of_length_le (by omega)] at this
  have ta:(cel .u8 (L.getD i [])).take 27=cel .u8 (L.getD i []):=List.take_of_length_le (by rw[cel_len,a27];exact Nat.le_refl _)
  have q1:(i:Int)+1=((i+1:Nat):Int):=by push_cast;rfl
  have wi:IntKind.i64.wrap ((i:Int)+1)=((i+1:Nat):Int):=by rw[wrap64_in (by omega) (by omega),q1]
  ((try simp (maxSteps:=3000000) (dsimp:=false) (disch:=first|omega|simp only[lnx];omega) only[↓ypre,ypost,↓reduceIte,reduceEqDiff,reduceAdd,reduceSub,reduceLeDiff,zz0,ynew,f0,f1,f11,f12,f13,decide_eq_true hi',ix,ra,cel_all,cel_len,a27,sp27z a27,zrep27,splice_27 a27,wi]);try simp only[yback])
  generalize hJ1:AH.new K1 _=J1
  obtain⟨b1,s1,m1⟩:=new_facts hJ1
  refine WC_loop_inv (fun m f K2=>∃ (k:Nat),m=L.length-k∧k≤L.length∧f 0=I64 x.p∧f 1=w∧f 6=I64 i∧f 7=.pointer (some ⟨K1.length,0,none⟩)∧f 8=I64 k∧f 11=w∧f 12=I64 L.length∧f 13=I64 i∧(J1<+:K2)∧(i<k)∧((∀ k',i<k'→k'<k→mrg x.p (L.getD i []) (L.getD k' [])=none))) ?_ (L.length-(i+1)) _ _ ⟨(i+1),rfl,by omega,(by first|rfl|exact f0|(simp[upd_apply];done)),(by first|rfl|exact f1|(simp[upd_apply];done)),(by first|rfl|simp[upd_apply]),(by first|rfl|simp[upd_apply]),(by first|rfl|simp[upd_apply]),(by first|rfl|exact f11|(simp[upd_apply];done)),(by first|rfl|exact f12|(simp[upd_apply];done)),(by first|rfl|exact f13|(simp[upd_apply];done)),List.prefix_refl _,(by omega),(fun k' h1 h2=>by omega)⟩
  rintro m f K2 ⟨k,rfl,hk,f0,f1,f6,f7,f8,f11,f12,f13,pp2,ik,no2⟩
  have pp3:=pp.trans (s1.trans pp2)
  by_cases hk':(k:Int)<L.length
  ·have hk:k<L.length:=by omega
   obtain⟨nk,ok,ixk,rdk⟩:=((hv.pre pp3).1).at hk
   have pk:Pr x.p (L.getD k []):=n.g.pr (gd_mem hk)
   have b27:=pk.bb.1
   have rk:AH.rdn K2 nk ok 27=some (cel .u8 (L.getD k [])):=by
    have:=rdk.1 0 27 (by omega)
    rwa [Nat.add_zero,List.drop_zero,List.take_of_length_le (by omega)] at this
   ((try simp (maxSteps:=3000000) (dsimp:=false) (disch:=first|omega|simp only[lnx];omega) only[↓ypre,ypost,↓reduceIte,reduceEqDiff,reduceAdd,reduceSub,reduceLeDiff,zz0,ynew,f0,f1,f6,f7,f8,f11,f12,f13,vl,decide_eq_true hk',rdn_of (pre_get pp2 b1),cel_len,a27,ta,ixk,rk]);try simp only[yback])
   refine i_merged hP pi pk (fun m K3 p3 hm=>?_) (fun K3 p3 hm=>?_)
   ·have ipair:IsPair x.p L i k m:=⟨ik,hk,hm,fun i' k' h1 h2 h3=>by
     rcases h3 with h3|⟨rfl,h3⟩
     ·exact no i' k' h3 h1 h2
     ·exact no2 k' h1 h3⟩
    obtain⟨mb,mo,mz⟩:=pair_m n ipair
    have m27:=mb.1
    have tm27:(cel .u8 m).take 27=cel .u8 m:=List.take_of_length_le (by rw[cel_len,m27];exact Nat.le_refl _)
    ((try simp (maxSteps:=3000000) (dsimp:=false) (disch:=first|omega|simp only[lnx];omega) only[↓ypre,ypost,↓reduceIte,reduceEqDiff,reduceAdd,reduceSub,reduceLeDiff,zz0,ynew,f0,f1,f6,f7,f8,f11,f12,f13,aggV,cellsL_cel,cel_len,m27,cel_all]);try simp only[yback])
    generalize hJ2:AH.new K3 _=J2
    obtain⟨b2,s2,m2⟩:=new_facts hJ2
    have pp4:=pp3.trans (p3.trans s2)
    refine i_withoutAt ((hv.pre pp4).1) hk (by omega) fun w1 K4 p4 o4=>?_
    ((try simp (maxSteps:=3000000) (dsimp:=false) (disch:=first|omega|simp only[lnx];omega) only[↓ypre,ypost,↓reduceIte,reduceEqDiff,reduceAdd,reduceSub,reduceLeDiff,zz0,ynew,f0,f1,f6,f7,f8,f11,f12,f13,rdn_of (pre_get p4 b2),cel_len,m27,tm27]);try simp only[yback])
    refine i_hasZero mb fun K5 p5=>?_
    have lr:=rmv_len hk
    have l4:=pre_len pp4
    have o5:=o4.pre p5
    have bR:Byt 27 (rmv L k):=(byt_iff o5.1).2 fun q hq=>(hall q (rmv_mem hq)).1
    cases hz:hasZ m with
    | true=>
     ((try simp (maxSteps:=3000000) (dsimp:=false) (disch:=first|omega|simp only[lnx];omega) only[↓ypre,ypost,↓reduceIte,reduceEqDiff,reduceAdd,reduceSub,reduceLeDiff,zz0,ynew,f0,f1,f6,f7,f8,f11,f12,f13]);try simp only[yback])
     refine i_withoutAt (L:=rmv L k) o5.inE.rd (by omega) (by omega) fun w2 K6 p6 o6=>?_
     ((try simp (maxSteps:=3000000) (dsimp:=false) (disch:=first|omega|simp only[lnx];omega) only[↓ypre,ypost,↓reduceIte,reduceEqDiff,reduceAdd,reduceSub,reduceLeDiff,zz0,ynew,f0,f1,f6,f7,f8,f11,f12,f13]);try simp only[yback])
     refine hQ i k m w2 K6 (pp4.trans (p4.trans (p5.trans p6))) ipair ?_
     unfold jn
     rw[if_pos hz]
     exact o6.low (by have:=pre_len p4;have:=pre_len p5;omega)
    | false=>
     have pm:=Pr.of mb (mz hz)
     ((try simp (maxSteps:=3000000) (dsimp:=false) (disch:=first|omega|simp only[lnx];omega) only[↓ypre,ypost,↓reduceIte,reduceEqDiff,reduceAdd,reduceSub,reduceLeDiff,zz0,ynew,f0,f1,f6,f7,f8,f11,f12,f13,rdn_of (pre_get (p4.trans p5) b2),cel_len,m27,tm27]);try simp only[yback])
     refine i_normal hP pm fun K6 p6=>?_
     obtain⟨wR,⟨-,e0⟩|⟨kb,fu,rfl,hkb,gkb⟩⟩:=o5.pre p6
     ·have:=congrArg List.length e0
      simp only[List.length_nil] at this
      omega
     have n27:=(nrm_Pr hP pm).bb.1
     have ie:ixsV 27 (.slice (some ⟨kb,0,none⟩) (rmv L k).length 27) (I64 i)=some (.pointer (some ⟨kb,i*27,none⟩)):=by
      rw[ixsV_some,if_pos (by omega),Int.toNat_natCast,Nat.zero_add]
     have sf:=splice_flat (k:=.u8) n27 wR (j:=i) (by omega)
     have fl:=flat_len wR
     have w3:AH.wr K6 kb (i*27) (cel .u8 (nrm x.p m))=_:=wr_of gkb
     simp only[cel_len,n27,fl,sf] at w3
     rw[if_pos ⟨trivial,by omega⟩] at w3
     ((try simp (maxSteps:=3000000) (dsimp:=false) (disch:=first|omega|simp only[lnx];omega) only[↓ypre,ypost,↓reduceIte,reduceEqDiff,reduceAdd,reduceSub,reduceLeDiff,zz0,ynew,f0,f1,f6,f7,f8,f11,f12,f13,aggV,cellsL_cel,cel_len,n27,cel_all,ie,w3]);try simp only[yback])
     have P6:=pp4.trans (p4.trans (p5.trans p6))
     refine hQ i k m _ _ (pre_put P6 (by omega)) ipair ?_
     unfold jn
     rw[if_neg (by rw[hz];decide)]
     exact⟨wid_set wR n27,.inr ⟨kb,fu,by rw[List.length_set],by omega,get_put_same (get_lt gkb)⟩⟩
   ·((try simp (maxSteps:=3000000) (dsimp:=false) (disch:=first|omega|simp only[lnx];omega) only[↓ypre,ypost,↓reduceIte,reduceEqDiff,reduceAdd,reduceSub,reduceLeDiff,zz0,ynew,f0,f1,f6,f7,f8,f11,f12,f13,aggV,cellsL_cel,cel_len,List.length_replicate,cel_all,wrap64_in]);try simp only[yback])
    refine InvQ_go (L.length-(k+1)) (by omega) ⟨(k+1),rfl,by omega,(by first|rfl|exact f0|(simp only[upd_apply];rfl)|(show I64 _=_;congr 1;omega)),(by first|rfl|exact f1|(simp only[upd_apply];rfl)|(show I64 _=_;congr 1;omega)),(by first|rfl|exact f6|(simp only[upd_apply];rfl)|(show I64 _=_;congr 1;omega)),(by first|rfl|exact f7|(simp only[upd_apply];rfl)|(show I64 _=_;congr 1;omega)),(by first|rfl|exact f8|(simp only[upd_apply];rfl)|(show I64 _=_;congr 1;omega)),(by first|rfl|exact f11|(simp only[upd_apply];rfl)|(show I64 _=_;congr 1;omega)),(by first|rfl|exact f12|(simp only[upd_apply];rfl)|(show I64 _=_;congr 1;omega)),(by first|rfl|exact f13|(simp only[upd_apply];rfl)|(show I64 _=_;congr 1;omega)),(pp2.trans (p3.trans (pre_new (List.prefix_refl _)))),(by omega),?_⟩
    intro k' h1 h2
    by_cases h3:k'<k
    ·exact no2 k' h1 h3
    ·have:k'=k:=by omega
     rw[this]
     exact hm
  ·skip
   ((try simp (maxSteps:=3000000) (dsimp:=false) (disch:=first|omega|simp only[lnx];omega) only[↓ypre,ypost,↓reduceIte,reduceEqDiff,reduceAdd,reduceSub,reduceLeDiff,zz0,ynew,f0,f1,f6,f7,f8,f11,f12,f13,vl,decide_eq_false hk',wrap64_in]);try simp only[yback])
   refine InvQ_go (L.length-(i+1)) (by omega) ⟨(i+1),rfl,by omega,(by first|rfl|exact f0|(simp only[upd_apply];rfl)|(show I64 _=_;congr 1;omega)),(by first|rfl|exact f1|(simp only[upd_apply];rfl)|(show I64 _=_;congr 1;omega)),(by first|rfl|exact f11|(simp only[upd_apply];rfl)|(show I64 _=_;congr 1;omega)),(by first|rfl|exact f12|(simp only[upd_apply];rfl)|(show I64 _=_;congr 1;omega)),(by first|rfl|exact f13|(simp only[upd_apply];rfl)|(show I64 _=_;congr 1;omega)),pp3,?_⟩
   intro i' k' h1 h2 h3
   by_cases h4:i'<i
   ·exact no i' k' h4 h2 h3
   ·have:i'=i:=by omega
    subst this
    exact no2 k' h2 (by omega)
 ·skip
  ((try simp (maxSteps:=3000000) (dsimp:=false) (disch:=first|omega|simp only[lnx];omega) only[↓ypre,ypost,↓reduceIte,reduceEqDiff,reduceAdd,reduceSub,reduceLeDiff,zz0,ynew,f0,f1,f11,f12,f13,decide_eq_false hi']);try simp only[yback])
  exact hN _ pp fun i' k' h1 h2=>no i' k' (by omega) h1 h2
noncomputable def rdR (x:Sch):Sch×Int:=if isX x=true then (redX x,0) else (zeroS,1)
theorem i_ReduceScheme {x:Sch} {v:Value} {h:AH} {Q:Value→AH→Prop} (hv:Prods h v x.ps) (hl:SmallX x.ps)
  (hQ:∀ w h',h<+:h'→KN h.length h' (fun h2=>Prods h2 w (rdR x).1.ps)→NK w→Q (.tuple #[schV (rdR x).1 w,I64 (rdR x).2]) h'):WF S 18 [schV x v] h Q:=by
 refine WF_fn (fn:=c18) rfl rfl ?_
 dsimp only[c18,oO,oM,oS,oG,oK,oE,oL,oF,oX,oN]
 have o1:=hv.one
 have nz:NK (.slice none 0 0):=.inl rfl
 ((try simp (maxSteps:=3000000) (dsimp:=false) (disch:=first|omega|simp only[lnx];omega) only[↓ypre,ypost,↓reduceIte,reduceEqDiff,reduceAdd,reduceSub,reduceLeDiff,zz0,ynew,schV,o1]);try simp only[yback])
 generalize hH1:AH.new h _=H1
 obtain⟨hb1,p1,n1⟩:=new_facts hH1
 generalize hH2:AH.new H1 _=H2
 obtain⟨hb2,p2,n2⟩:=new_facts hH2
 have g1:=pre_get p2 hb1
 ((try simp (maxSteps:=3000000) (dsimp:=false) (disch:=first|omega|simp only[lnx];omega) only[↓ypre,ypost,↓reduceIte,reduceEqDiff,reduceAdd,reduceSub,reduceLeDiff,zz0,ynew,rdn_of g1]);try simp only[yback])
 refine i_IsScheme (x:=x) (hv.pre (p1.trans p2)) hl fun H3 p3=>?_
 have g1:=pre_get p3 g1
 have g2:=pre_get p3 hb2
 have l2:=get_lt g2
 have P3:=p1.trans (p2.trans p3)
 have q3:=pre_len p3
 unfold rdR at hQ
 cases hx:isX x with
 | false=>
  rw[hx] at hQ
  ((try simp (maxSteps:=3000000) (dsimp:=false) (disch:=first|omega|simp only[lnx];omega) only[↓ypre,ypost,↓reduceIte,reduceEqDiff,reduceAdd,reduceSub,reduceLeDiff,zz0,ynew,fillL,wr_of g2,splice_eq,rdn_put_same]);try simp only[yback])
  exact hQ _ _ (pre_put P3 (by omega)) zeroS_kn nz
 | true=>
 rw[hx] at hQ
 simp only[if_true] at hQ
 have g:=GX.of' hv hx
 ((try simp (maxSteps:=3000000) (dsimp:=false) (disch:=first|omega|simp only[lnx];omega) only[↓ypre,ypost,↓reduceIte,reduceEqDiff,reduceAdd,reduceSub,reduceLeDiff,zz0,ynew,rdn_of g1]);try simp only[yback])
 refine i_normals (x:=x) g (hv.pre P3) fun w0 H4 p4 o4=>?_
 have g1:=pre_get p4 g1
 have g2:=pre_get p4 g2
 obtain⟨nl,-⟩:=nrms_NL g
 refine WO_cut (fun f:Fr=>f 1=.pointer (some ⟨h.length,0,none⟩)∧f 2=.pointer (some ⟨H1.length,0,none⟩)∧f 11=schV (wps x (nrms x.p x.ps)) w0∧True) ⟨(by first|rfl|simp[upd_apply]),(by first|rfl|simp[upd_apply]),(by first|rfl|simp[upd_apply]),trivial⟩ ?_
 rintro f ⟨f1,f2,f11,-⟩
 have w4:([I64 x.p,I64 x.n,I64 x.m,I64 x.k,w0]:List Value)[4]?=some w0:=rfl
 ((try simp (maxSteps:=3000000) (dsimp:=false) (disch:=first|omega|simp only[lnx];omega) only[↓ypre,ypost,↓reduceIte,reduceEqDiff,reduceAdd,reduceSub,reduceLeDiff,zz0,ynew,f1,f2,f11,schV]);try simp only[yback])
 refine WC_loop_inv (fun m f K=>∃ (L:List (List Int)) (vv:Value) (ag:Bool),m=(if ag=true then L.length+1 else 0)∧f 1=.pointer (some ⟨h.length,0,none⟩)∧f 2=.pointer (some ⟨H1.length,0,none⟩)∧f 4=vv∧f 5=.bool ag∧H4<+:K∧OwnP H3.length K vv L∧NL x L∧Red x.p L (redL x.p (nrms x.p x.ps))∧(ag=false→L=redL x.p (nrms x.p x.ps))) ?_ ((nrms x.p x.ps).length+1) _ _ ⟨nrms x.p x.ps,w0,true,rfl,f1,f2,rfl,rfl,List.prefix_refl _,o4,nl,redL_red,fun h=>by cases h⟩
 rintro m f K ⟨L,vv,ag,rfl,f1,f2,f4,f5,pp,oL,nL,rL,eL⟩
 have gK1:=pre_get pp g1
 have gK2:=pre_get pp g2
 have P4:=P3.trans (p4.trans pp)
 cases ag with
 | true=>
  ((try simp (maxSteps:=3000000) (dsimp:=false) (disch:=first|omega|simp only[lnx];omega) only[↓ypre,ypost,↓reduceIte,reduceEqDiff,reduceAdd,reduceSub,reduceLeDiff,zz0,ynew,f1,f2,f4,f5,rd1_of gK1]);try simp only[yback])
  refine i_reduceOnce nL (oL.prods nL.g.b) (fun i k m' w' K2 p5 ip o5=>?_) (fun K2 p5 np=>?_)
  ·have hln:=jn_len (p:=x.p) (m:=m') ip.kl ip.ik
   ((try simp (maxSteps:=3000000) (dsimp:=false) (disch:=first|omega|simp only[lnx];omega) only[↓ypre,ypost,↓reduceIte,reduceEqDiff,reduceAdd,reduceSub,reduceLeDiff,zz0,ynew,f1,f2,f4,f5]);try simp only[yback])
   refine InvQ_go ((jn x.p L i k m').length+1) (by omega) ⟨jn x.p L i k m',w',true,rfl,f1,f2,rfl,rfl,pp.trans p5,o5.low (by have:=pre_len (p4.trans pp);omega),(jn_NL nL ip).1,rL.next ip,fun h=>by cases h⟩
  ·((try simp (maxSteps:=3000000) (dsimp:=false) (disch:=first|omega|simp only[lnx];omega) only[↓ypre,ypost,↓reduceIte,reduceEqDiff,reduceAdd,reduceSub,reduceLeDiff,zz0,ynew,f1,f2,f4,f5]);try simp only[yback])
   refine InvQ_go 0 (by omega) ⟨L,vv,false,rfl,f1,f2,rfl,rfl,pp.trans p5,oL.pre p5,nL,rL,fun _=>(rL.end np).symm⟩
 | false=>
  have eR:=eL rfl
  subst eR
  ((try simp (maxSteps:=3000000) (dsimp:=false) (disch:=first|omega|simp only[lnx];omega) only[↓ypre,ypost,↓reduceIte,reduceEqDiff,reduceAdd,reduceSub,reduceLeDiff,zz0,ynew,f1,f2,f4,f5,rdn_of gK1]);try simp only[yback])
  refine i_with (x:=x) (L:=redL x.p (nrms x.p x.ps)) (v:=v) o1 oL.nk.one oL.nk.cells fun K2 p5=>?_
  have gK2:=pre_get p5 gK2
  have l2:=get_lt gK2
  have kn:=(oL.pre p5).kN (lo':=H2.length) nL.g.b q3
  ((try simp (maxSteps:=3000000) (dsimp:=false) (disch:=first|omega|simp only[lnx];omega) only[↓ypre,ypost,↓reduceIte,reduceEqDiff,reduceAdd,reduceSub,reduceLeDiff,zz0,ynew,f1,f2,f4,f5,schV,oL.nk.one,wr_of gK2,splice_eq,rdn_put_same]);try simp only[yback])
  exact hQ vv _ (pre_put (P4.trans p5) (by omega)) ((KN.put kn (by omega)).mono (by omega)) oL.nk
end Go.Proofs.Ytapafdpnmakekaa.X

set_option linter.unusedVariables false
set_option linter.unusedSimpArgs false
set_option maxRecDepth 20000
set_option maxHeartbeats 4000000
namespace Go.Proofs.Ytapafdpnmakekaa.X
open Go Go.RowKit
def matF (f:Nat→Nat→Int) (w n:Nat):List (List Int):=(List.range n).map fun i=>gen w (f i)
section
variable {f:Nat→Nat→Int} {w n i:Nat}
theorem matF_len:(matF f w n).length=n:=by simp[matF]
theorem matF_next:matF f w (n+1)=matF f w n++[gen w (f n)]:=by simp[matF,List.range_succ]
theorem matF_at (hi:i<n):(matF f w n).getD i []=gen w (f i):=by
 rw[List.getD_eq_getElem?_getD,List.getElem?_eq_getElem (by rw[matF_len];exact hi)]
 simp[matF]
theorem matF_mem {r:List Int} (h:r∈matF f w n):r.length=w:=by
 unfold matF at h
 obtain⟨j,_,rfl⟩:=List.mem_map.1 h
 exact gen_len
theorem matF_mat {p:Int} (hf:∀ i j,i<n→j<w→0≤f i j∧f i j<p):isMat p w (matF f w n)=true:=by
 rw[isMat_iff]
 intro j hj
 rw[matF_len] at hj
 rw[matF_at hj,gen_len]
 refine⟨rfl,allIn_iff.2 fun l hl=>?_⟩
 rw[gen_len] at hl
 rw[gen_get hl]
 exact hf j l hj hl
theorem matF_small (h1:n≤100) (h2:w≤100):SmallM (matF f w n):=smallM_big (N:=100) (c:=100) (by rw[matF_len];exact h1) (fun r hr=>by rw[matF_mem hr];exact h2) (by omega) (by omega) (by omega)
end
theorem RowD.kq {lo kb q:Nat} {H H':AH} {fu:Bool} {rows:List (List Int)} {B:Nat→Nat} {cs:List Value} (r:RowD lo H kb fu rows B cs) (k:Kp q H H') (h1:q≠kb) (h2:∀ i,i<rows.length→q≠B i):RowD lo H' kb fu rows B cs:=
 ⟨k.get (Ne.symm h1) r.get,r.len,r.low,fun i hi=>by
  obtain⟨a1,a2,⟨f,a3⟩,a4⟩:=r.row i hi
  exact⟨a1,a2,⟨f,k.get (Ne.symm (h2 i hi)) a3⟩,a4⟩,r.inc⟩
theorem top_mc {x:Sch} {N M K:Nat} {fa fb:Nat→Nat→Int} (g:GX x) (en:x.n=N) (em:x.m=M) (ek:x.k=K) (ha:∀ i j,i<N→j<M→0≤fa i j∧fa i j<x.p) (hb:∀ i j,i<M→j<K→0≤fb i j∧fb i j<x.p):mcX x (matF fa M N) (matF fb K M)=0:=by
 unfold mcX mOK
 rw[if_pos g.ok,em,ek,matF_mat ha,matF_mat hb,matF_len,matF_len,en]
 simp
def smW (g:Nat→Int):Nat→Int
 | 0=>0
 | n+1=>smW g n+g n
def nz (a:Int):Int:=if a=0 then 0 else 1
def wt (f:List Int) (i:Nat):Int:=smW (fun j=>nz (f.getD j 0)) i
def cw (L:List (List Int)) (s:Nat) (i:Nat):Int:=smW (fun j=>wt (seg (L.getD j []) s) 9-1) i
def cc (L:List (List Int)) (c i:Nat):Int:=smW (fun j=>nz ((L.getD j []).getD (18+c) 0)) i
def mx (a:Int):Int:=if 0>a then 0 else a
def cq (L:List (List Int)) (n c:Nat):Int:=smW (fun c=>mx (cc L c n-1)) c
def more (x:Sch):Int:=cw x.ps 0 x.ps.length+cw x.ps 1 x.ps.length+cq x.ps x.ps.length 9
def mn (a:Int):Int:=if 1000000000000001<a then 1000000000000001 else a
def over (a b:Int):Prop:=0<mn b∧(1000000000000000:Int).tdiv (mn b)<mn a
instance {a b:Int}:Decidable (over a b):=by unfold over;infer_instance
def gain (n z:Int):Prop:=80000<z∨n<2*z*z*z-z*z
instance {n z:Int}:Decidable (gain n z):=by unfold gain;infer_instance
theorem trX_nat {x:Sch} (hx:isX x=true):∃ N M K:Nat,x.n=N∧x.m=M∧x.k=K:=by
 have z:=(isX_sz hx).1
 have:=z.n;have:=z.m;have:=z.k
 exact⟨x.n.toNat,x.m.toNat,x.k.toNat,by omega,by omega,by omega⟩
end Go.Proofs.Ytapafdpnmakekaa.X
