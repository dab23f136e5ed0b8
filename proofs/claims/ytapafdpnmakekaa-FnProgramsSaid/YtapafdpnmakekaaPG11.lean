/- Texts of one claim, put together by merge.py: XW1, XV1, XM2, XM3, XM5, XP9, XM6, XDN, XDD, XDO, XDE, XR3, XF36, XM1, XR4, XDH, XP10. -/
import Derived.Test.YtapafdpnmakekaaPG10
import Derived.Test.YtapafdpnmakekaaPG8
import Derived.Test.YtapafdpnmakekaaPG7
set_option linter.unusedVariables false
set_option linter.unusedSimpArgs false
set_option maxRecDepth 20000
set_option maxHeartbeats 4000000
namespace Go.Proofs.Ytapafdpnmakekaa.X
open Go Go.RowKit
def StV (p n:Int) (st:List (List Int)):Prop:=∀ i,i<st.length→okStep p (n+(i:Nat)) (st.getD i [])=true
def OuV (p m:Int) (out:List (List Int)):Prop:=∀ i,i<out.length→∃ a b,out.getD i []=[a,b]∧0≤a∧a<m∧0≤b∧b<p∧¬ (b=0∧a≠0)
theorem OuV.mono {p m m':Int} {out:List (List Int)} (o:OuV p m out) (h:m≤m'):OuV p m' out:=fun i hi=>by
 obtain⟨a,b,e,h1,h2,h3⟩:=o i hi
 exact⟨a,b,e,h1,by omega,h3⟩
theorem StV.app {p n:Int} {st:List (List Int)} {q:List Int} (o:StV p n st) (hq:okStep p (n+(st.length:Nat)) q=true):StV p n (st++[q]):=fun i hi=>by
 rw[List.length_append,List.length_singleton] at hi
 by_cases e:i=st.length
 ·subst e
  rw[getD_app_r (Nat.le_refl _),Nat.sub_self]
  exact hq
 ·rw[getD_app_l (by omega)]
  exact o i (by omega)
theorem OuV.app {p m a b:Int} {out:List (List Int)} (o:OuV p m out) (h:0≤a∧a<m∧0≤b∧b<p∧¬ (b=0∧a≠0)):OuV p m (out++[[a,b]]):=fun i hi=>by
 rw[List.length_append,List.length_singleton] at hi
 by_cases e:i=out.length
 ·subst e
  rw[getD_app_r (Nat.le_refl _),Nat.sub_self]
  exact⟨a,b,rfl,h⟩
 ·rw[getD_app_l (by omega)]
  exact o i (by omega)
structure RSV (p n:Int) (st0:List (List Int)) (row:List Int) (k:Nat) (s:RS):Prop where
 sv:StV p n s.st
 ge:st0.length≤s.st.length
 le:s.st.length≤st0.length+cntB (fun i=>decide (row.getD i 0≠0)) k
 fac:0≤s.fac∧s.fac<p
 vf:s.val<0↔s.fac=0
 v1:-1≤s.val∧s.val<n+s.st.length
 v2:s.val<k∨(row.length:Int)≤s.val
theorem rowSt_valid {p n:Int} {st0:List (List Int)} {row:List Int} (hp:isP p=true) (hr:allIn p row=true) (hn:1≤n) (hW:(row.length:Int)≤n+st0.length) (hs:StV p n st0):∀ {k:Nat},k≤row.length→RSV p n st0 row k (rowSt p n st0 row k)
 | 0,_=>by
  have:=isP_in hp
  unfold rowSt
  refine⟨hs,Nat.le_refl _,by simp[cntB],by simp only;omega,by simp,by simp only;omega,by simp⟩
 | k+1,hk=>by
  have ih:=rowSt_valid hp hr hn hW hs (k:=k) (by omega)
  have hrk:=allIn_iff.1 hr k (by omega)
  unfold rowSt
  simp only
  generalize rowSt p n st0 row k=s at *
  obtain⟨sv,ge,le,fac,vf,v1,v2⟩:=ih
  have ec:cntB (fun i=>decide (row.getD i 0≠0)) (k+1)=cntB (fun i=>decide (row.getD i 0≠0)) k+(if decide (row.getD k 0≠0)=true then 1 else 0):=rfl
  by_cases h0:row.getD k 0=0
  ·rw[if_pos h0]
   exact⟨sv,ge,by rw[ec];omega,fac,vf,v1,by omega⟩
  rw[if_neg h0]
  rw[if_pos (decide_eq_true h0)] at ec
  by_cases h1:s.val<0
  ·rw[if_pos h1]
   refine⟨sv,ge,by rw[ec];show s.st.length≤_;omega,by simp only;omega,by simp only;omega,by simp only;omega,by simp only;omega⟩
  ·rw[if_neg h1]
   have hf:s.fac≠0:=fun e=>h1 (vf.2 e)
   obtain⟨w1,w2,_⟩:=invP_is hp (n:=s.fac) (by omega)
   have nz:=mul_nz hp (a:=row.getD k 0) (r:=invP p s.fac) (by omega) ⟨w1,w2⟩
   have hok:okStep p (n+(s.st.length:Nat)) [s.val,(k:Int),(row.getD k 0*invP p s.fac).tmod p]=true:=by
    rw[okStep_3,decide_eq_true_eq]
    omega
   refine⟨sv.app hok,by simp;omega,by rw[ec];simp only[List.length_append,List.length_singleton];omega,fac,by simp only[List.length_append,List.length_singleton];omega,by simp only[List.length_append,List.length_singleton];omega,?_⟩
   right
   simp only
   omega
structure FV (p n:Int) (x:Prg):Prop where
 ep:x.p=p
 en:x.n=n
 sv:StV p n x.st
 ov:OuV p (n+x.st.length) x.out
theorem finP_valid {p n:Int} {x:Prg} {rows:List (List Int)} (hp:isP p=true) (hr:∀ i,i<rows.length→allIn p (rows.getD i [])=true∧((rows.getD i []).length:Int)≤n+x.st.length) (hn:1≤n) (hx:FV p n x):∀ {i:Nat},i≤rows.length →
  FV p n (finP x rows i)∧x.st.length≤(finP x rows i).st.length∧(finP x rows i).st.length≤x.st.length+sumN (fun k=>nzR (rows.getD k [])) i
 | 0,_=>⟨hx,Nat.le_refl _,by simp[finP,sumN]⟩
 | i+1,hi=>by
  obtain⟨⟨e1,e2,sv,ov⟩,g1,g2⟩:=finP_valid hp hr hn hx (i:=i) (by omega)
  obtain⟨r1,r2⟩:=hr i (by omega)
  have v:=rowSt_valid (st0:=(finP x rows i).st) (row:=rows.getD i []) hp r1 hn (by omega) sv (k:=(rows.getD i []).length) (Nat.le_refl _)
  have es:finP x rows (i+1)=rowP (finP x rows i) (rows.getD i []):=rfl
  rw[es]
  unfold rowP
  rw[e1,e2]
  simp only
  generalize rowSt p n (finP x rows i).st (rows.getD i []) (rows.getD i []).length=s at *
  obtain⟨v1,v2,v3,v4,v5,v6,v7⟩:=v
  refine⟨⟨rfl,rfl,v1,?_⟩,by show x.st.length≤s.st.length;omega,?_⟩
  ·refine (ov.mono (by show n+_≤n+(s.st.length:Int);omega)).app ?_
   have hmax:max s.val 0=if s.val<0 then 0 else s.val:=by
    split<;>omega
   rw[hmax]
   by_cases h:s.val<0
   ·rw[if_pos h]
    show 0≤(0:Int)∧(0:Int)<n+(s.st.length:Int)∧_
    omega
   ·rw[if_neg h]
    show 0≤s.val∧s.val<n+(s.st.length:Int)∧_
    omega
  ·have e3:sumN (fun k=>nzR (rows.getD k [])) (i+1)=sumN (fun k=>nzR (rows.getD k [])) i+nzR (rows.getD i []):=rfl
   have e4:nzR (rows.getD i [])=cntB (fun j=>decide ((rows.getD i []).getD j 0≠0)) (rows.getD i []).length:=rfl
   rw[e3,e4]
   show s.st.length≤_
   omega
theorem FV.isPrg {p n:Int} {x:Prg} (o:FV p n x) (hp:isP p=true) (hn:1≤n∧n≤30) (hs:x.st.length≤900) (ho:1≤x.out.length∧x.out.length≤30):isPrg x=true:=by
 obtain⟨rfl,rfl,sv,ov⟩:=o
 refine isPrg_all ?_ sv fun i hi=>?_
 ·unfold headP
  rw[hp,Bool.true_and]
  exact decide_eq_true ⟨hn.1,hn.2,hs,ho.1,ho.2⟩
 ·obtain⟨a,b,e,h⟩:=ov i hi
  rw[e,okOut_2,decide_eq_true_eq]
  exact h
theorem finP_isPrg {p n:Int} {rows:List (List Int)} (h:lsOK p n rows=true):isPrg (finP ⟨p,n,[],[]⟩ rows rows.length)=true:=by
 obtain⟨hp,hn,hl,hm⟩:=lsOK_iff.1 h
 have nz:=(ShI.start h).nz
 simp only[List.length_nil,Nat.zero_add] at nz
 obtain⟨v,g1,g2⟩:=finP_valid (x:=⟨p,n,[],[]⟩) (rows:=rows) hp (fun i hi=>⟨(isMat_iff.1 hm i hi).2,by have:=(isMat_iff.1 hm i hi).1;simp only[List.length_nil];omega⟩) hn.1 ⟨rfl,rfl,fun i hi=>by simp at hi,fun i hi=>by simp at hi⟩ (i:=rows.length) (Nat.le_refl _)
 have hout:=(finP_facts (x:=⟨p,n,[],[]⟩) (rows:=rows) (N:=30) hp (fun i hi=>⟨(isMat_iff.1 hm i hi).2,by have:=(isMat_iff.1 hm i hi).1;omega⟩) hn (i:=rows.length) (Nat.le_refl _)).2.2.2
 simp only[List.length_nil,Nat.zero_add] at hout g2
 have e:sumN (fun k=>nzR (rows.getD k [])) rows.length=nzT rows:=rfl
 exact v.isPrg hp hn (by omega) (by omega)
theorem shF_valid {p:Int} {N:Nat} {rows:List (List Int)} (hp:isP p=true) (hT:1≤rows.length):∀ (f:Nat) (s:SS),ShI p N rows s→StV p (N:Int) s.st→StV p (N:Int) (shF p f s).st
 | 0,s,_,hs=>hs
 | f+1,s,i,hs=>by
  unfold shF
  by_cases h:2≤(bst p s.T).m
  ·rw[if_pos h]
   have b:=bst_ok hp i.gt (by rw[i.len];exact hT) h
   refine shF_valid hp hT f _ (i.go hp hT h).1 (hs.app ?_)
   rw[okStep_3,decide_eq_true_eq]
   omega
  ·rw[if_neg h]
   exact hs
theorem shP_isPrg {p n:Int} {rows:List (List Int)} (h:lsOK p n rows=true):isPrg (shP p n rows)=true:=by
 obtain⟨hp,hn,hl,hm⟩:=lsOK_iff.1 h
 have si:=shS_facts h
 have hN:((n.toNat:Nat):Int)=n:=by omega
 have sv:StV p ((n.toNat:Nat):Int) (shS p rows).st:=shF_valid hp (by omega) (nzT rows) ⟨rows,[]⟩ (ShI.start h) (fun i hi=>by simp at hi)
 rw[hN] at sv
 have nz:=si.nz
 have len:=si.len
 have rr:∀ i,i<(shS p rows).T.length→allIn p ((shS p rows).T.getD i [])=true∧(((shS p rows).T.getD i []).length:Int)≤n+(shS p rows).st.length:=fun i hi=>by
  obtain⟨g1,g2⟩:=si.gt i hi
  exact⟨allIn_iff.2 fun j hj=>g2 j (by omega),by omega⟩
 obtain⟨v,g1,g2⟩:=finP_valid (x:=⟨p,n,(shS p rows).st,[]⟩) (rows:=(shS p rows).T) hp rr hn.1 ⟨rfl,rfl,sv,fun i hi=>by simp at hi⟩ (i:=(shS p rows).T.length) (Nat.le_refl _)
 have hout:=(finP_facts (x:=⟨p,n,(shS p rows).st,[]⟩) (rows:=(shS p rows).T) (N:=10000) hp (fun i hi=>⟨(rr i hi).1,by have:=(rr i hi).2;omega⟩) hn (i:=(shS p rows).T.length) (Nat.le_refl _)).2.2.2
 simp only[List.length_nil,Nat.zero_add] at hout g2
 have e:sumN (fun k=>nzR ((shS p rows).T.getD k [])) (shS p rows).T.length=nzT (shS p rows).T:=rfl
 exact v.isPrg hp hn (by omega) (by omega)
def dot (q ns:List Int):Nat→Int
 | 0=>0
 | j+1=>dot q ns j+q.getD j 0*ns.getD j 0
@[simp] theorem dot_0 {q ns:List Int}:dot q ns 0=0:=rfl
def Vf (p:Int) (st:List (List Int)) (ns:List Int):List Int:=valS p st ns st.length
theorem Vf_len {p:Int} {st:List (List Int)} {ns:List Int}:(Vf p st ns).length=ns.length+st.length:=valS_len
theorem valS_app {p:Int} {st t:List (List Int)} {ns:List Int}:∀ {i:Nat},i≤st.length→valS p (st++t) ns i=valS p st ns i
 | 0,_=>rfl
 | i+1,h=>by
  simp only[valS]
  rw[valS_app (i:=i) (by omega),getD_app_l (by omega)]
theorem Vf_snoc {p:Int} {st:List (List Int)} {ns:List Int} {a b:Nat} {d:Int}:Vf p (st++[[(a:Int),(b:Int),d]]) ns=Vf p st ns++[((Vf p st ns).getD a 0+d*(Vf p st ns).getD b 0).tmod p]:=by
 unfold Vf
 rw[List.length_append,List.length_singleton]
 simp only[valS]
 rw[valS_app (Nat.le_refl _),getD_app_r (Nat.le_refl _),Nat.sub_self]
 rfl
theorem dot_congr {q ns ms:List Int}:∀ {k:Nat},(∀ i,i<k→ns.getD i 0=ms.getD i 0)→dot q ns k=dot q ms k
 | 0,_=>rfl
 | k+1,h=>by
  simp only[dot]
  rw[dot_congr (k:=k) fun i hi=>h i (by omega),h k (by omega)]
theorem rowSt_val {p n:Int} {st0:List (List Int)} {row ns:List Int} (hp:isP p=true) (hr:allIn p row=true) (hn:1≤n) (hnl:(ns.length:Int)=n) (hW:(row.length:Int)≤n+st0.length) (hs:StV p n st0):∀ {k:Nat},k≤row.length →
  (∀ i,i<(Vf p st0 ns).length→(Vf p (rowSt p n st0 row k).st ns).getD i 0=(Vf p st0 ns).getD i 0)∧p∣(rowSt p n st0 row k).fac*(Vf p (rowSt p n st0 row k).st ns).getD (rowSt p n st0 row k).val.toNat 0-dot row (Vf p st0 ns) k
 | 0,_=>by
  refine⟨fun i _=>rfl,?_⟩
  simp[rowSt]
 | k+1,hk=>by
  have ih:=rowSt_val (ns:=ns) hp hr hn hnl hW hs (k:=k) (by omega)
  have v:=rowSt_valid hp hr hn hW hs (k:=k) (by omega)
  have hrk:=allIn_iff.1 hr k (by omega)
  have ed:dot row (Vf p st0 ns) (k+1)=dot row (Vf p st0 ns) k+row.getD k 0*(Vf p st0 ns).getD k 0:=rfl
  have l0:=Vf_len (p:=p) (st:=st0) (ns:=ns)
  rw[ed]
  unfold rowSt
  simp only
  generalize rowSt p n st0 row k=s at *
  obtain⟨i1,i2⟩:=ih
  obtain⟨sv,ge,le,fac,vf,v1,v2⟩:=v
  have l1:=Vf_len (p:=p) (st:=s.st) (ns:=ns)
  by_cases h0:row.getD k 0=0
  ·rw[if_pos h0]
   refine⟨i1,?_⟩
   rw[h0,Int.zero_mul,Int.add_zero]
   exact i2
  rw[if_neg h0]
  by_cases h1:s.val<0
  ·rw[if_pos h1]
   refine⟨i1,?_⟩
   rw[vf.1 h1,Int.zero_mul] at i2
   simp only[Int.toNat_natCast]
   rw[i1 k (by omega)]
   obtain⟨q,hq⟩:=i2
   exact⟨q,by omega⟩
  rw[if_neg h1]
  have hf:s.fac≠0:=fun e=>h1 (vf.2 e)
  obtain⟨w1,w2,w3,_⟩:=invP_is hp (n:=s.fac) (by omega)
  obtain⟨A,hA⟩:∃ A:Nat,s.val=A:=⟨s.val.toNat,by omega⟩
  rw[hA,Int.toNat_natCast] at i2
  have eV:Vf p (s.st++[[s.val,(k:Int),(row.getD k 0*invP p s.fac).tmod p]]) ns=Vf p s.st ns++[((Vf p s.st ns).getD A 0+(row.getD k 0*invP p s.fac).tmod p*(Vf p s.st ns).getD k 0).tmod p]:=by
   rw[hA]
   exact Vf_snoc
  simp only
  rw[eV]
  refine⟨fun i hi=>by rw[getD_app_l (by omega)];exact i1 i hi,?_⟩
  have ei:(n+((s.st.length:Int)+1)-1).toNat=(Vf p s.st ns).length:=by omega
  rw[ei,getD_app_r (Nat.le_refl _),Nat.sub_self,i1 k (by omega)]
  show p∣s.fac*((Vf p s.st ns).getD A 0+(row.getD k 0*invP p s.fac).tmod p*(Vf p st0 ns).getD k 0).tmod p-_
  obtain⟨q1,e1⟩:=i2
  obtain⟨q2,e2⟩:=tmod_dvd ((Vf p s.st ns).getD A 0+(row.getD k 0*invP p s.fac).tmod p*(Vf p st0 ns).getD k 0) p
  obtain⟨q3,e3⟩:=tmod_dvd (row.getD k 0*invP p s.fac) p
  obtain⟨q4,e4⟩:=inv_dvd (show IsInv p s.fac (invP p s.fac) from invP_is hp (by omega))
  generalize ((Vf p s.st ns).getD A 0+(row.getD k 0*invP p s.fac).tmod p*(Vf p st0 ns).getD k 0).tmod p=x at *
  generalize (row.getD k 0*invP p s.fac).tmod p=f at *
  generalize (Vf p s.st ns).getD A 0=a at *
  generalize (Vf p st0 ns).getD k 0=b at *
  generalize row.getD k 0=r at *
  generalize invP p s.fac=w at *
  exact⟨q1-s.fac*q2-s.fac*b*q3+r*b*q4,by grind⟩
theorem getD_in {p:Int} {ns:List Int} (hp:1≤p) (h:allIn p ns=true) (j:Nat):0≤ns.getD j 0∧ns.getD j 0<p:=by
 by_cases hj:j<ns.length
 ·exact allIn_iff.1 h j hj
 ·rw[List.getD_eq_getElem?_getD,List.getElem?_eq_none (by omega)]
  simp
  omega
theorem valS_nn {p n:Int} {st:List (List Int)} {ns:List Int} (hp:1≤p) (hs:StV p n st) (hn:allIn p ns=true):∀ {i:Nat},i≤st.length→allIn p (valS p st ns i)=true
 | 0,_=>hn
 | i+1,hi=>by
  have ih:=valS_nn hp hs hn (i:=i) (by omega)
  have h1:=hs i (by omega)
  unfold okStep at h1
  rw[decide_eq_true_eq] at h1
  simp only[valS]
  refine allIn_app ih (tmod_nn ?_ (by omega))
  have a:=getD_in hp ih (nq (st.getD i []) 0)
  have b:=getD_in hp ih (nq (st.getD i []) 1)
  have:=Int.mul_nonneg (show 0≤(st.getD i []).getD 2 0 by omega) b.1
  omega
theorem Vf_in {p n:Int} {st:List (List Int)} {ns:List Int} (hp:1≤p) (hs:StV p n st) (hn:allIn p ns=true):allIn p (Vf p st ns)=true:=valS_nn hp hs hn (Nat.le_refl _)
theorem dot_nn {p:Int} {q ns:List Int} (hp:1≤p) (hq:allIn p q=true) (hn:allIn p ns=true):∀ {k:Nat},0≤dot q ns k
 | 0=>Int.le_refl _
 | k+1=>by
  have ih:=dot_nn hp hq hn (k:=k)
  have:=Int.mul_nonneg (getD_in hp hq k).1 (getD_in hp hn k).1
  simp only[dot]
  omega
structure OutV (p:Int) (T:List (List Int)) (V0 V:List Int) (out:List (List Int)) (i:Nat):Prop where
 len:out.length=i
 pre:∀ a,a<V0.length→V.getD a 0=V0.getD a 0
 val:∀ j,j<i→nq (out.getD j []) 0<V.length∧0≤(out.getD j []).getD 1 0∧p∣(out.getD j []).getD 1 0*V.getD (nq (out.getD j []) 0) 0-dot (T.getD j []) V0 (T.getD j []).length
theorem finP_val {p n:Int} {st0:List (List Int)} {T:List (List Int)} {ns:List Int} (hp:isP p=true) (hn:1≤n) (hnl:(ns.length:Int)=n) (hs:StV p n st0)
  (hr:∀ i,i<T.length→allIn p (T.getD i [])=true∧((T.getD i []).length:Int)≤n+st0.length):∀ {i:Nat},i≤T.length→OutV p T (Vf p st0 ns) (Vf p (finP ⟨p,n,st0,[]⟩ T i).st ns) (finP ⟨p,n,st0,[]⟩ T i).out i
 | 0,_=>⟨rfl,fun _ _=>rfl,fun j hj=>by omega⟩
 | i+1,hi=>by
  have ih:=finP_val hp hn hnl hs hr (i:=i) (by omega)
  obtain⟨⟨e1,e2,sv,ov⟩,g1,g2⟩:=finP_valid (x:=⟨p,n,st0,[]⟩) (rows:=T) hp hr hn ⟨rfl,rfl,hs,fun i hi=>by simp at hi⟩ (i:=i) (by omega)
  obtain⟨r1,r2⟩:=hr i (by omega)
  simp only at g1
  have v:=rowSt_valid (st0:=(finP ⟨p,n,st0,[]⟩ T i).st) (row:=T.getD i []) hp r1 hn (by omega) sv (k:=(T.getD i []).length) (Nat.le_refl _)
  obtain⟨w1,w2⟩:=rowSt_val (st0:=(finP ⟨p,n,st0,[]⟩ T i).st) (row:=T.getD i []) (ns:=ns) hp r1 hn hnl (by omega) sv (k:=(T.getD i []).length) (Nat.le_refl _)
  have es:finP ⟨p,n,st0,[]⟩ T (i+1)=rowP (finP ⟨p,n,st0,[]⟩ T i) (T.getD i []):=rfl
  rw[es]
  unfold rowP
  rw[e1,e2]
  simp only
  obtain⟨len,pre,val⟩:=ih
  have L0:=Vf_len (p:=p) (st:=st0) (ns:=ns)
  have L1:=Vf_len (p:=p) (st:=(finP ⟨p,n,st0,[]⟩ T i).st) (ns:=ns)
  have ec:dot (T.getD i []) (Vf p (finP ⟨p,n,st0,[]⟩ T i).st ns) (T.getD i []).length=dot (T.getD i []) (Vf p st0 ns) (T.getD i []).length:=dot_congr fun a ha=>pre a (by omega)
  rw[ec] at w2
  generalize rowSt p n (finP ⟨p,n,st0,[]⟩ T i).st (T.getD i []) (T.getD i []).length=s at *
  obtain⟨v1,v2,v3,v4,v5,v6,v7⟩:=v
  have L2:=Vf_len (p:=p) (st:=s.st) (ns:=ns)
  generalize (finP ⟨p,n,st0,[]⟩ T i).out=out at *
  refine⟨by simp[len],fun a ha=>(w1 a (by omega)).trans (pre a ha),fun j hj=>?_⟩
  by_cases ej:j<i
  ·obtain⟨q1,q2,q3⟩:=val j ej
   rw[getD_app_l (by omega)]
   refine⟨by omega,q2,?_⟩
   rw[w1 _ q1]
   exact q3
  ·have:j=i:=by omega
   subst this
   rw[getD_app_r (by omega),len,Nat.sub_self]
   have hm:(max s.val 0).toNat=s.val.toNat:=by omega
   show (max s.val 0).toNat<_∧0≤s.fac∧p∣s.fac*(Vf p s.st ns).getD (max s.val 0).toNat 0-_
   rw[hm]
   refine⟨?_,v4.1,w2⟩
   rw[L2]
   omega
theorem outS_get {p:Int} {out:List (List Int)} {vs:List Int} {j:Nat}:∀ {i:Nat},j<i→(outS p out vs i).getD j 0=((out.getD j []).getD 1 0*vs.getD (nq (out.getD j []) 0) 0).tmod p
 | 0,h=>by omega
 | i+1,h=>by
  simp only[outS]
  by_cases e:j=i
  ·subst e
   rw[getD_app_r (by rw[outS_len];exact Nat.le_refl _),outS_len,Nat.sub_self]
   rfl
  ·rw[getD_app_l (by rw[outS_len];omega),outS_get (by omega)]
theorem runP_fin {p n:Int} {st0:List (List Int)} {T:List (List Int)} {ns:List Int} (hp:isP p=true) (hn:1≤n) (hnl:(ns.length:Int)=n) (hal:allIn p ns=true) (hs:StV p n st0)
  (hr:∀ i,i<T.length→allIn p (T.getD i [])=true∧((T.getD i []).length:Int)≤n+st0.length) {j:Nat} (hj:j<T.length) :
  (runP (finP ⟨p,n,st0,[]⟩ T T.length) ns).getD j 0=(dot (T.getD j []) (Vf p st0 ns) (T.getD j []).length).tmod p:=by
 have hp5:=isP_in hp
 have ov:=finP_val hp hn hnl hs hr (i:=T.length) (Nat.le_refl _)
 obtain⟨⟨e1,e2,sv,_⟩,g1,g2⟩:=finP_valid (x:=⟨p,n,st0,[]⟩) (rows:=T) hp hr hn ⟨rfl,rfl,hs,fun i hi=>by simp at hi⟩ (i:=T.length) (Nat.le_refl _)
 obtain⟨q1,q2,q3⟩:=ov.val j hj
 unfold runP
 rw[e1,outS_get (by rw[ov.len];exact hj)]
 show (_*(Vf p (finP ⟨p,n,st0,[]⟩ T T.length).st ns).getD _ 0).tmod p=_
 have vin:=getD_in (show 1≤p by omega) (Vf_in (by omega) sv hal) (nq ((finP ⟨p,n,st0,[]⟩ T T.length).out.getD j []) 0)
 have a:=tmod_nn (J:=p) (Int.mul_nonneg q2 vin.1) (by omega)
 have b:=tmod_nn (J:=p) (dot_nn (show 1≤p by omega) (hr j hj).1 (Vf_in (show 1≤p by omega) hs hal) (k:=(T.getD j []).length)) (by omega)
 obtain⟨k1,h1⟩:=q3
 obtain⟨k2,h2⟩:=tmod_dvd (((finP ⟨p,n,st0,[]⟩ T T.length).out.getD j []).getD 1 0*(Vf p (finP ⟨p,n,st0,[]⟩ T T.length).st ns).getD (nq ((finP ⟨p,n,st0,[]⟩ T T.length).out.getD j []) 0) 0) p
 obtain⟨k3,h3⟩:=tmod_dvd (dot (T.getD j []) (Vf p st0 ns) (T.getD j []).length) p
 exact dvd_eq ⟨k1-k2+k3,by grind⟩ a b
theorem dot_set {q ns:List Int} {a:Nat} {x:Int} (ha:a<q.length):∀ {k:Nat},dot (q.set a x) ns k=dot q ns k+(if a<k then (x-q.getD a 0)*ns.getD a 0 else 0)
 | 0=>by simp[dot]
 | k+1=>by
  simp only[dot]
  rw[dot_set ha (k:=k),set_getD ha]
  by_cases e:k=a
  ·subst e
   rw[if_pos rfl,if_neg (Nat.lt_irrefl _),if_pos (by omega)]
   grind
  ·rw[if_neg e]
   by_cases h:a<k
   ·rw[if_pos h,if_pos (by omega)]
    omega
   ·rw[if_neg h,if_neg (by omega)]
    omega
theorem dot_app {q ns:List Int} {x v:Int} (hl:q.length=ns.length):dot (q++[x]) (ns++[v]) (q.length+1)=dot q ns q.length+x*v:=by
 have key:∀ {k:Nat},k≤q.length→dot (q++[x]) (ns++[v]) k=dot q ns k:=by
  intro k
  induction k with
  | zero=>intro _;rfl
  | succ k ih=>
   intro hk
   simp only[dot]
   rw[ih (by omega),getD_app_l (by omega),getD_app_l (by omega)]
 simp only[dot]
 rw[key (Nat.le_refl _),getD_app_r (Nat.le_refl _),Nat.sub_self,hl,getD_app_r (Nat.le_refl _),Nat.sub_self]
 rfl
theorem mv_dot {p:Int} {l j r:Nat} {row V:List Int} {v:Int} (hl:l<row.length) (hj:j<row.length) (hlj:l≠j) (hV:row.length=V.length) (hv:p∣V.getD l 0+r*V.getD j 0-v) :
  p∣dot (mvRow p l j r row) (V++[v]) (row.length+1)-dot row V row.length:=by
 unfold mvRow
 by_cases hm:mvOK p l j r row=true
 ·rw[if_pos hm]
  have e:((row.set l 0).set j 0).length=row.length:=by simp
  have da:=dot_app (q:=(row.set l 0).set j 0) (ns:=V) (x:=row.getD l 0) (v:=v) (by rw[e,hV])
  rw[e] at da
  rw[da,dot_set (by simp;exact hj),dot_set hl,if_pos hj,if_pos hl,set_getD hl,if_neg (fun q=>hlj q.symm)]
  unfold mvOK at hm
  rw[Bool.and_eq_true,decide_eq_true_eq,decide_eq_true_eq] at hm
  obtain⟨k1,h1⟩:=hv
  obtain⟨k2,h2⟩:=tmod_dvd (row.getD l 0*r) p
  rw[←hm.2] at h2
  generalize row.getD l 0=a at *
  generalize row.getD j 0=b at *
  generalize V.getD l 0=x at *
  generalize V.getD j 0=y at *
  exact⟨k2*y-a*k1,by grind⟩
 ·rw[if_neg hm,dot_app hV]
  exact⟨0,by grind⟩
structure ShV (p:Int) (rows:List (List Int)) (ns:List Int) (s:SS):Prop where
 val:∀ i,i<rows.length→p∣dot (s.T.getD i []) (Vf p s.st ns) (s.T.getD i []).length-dot (rows.getD i []) ns (rows.getD i []).length
theorem shF_val {p:Int} {N:Nat} {rows:List (List Int)} {ns:List Int} (hp:isP p=true) (hT:1≤rows.length) (hN:ns.length=N):∀ (f:Nat) (s:SS),ShI p N rows s→ShV p rows ns s→ShV p rows ns (shF p f s)
 | 0,s,_,hs=>hs
 | f+1,s,i,hs=>by
  unfold shF
  by_cases h:2≤(bst p s.T).m
  ·rw[if_pos h]
   have b:=bst_ok hp i.gt (by rw[i.len];exact hT) h
   refine shF_val hp hT hN f _ (i.go hp hT h).1 ⟨fun k hk=>?_⟩
   have hk':k<s.T.length:=by rw[i.len];exact hk
   have wl:=(i.gt k hk').1
   have Vl:=Vf_len (p:=p) (st:=s.st) (ns:=ns)
   have eT:(stepS p s).T.getD k []=mvRow p (bst p s.T).l (bst p s.T).j (bst p s.T).r (s.T.getD k []):=mvT_get hk'
   have eS:(stepS p s).st=s.st++[[((bst p s.T).l:Int),((bst p s.T).j:Int),((bst p s.T).r:Int)]]:=rfl
   rw[eT,eS,Vf_snoc,mvRow_len]
   have md:=mv_dot (p:=p) (row:=s.T.getD k []) (V:=Vf p s.st ns) (l:=(bst p s.T).l) (j:=(bst p s.T).j) (r:=(bst p s.T).r) (by omega) (by omega) (by omega) (by omega) (tmod_dvd ((Vf p s.st ns).getD (bst p s.T).l 0+((bst p s.T).r:Int)*(Vf p s.st ns).getD (bst p s.T).j 0) p)
   obtain⟨k1,h1⟩:=md
   obtain⟨k2,h2⟩:=hs.val k hk
   exact⟨k1+k2,by grind⟩
  ·rw[if_neg h]
   exact hs
theorem runP_pgO {p n:Int} {rows:List (List Int)} {ns:List Int} {b:Bool} (ok:lsOK p n rows=true) (hnl:(ns.length:Int)=n) (hal:allIn p ns=true) {j:Nat} (hj:j<rows.length) :
  (runP (pgO p n rows b) ns).getD j 0=(dot (rows.getD j []) ns (rows.getD j []).length).tmod p:=by
 obtain⟨hp,hn,hl,hm⟩:=lsOK_iff.1 ok
 have hp5:=isP_in hp
 unfold pgO
 cases b with
 | false=>
  rw[if_neg (by decide)]
  exact runP_fin hp hn.1 hnl hal (fun i hi=>by simp at hi) (fun i hi=>⟨(isMat_iff.1 hm i hi).2,by have:=(isMat_iff.1 hm i hi).1;simp only[List.length_nil];omega⟩) hj
 | true=>
  rw[if_pos rfl]
  have si:=shS_facts ok
  have sv:StV p ((n.toNat:Nat):Int) (shS p rows).st:=shF_valid hp (by omega) (nzT rows) ⟨rows,[]⟩ (ShI.start ok) (fun i hi=>by simp at hi)
  have hN:((n.toNat:Nat):Int)=n:=by omega
  rw[hN] at sv
  have vv:ShV p rows ns (shS p rows):=shF_val hp (by omega) (by omega) (nzT rows) ⟨rows,[]⟩ (ShI.start ok) ⟨fun i hi=>⟨0,by show dot (rows.getD i []) ns (rows.getD i []).length-dot (rows.getD i []) ns (rows.getD i []).length=p*0;omega⟩⟩
  have rr:∀ i,i<(shS p rows).T.length→allIn p ((shS p rows).T.getD i [])=true∧(((shS p rows).T.getD i []).length:Int)≤n+(shS p rows).st.length:=fun i hi=>by
   obtain⟨g1,g2⟩:=si.gt i hi
   exact⟨allIn_iff.2 fun j hj=>g2 j (by omega),by omega⟩
  have hj':j<(shS p rows).T.length:=by rw[si.len];exact hj
  have e:=runP_fin hp hn.1 hnl hal sv rr hj'
  show (runP (finP ⟨p,n,(shS p rows).st,[]⟩ (shS p rows).T (shS p rows).T.length) ns).getD j 0=_
  rw[e]
  have a:=tmod_nn (J:=p) (dot_nn (show 1≤p by omega) (rr j hj').1 (Vf_in (show 1≤p by omega) sv hal) (k:=((shS p rows).T.getD j []).length)) (by omega)
  have c:=tmod_nn (J:=p) (dot_nn (show 1≤p by omega) (isMat_iff.1 hm j hj).2 hal (k:=(rows.getD j []).length)) (by omega)
  obtain⟨k1,h1⟩:=vv.val j hj
  obtain⟨k2,h2⟩:=tmod_dvd (dot ((shS p rows).T.getD j []) (Vf p (shS p rows).st ns) ((shS p rows).T.getD j []).length) p
  obtain⟨k3,h3⟩:=tmod_dvd (dot (rows.getD j []) ns (rows.getD j []).length) p
  exact dvd_eq ⟨k1-k2+k3,by grind⟩ a c
theorem unN_dl {N k j:Nat} (hk:k<N) (hj:j<N):(unN N k).getD j 0=dl j k:=by
 unfold unN dl
 rw[List.getD_eq_getElem?_getD]
 by_cases h:j=k
 ·subst h
  rw[List.getElem?_set_self (by simp;omega),if_pos rfl]
  rfl
 ·rw[List.getElem?_set_ne (Ne.symm h),if_neg h,List.getElem?_replicate,if_pos hj]
  rfl
theorem setB_getD {l:List Bool} {i j:Nat} {b:Bool} (hi:i<l.length):(l.set i b).getD j false=if j=i then b else l.getD j false:=by
 rw[List.getD_eq_getElem?_getD,List.getD_eq_getElem?_getD,List.getElem?_set]
 by_cases h:i=j
 ·subst h
  simp[hi]
 ·rw[if_neg h,if_neg (fun e=>h e.symm)]
theorem setB_mono {l:List Bool} {i j:Nat} (h:l.getD j false=true):(l.set i true).getD j false=true:=by
 rw[List.getD_eq_getElem?_getD,List.getElem?_set]
 split
 ·rename_i e
  subst e
  have:i<l.length:=by
   apply Decidable.byContradiction
   intro hc
   rw[List.getD_eq_getElem?_getD,List.getElem?_eq_none (by omega)] at h
   cases h
  simp[this]
 ·rw[←List.getD_eq_getElem?_getD]
  exact h
section
variable (x:Prg)
def nSt (i:Nat) (r:Nat):Nat:=nq (x.st.getD i []) r
def nOut (i:Nat):Nat:=nq (x.out.getD i []) 0
def uO:Nat→List Bool
 | 0=>List.replicate (x.n.toNat+x.st.length) false
 | i+1=>if (x.out.getD i []).getD 1 0=0 then uO i else (uO i).set (nOut x i) true
def uS:Nat→List Bool
 | 0=>uO x x.out.length
 | m+1=>if (uS m).getD (x.n.toNat+(x.st.length-1-m)) false=true then ((uS m).set (nSt x (x.st.length-1-m) 0) true).set (nSt x (x.st.length-1-m) 1) true else uS m
def kp (j:Nat):Bool:=decide (j<x.n.toNat)||(uS x x.st.length).getD j false
def rk:Nat→Int
 | 0=>0
 | j+1=>rk j+(if kp x j=true then 1 else 0)
def wnSt:Nat→List (List Int)
 | 0=>[]
 | i+1=>if (uS x x.st.length).getD (x.n.toNat+i) false=true then wnSt i++[[rk x (nSt x i 0),rk x (nSt x i 1),(x.st.getD i []).getD 2 0]] else wnSt i
def wnOut:Nat→List (List Int)
 | 0=>[]
 | i+1=>wnOut i++[[rk x (nOut x i),(x.out.getD i []).getD 1 0]]
def wnP:Prg:=⟨x.p,x.n,wnSt x x.st.length,wnOut x x.out.length⟩
def wnR:Prg×Int:=if isPrg x=true then (wnP x,0) else (⟨0,0,[],[]⟩,1)
end
variable {x:Prg}
theorem uO_len:∀ {i:Nat},(uO x i).length=x.n.toNat+x.st.length
 | 0=>by simp[uO]
 | i+1=>by
  unfold uO
  split
  ·exact uO_len
  ·rw[List.length_set]
   exact uO_len
theorem uS_len:∀ {m:Nat},(uS x m).length=x.n.toNat+x.st.length
 | 0=>uO_len
 | m+1=>by
  unfold uS
  split
  ·rw[List.length_set,List.length_set]
   exact uS_len
  ·exact uS_len
theorem rk_in:∀ {j:Nat},0≤rk x j∧rk x j≤j
 | 0=>by simp[rk]
 | j+1=>by
  have:=rk_in (j:=j)
  unfold rk
  split<;>omega
theorem rk_low:∀ {j:Nat},j≤x.n.toNat→rk x j=j
 | 0,_=>rfl
 | j+1,h=>by
  have:=rk_low (j:=j) (by omega)
  unfold rk
  rw[if_pos (by unfold kp;rw[decide_eq_true (by omega)];rfl)]
  omega
theorem wnSt_len:∀ {i:Nat},(((wnSt x i).length:Nat):Int)=rk x (x.n.toNat+i)-x.n.toNat
 | 0=>by rw[Nat.add_zero,rk_low (Nat.le_refl _)];simp[wnSt]
 | i+1=>by
  have ih:=wnSt_len (i:=i)
  have e:rk x (x.n.toNat+(i+1))=rk x (x.n.toNat+i)+(if kp x (x.n.toNat+i)=true then 1 else 0):=rfl
  have ek:kp x (x.n.toNat+i)=(uS x x.st.length).getD (x.n.toNat+i) false:=by
   unfold kp
   rw[decide_eq_false (by omega),Bool.false_or]
  rw[e,ek]
  unfold wnSt
  split
  ·rw[List.length_append,List.length_singleton]
   omega
  ·omega
theorem wnSt_le:∀ {i:Nat},(wnSt x i).length≤i
 | 0=>Nat.le_refl _
 | i+1=>by
  have:=wnSt_le (i:=i)
  unfold wnSt
  split
  ·rw[List.length_append,List.length_singleton]
   omega
  ·omega
theorem wnOut_len:∀ {i:Nat},(wnOut x i).length=i
 | 0=>rfl
 | i+1=>by simp[wnOut,wnOut_len (i:=i)]
theorem nSt_lt {v w:Value} {h:AH} (hv:PrgR h v w x) (pf:PrgF x) {i:Nat} (hi:i<x.st.length):nSt x i 0<x.n.toNat+i∧nSt x i 1<x.n.toNat+i:=by
 obtain⟨a,b,d,hq⟩:=all3 (hv.1.wid hi)
 have s3:=pf.st3 hi hq
 unfold nSt nq
 rw[hq]
 show a.toNat<_∧b.toNat<_
 omega
theorem nOut_lt {v w:Value} {h:AH} (hv:PrgR h v w x) (pf:PrgF x) {i:Nat} (hi:i<x.out.length):nOut x i<x.n.toNat+x.st.length:=by
 obtain⟨a,b,hq⟩:=all2 (hv.2.wid hi)
 have s2:=pf.out2 hi hq
 unfold nOut nq
 rw[hq]
 show a.toNat<_
 omega
theorem uO_mono {i j m:Nat} (h:(uO x i).getD j false=true):(uO x (i+m)).getD j false=true:=by
 induction m with
 | zero=>exact h
 | succ m ih=>
  rw[show i+(m+1)=(i+m)+1 by omega]
  unfold uO
  split
  ·exact ih
  ·exact setB_mono ih
theorem uS_mono {m j k:Nat} (h:(uS x m).getD j false=true):(uS x (m+k)).getD j false=true:=by
 induction k with
 | zero=>exact h
 | succ k ih=>
  rw[show m+(k+1)=(m+k)+1 by omega]
  unfold uS
  split
  ·exact setB_mono (setB_mono ih)
  ·exact ih
theorem uS_out {v w:Value} {h:AH} (hv:PrgR h v w x) (pf:PrgF x) {i:Nat} (hi:i<x.out.length) (h0:(x.out.getD i []).getD 1 0≠0):(uS x x.st.length).getD (nOut x i) false=true:=by
 have h1:(uO x (i+1)).getD (nOut x i) false=true:=by
  unfold uO
  rw[if_neg h0,setB_getD (by rw[uO_len];exact nOut_lt hv pf hi),if_pos rfl]
 have h2:=uO_mono (m:=x.out.length-(i+1)) h1
 rw[show i+1+(x.out.length-(i+1))=x.out.length by omega] at h2
 have h3:=uS_mono (m:=0) (k:=x.st.length) h2
 rw[Nat.zero_add] at h3
 exact h3
theorem uS_closed {v w:Value} {h:AH} (hv:PrgR h v w x) (pf:PrgF x):∀ {m:Nat},m≤x.st.length→∀ i,x.st.length-m≤i→i<x.st.length→(uS x m).getD (x.n.toNat+i) false=true →
  (uS x m).getD (nSt x i 0) false=true∧(uS x m).getD (nSt x i 1) false=true
 | 0,_,i,h1,h2,_=>by omega
 | m+1,hm,i,h1,h2,hu=>by
  have ih:=uS_closed hv pf (m:=m) (by omega)
  have lt:=nSt_lt hv pf (i:=x.st.length-1-m) (by omega)
  have ul:=uS_len (x:=x) (m:=m)
  unfold uS at hu ⊢
  split at hu
  ·rename_i hc
   rw[if_pos hc]
   rw[setB_getD (by rw[List.length_set];omega),if_neg (by omega),setB_getD (by omega),if_neg (by omega)] at hu
   by_cases hi:i=x.st.length-1-m
   ·subst hi
    refine⟨setB_mono ?_,?_⟩
    ·rw[setB_getD (by omega),if_pos rfl]
    ·rw[setB_getD (by rw[List.length_set];omega),if_pos rfl]
   ·have:=ih i (by omega) h2 hu
    exact⟨setB_mono (setB_mono this.1),setB_mono (setB_mono this.2)⟩
  ·rename_i hc
   rw[if_neg hc]
   by_cases hi:i=x.st.length-1-m
   ·subst hi
    exact absurd hu hc
   ·exact ih i (by omega) h2 hu
theorem kp_of {j:Nat} (h:(uS x x.st.length).getD j false=true):kp x j=true:=by
 unfold kp
 rw[h,Bool.or_true]
def nmS (x:Prg) (i:Nat):List Int:=gen (x.n.toNat+x.st.length) fun j=>if j<i∧kp x j=true then rk x j else 0
theorem nmS_len {i:Nat}:(nmS x i).length=x.n.toNat+x.st.length:=gen_len
theorem nmS_zero:nmS x 0=List.replicate (x.n.toNat+x.st.length) 0:=(gen_ext (by simp) fun i hi=>by simp[List.getD_eq_getElem?_getD,List.getElem?_replicate,hi]).symm
theorem nmS_set {i:Nat} (hi:i<x.n.toNat+x.st.length) (hk:kp x i=true):(nmS x i).set i (rk x i)=nmS x (i+1):=by
 refine gen_ext (by rw[List.length_set,nmS_len]) fun c hc=>?_
 rw[set_getD (by rw[nmS_len];exact hi)]
 by_cases h:c=i
 ·subst h
  rw[if_pos rfl,if_pos ⟨by omega,hk⟩]
 ·rw[if_neg h]
  unfold nmS
  rw[gen_get hc]
  by_cases h2:c<i∧kp x c=true
  ·rw[if_pos h2,if_pos ⟨by omega,h2.2⟩]
  ·rw[if_neg h2,if_neg (fun q=>h2 ⟨by omega,q.2⟩)]
theorem nmS_skip {i:Nat} (hk:¬ kp x i=true):nmS x i=nmS x (i+1):=gen_congr fun c hc=>by
 by_cases h2:c<i∧kp x c=true
 ·rw[if_pos h2,if_pos ⟨by omega,h2.2⟩]
 ·rw[if_neg h2,if_neg]
  rintro⟨h3,h4⟩
  by_cases h:c=i
  ·subst h
   exact hk h4
  ·exact h2 ⟨by omega,h4⟩
theorem nmS_at {j:Nat} (hj:j<x.n.toNat+x.st.length) (hk:kp x j=true):(nmS x (x.n.toNat+x.st.length)).getD j 0=rk x j:=by
 unfold nmS
 rw[gen_get hj,if_pos ⟨hj,hk⟩]
theorem wnR_small (x:Prg):SmallP (wnR x).1:=by
 unfold wnR SmallP SmallE
 split
 ·rename_i h
  have pf:=isPrg_facts h
  have h1:=pf.st
  have h2:=pf.out
  have h3:=wnSt_le (x:=x) (i:=x.st.length)
  simp only[wnP,wnOut_len]
  omega
 ·simp
theorem dot_un {q:List Int} {N k:Nat} (hk:k<N):∀ {m:Nat},m≤N→dot q (unN N k) m=if k<m then q.getD k 0 else 0
 | 0,_=>by simp[dot]
 | m+1,hm=>by
  simp only[dot]
  rw[dot_un hk (m:=m) (by omega),unN_dl hk (by omega)]
  unfold dl
  by_cases h:m=k
  ·subst h
   rw[if_neg (Nat.lt_irrefl _),if_pos rfl,if_pos (by omega)]
   omega
  ·rw[if_neg h,Int.mul_zero]
   by_cases h2:k<m
   ·rw[if_pos h2,if_pos (by omega)]
    omega
   ·rw[if_neg h2,if_neg (by omega)]
    rfl
theorem pgO_isPrg {p n:Int} {rows:List (List Int)} {b:Bool} (h:lsOK p n rows=true):isPrg (pgO p n rows b)=true:=by
 unfold pgO
 cases b with
 | true=>exact shP_isPrg h
 | false=>exact finP_isPrg h
theorem pgO_n {p n:Int} {rows:List (List Int)} {b:Bool} (h:lsOK p n rows=true):(pgO p n rows b).n=n∧(pgO p n rows b).p=p∧(pgO p n rows b).out.length=rows.length:=by
 obtain⟨hp,hn,hl,hm⟩:=lsOK_iff.1 h
 unfold pgO
 cases b with
 | true=>
  rw[if_pos rfl]
  have si:=shS_facts h
  have f:=finP_facts (x:=⟨p,n,(shS p rows).st,[]⟩) (rows:=(shS p rows).T) (N:=10000) hp (fun i hi=>by
   obtain⟨g1,g2⟩:=si.gt i hi
   have nz:=si.nz
   exact⟨allIn_iff.2 fun j hj=>g2 j (by omega),by omega⟩) hn (i:=(shS p rows).T.length) (Nat.le_refl _)
  have:=si.len
  simp only[List.length_nil] at f
  refine⟨f.2.1,f.1,?_⟩
  show (finP ⟨p,n,(shS p rows).st,[]⟩ (shS p rows).T (shS p rows).T.length).out.length=_
  omega
 | false=>
  rw[if_neg (by decide)]
  have f:=finP_facts (x:=⟨p,n,[],[]⟩) (rows:=rows) (N:=30) hp (fun i hi=>⟨(isMat_iff.1 hm i hi).2,by have:=(isMat_iff.1 hm i hi).1;omega⟩) hn (i:=rows.length) (Nat.le_refl _)
  simp only[List.length_nil] at f
  exact⟨f.2.1,f.1,by omega⟩
theorem fmL_pgO {p n:Int} {rows:List (List Int)} {b:Bool} (h:lsOK p n rows=true):fmL (pgO p n rows b)=rows:=by
 obtain⟨hp,hn,hl,hm⟩:=lsOK_iff.1 h
 have hp5:=isP_in hp
 obtain⟨e1,e2,e3⟩:=pgO_n (b:=b) h
 refine getD_ext (by rw[fmL_len,e3]) fun i hi=>?_
 rw[fmL_len,e3] at hi
 rw[fmL_get (by rw[e3];exact hi),e1]
 obtain⟨m1,m2⟩:=isMat_iff.1 hm i hi
 refine (gen_ext (by omega) fun k hk=>?_).symm
 unfold fmF
 rw[runP_pgO h (ns:=unN n.toNat k) (by rw[unN_len];omega) (unN_in (by omega)) hi,dot_un hk (by omega),if_pos (by omega)]
 have:=allIn_iff.1 m2 k (by omega)
 exact (Int.tmod_eq_of_lt this.1 this.2).symm
def exT (T:List (List Int)):Nat:=sumN (fun k=>nzR (T.getD k [])-1) T.length
theorem rowSt_cnt {p n:Int} {st0:List (List Int)} {row:List Int} (hp:isP p=true) (hr:allIn p row=true) (hn:1≤n):∀ {k:Nat},k≤row.length →
  (rowSt p n st0 row k).st.length=st0.length+(cntB (fun i=>decide (row.getD i 0≠0)) k-1)∧((rowSt p n st0 row k).val<0↔cntB (fun i=>decide (row.getD i 0≠0)) k=0)
 | 0,_=>by simp[rowSt,cntB]
 | k+1,hk=>by
  have ih:=rowSt_cnt (st0:=st0) hp hr hn (k:=k) (by omega)
  have ec:cntB (fun i=>decide (row.getD i 0≠0)) (k+1)=cntB (fun i=>decide (row.getD i 0≠0)) k+(if decide (row.getD k 0≠0)=true then 1 else 0):=rfl
  rw[ec]
  unfold rowSt
  simp only
  by_cases h0:row.getD k 0=0
  ·rw[if_pos h0,if_neg (by simpa using h0)]
   exact ih
  rw[if_neg h0,if_pos (decide_eq_true h0)]
  by_cases h1:(rowSt p n st0 row k).val<0
  ·rw[if_pos h1]
   have:=ih.2.1 h1
   refine⟨by show (rowSt p n st0 row k).st.length=_;omega,by simp only;omega⟩
  ·rw[if_neg h1]
   have:cntB (fun i=>decide (row.getD i 0≠0)) k≠0:=fun e=>h1 (ih.2.2 e)
   simp only[List.length_append,List.length_singleton]
   omega
theorem finP_cnt {p n:Int} {st0:List (List Int)} {rows:List (List Int)} (hp:isP p=true) (hn:1≤n) (hr:∀ i,i<rows.length→allIn p (rows.getD i [])=true):∀ {i:Nat},i≤rows.length →
  (finP ⟨p,n,st0,[]⟩ rows i).p=p∧(finP ⟨p,n,st0,[]⟩ rows i).n=n∧(finP ⟨p,n,st0,[]⟩ rows i).st.length=st0.length+sumN (fun k=>nzR (rows.getD k [])-1) i
 | 0,_=>by simp[finP,sumN]
 | i+1,hi=>by
  obtain⟨e1,e2,e3⟩:=finP_cnt (st0:=st0) hp hn hr (i:=i) (by omega)
  have c:=(rowSt_cnt (st0:=(finP ⟨p,n,st0,[]⟩ rows i).st) (n:=n) hp (hr i (by omega)) hn (k:=(rows.getD i []).length) (Nat.le_refl _)).1
  have es:finP ⟨p,n,st0,[]⟩ rows (i+1)=rowP (finP ⟨p,n,st0,[]⟩ rows i) (rows.getD i []):=rfl
  rw[es]
  unfold rowP
  rw[e1,e2]
  refine⟨rfl,rfl,?_⟩
  have e5:sumN (fun k=>nzR (rows.getD k [])-1) (i+1)=sumN (fun k=>nzR (rows.getD k [])-1) i+(nzR (rows.getD i [])-1):=rfl
  have e4:nzR (rows.getD i [])=cntB (fun j=>decide ((rows.getD i []).getD j 0≠0)) (rows.getD i []).length:=rfl
  rw[e5,e4]
  show (rowSt p n (finP ⟨p,n,st0,[]⟩ rows i).st (rows.getD i []) (rows.getD i []).length).st.length=_
  omega
theorem cntB_two {f:Nat→Bool} {l j:Nat} (h1:f l=true) (h2:f j=true) (hlj:l<j):∀ {R:Nat},j<R→2≤cntB f R
 | 0,h=>by omega
 | R+1,h=>by
  have one:∀ {R:Nat},l<R→1≤cntB f R:=by
   intro R
   induction R with
   | zero=>omega
   | succ R ih=>
    intro hl
    unfold cntB
    by_cases e:l=R
    ·subst e
     rw[if_pos h1]
     omega
    ·have:=ih (by omega)
     omega
  unfold cntB
  by_cases e:j=R
  ·subst e
   rw[if_pos h2]
   have:=one hlj
   omega
  ·have:=cntB_two h1 h2 hlj (R:=R) (by omega)
   omega
theorem exT_mv {p:Int} {W:Nat} {T:List (List Int)} {s:BS} (hp:isP p=true) (g:GT p W T) (h1:s.l<s.j∧s.j<W∧1≤s.r∧(s.r:Int)<p):exT (mvT p s T)+cntT p T s.l s.j s.r=exT T:=by
 unfold exT cntT
 rw[mvT_len,←sumN_cnt]
 refine sumN_add fun k hk=>?_
 obtain⟨gl,gi⟩:=g k hk
 rw[mvT_get hk]
 have e:=nzR_mv hp (l:=s.l) (j:=s.j) (r:=s.r) (row:=T.getD k []) (by omega) (by omega) (by omega) ⟨h1.2.2.1,h1.2.2.2⟩ (by rw[gl];exact gi)
 have em:mkB p T s.l s.j s.r k=mvOK p s.l s.j s.r (T.getD k []):=rfl
 rw[em]
 by_cases hm:mvOK p s.l s.j s.r (T.getD k [])=true
 ·rw[if_pos hm] at e ⊢
  have two:2≤nzR (T.getD k []):=by
   unfold mvOK at hm
   rw[Bool.and_eq_true,decide_eq_true_eq,decide_eq_true_eq] at hm
   have gg:0≤(T.getD k []).getD s.l 0∧(T.getD k []).getD s.l 0<p:=gi s.l (by omega)
   have hm1:(T.getD k []).getD s.l 0≠0:=hm.1
   have nz:=mul_nz hp (a:=(T.getD k []).getD s.l 0) (r:=(s.r:Int)) ⟨by omega,gg.2⟩ ⟨by omega,h1.2.2.2⟩
   exact cntB_two (l:=s.l) (j:=s.j) (decide_eq_true hm.1) (decide_eq_true (by rw[hm.2];omega)) h1.1 (by omega)
  omega
 ·rw[if_neg hm] at e ⊢
  omega
theorem shF_ex {p:Int} {N:Nat} {rows:List (List Int)} (hp:isP p=true) (hT:1≤rows.length):∀ (f:Nat) (s:SS),ShI p N rows s→(shF p f s).st.length+exT (shF p f s).T≤s.st.length+exT s.T
 | 0,s,_=>Nat.le_refl _
 | f+1,s,i=>by
  unfold shF
  by_cases h:2≤(bst p s.T).m
  ·rw[if_pos h]
   have b:=bst_ok hp i.gt (by rw[i.len];exact hT) h
   have ih:=shF_ex hp hT f _ (i.go hp hT h).1
   have e:=exT_mv hp i.gt ⟨b.1,b.2.1,b.2.2.1,b.2.2.2.1⟩
   have eT:(stepS p s).T=mvT p (bst p s.T) s.T:=rfl
   have eS:(stepS p s).st.length=s.st.length+1:=by simp[stepS]
   rw[eT,eS] at ih
   omega
  ·rw[if_neg h]
   exact Nat.le_refl _
theorem shP_le {p n:Int} {rows:List (List Int)} (h:lsOK p n rows=true):(shP p n rows).st.length≤(finP ⟨p,n,[],[]⟩ rows rows.length).st.length:=by
 obtain⟨hp,hn,hl,hm⟩:=lsOK_iff.1 h
 have si:=shS_facts h
 have a:=(finP_cnt (st0:=[]) (rows:=rows) hp hn.1 (fun i hi=>(isMat_iff.1 hm i hi).2) (i:=rows.length) (Nat.le_refl _)).2.2
 have b:=(finP_cnt (n:=n) (st0:=(shS p rows).st) (rows:=(shS p rows).T) hp hn.1 (fun i hi=>by
  obtain⟨g1,g2⟩:=si.gt i hi
  exact allIn_iff.2 fun j hj=>g2 j (by omega)) (i:=(shS p rows).T.length) (Nat.le_refl _)).2.2
 have c:=shF_ex hp (by omega) (nzT rows) ⟨rows,[]⟩ (ShI.start h)
 unfold shP
 rw[a,b]
 show _+exT (shS p rows).T≤_
 exact c
section
variable {x:Prg}
theorem rk_mono {i:Nat}:∀ {d:Nat},rk x i≤rk x (i+d)
 | 0=>Int.le_refl _
 | d+1=>by
  have:=rk_mono (i:=i) (d:=d)
  show _≤rk x (i+d)+(if kp x (i+d)=true then 1 else 0)
  split<;>omega
theorem rk_lt {i j:Nat} (h:i<j) (hk:kp x i=true):rk x i<rk x j:=by
 have h1:rk x (i+1)=rk x i+1:=by
  show rk x i+(if kp x i=true then 1 else 0)=_
  rw[if_pos hk]
 have h2:=rk_mono (x:=x) (i:=i+1) (d:=j-(i+1))
 rw[show i+1+(j-(i+1))=j by omega] at h2
 omega
theorem kp_low {j:Nat} (h:j<x.n.toNat):kp x j=true:=by
 unfold kp
 rw[decide_eq_true h]
 rfl
theorem kp_us {j:Nat} (h:x.n.toNat≤j):kp x j=(uS x x.st.length).getD j false:=by
 unfold kp
 rw[decide_eq_false (by omega),Bool.false_or]
structure WnF (x:Prg):Prop where
 n:1≤x.n
 st:∀ i,i<x.st.length→nSt x i 0<x.n.toNat+i∧nSt x i 1<x.n.toNat+i
 row:∀ i,i<x.st.length→∃ d,x.st.getD i []=[(nSt x i 0:Int),(nSt x i 1:Int),d]
 orow:∀ i,i<x.out.length→∃ d,x.out.getD i []=[(nOut x i:Int),d]∧(d=0→nOut x i=0)
 out:∀ i,i<x.out.length→nOut x i<x.n.toNat+x.st.length
 used:∀ i,i<x.out.length→(x.out.getD i []).getD 1 0≠0→(uS x x.st.length).getD (nOut x i) false=true
 closed:∀ i,i<x.st.length→(uS x x.st.length).getD (x.n.toNat+i) false=true→(uS x x.st.length).getD (nSt x i 0) false=true∧(uS x x.st.length).getD (nSt x i 1) false=true
theorem wnF_of {v w:Value} {h:AH} (hv:PrgR h v w x) (pf:PrgF x):WnF x:=by
 refine⟨pf.n.1,fun i hi=>nSt_lt hv pf hi,fun i hi=>?_,fun i hi=>?_,fun i hi=>nOut_lt hv pf hi,fun i hi h0=>uS_out hv pf hi h0,fun i hi hu=>uS_closed hv pf (Nat.le_refl _) i (by omega) hi hu⟩
 ·obtain⟨a,b,d,hq⟩:=all3 (hv.1.wid hi)
  have s3:=pf.st3 hi hq
  refine⟨d,?_⟩
  unfold nSt nq
  rw[hq]
  simp only[List.getD_cons_zero,List.getD_cons_succ]
  rw[Int.toNat_of_nonneg s3.1,Int.toNat_of_nonneg s3.2.2.1]
 ·obtain⟨a,b,hq⟩:=all2 (hv.2.wid hi)
  have s2:=pf.out2 hi hq
  refine⟨b,?_,?_⟩
  ·unfold nOut nq
   rw[hq]
   simp only[List.getD_cons_zero]
   rw[Int.toNat_of_nonneg s2.1]
  ·intro hb
   unfold nOut nq
   rw[hq]
   simp only[List.getD_cons_zero]
   have:¬ a≠0:=fun h=>s2.2.2.2.2 ⟨hb,h⟩
   omega
theorem wnSt_pre {i d:Nat}:∀ {j:Nat},j<(wnSt x i).length→(wnSt x (i+d)).getD j []=(wnSt x i).getD j []:=by
 induction d with
 | zero=>intro j _;rfl
 | succ d ih=>
  intro j hj
  have hle:(wnSt x i).length≤(wnSt x (i+d)).length:=by
   have a:=wnSt_len (x:=x) (i:=i)
   have b:=wnSt_len (x:=x) (i:=i+d)
   have c:=rk_mono (x:=x) (i:=x.n.toNat+i) (d:=d)
   rw[show x.n.toNat+i+d=x.n.toNat+(i+d) by omega] at c
   omega
  rw[show i+(d+1)=(i+d)+1 by omega,show wnSt x (i+d+1)=if (uS x x.st.length).getD (x.n.toNat+(i+d)) false=true then wnSt x (i+d)++[[rk x (nSt x (i+d) 0),rk x (nSt x (i+d) 1),(x.st.getD (i+d) []).getD 2 0]] else wnSt x (i+d) from rfl]
  split
  ·rw[getD_app_l (by omega),ih hj]
  ·exact ih hj
theorem wnSt_row {i:Nat} (hi:i<x.st.length) (hu:(uS x x.st.length).getD (x.n.toNat+i) false=true) :
  (wnSt x x.st.length).getD (wnSt x i).length []=[rk x (nSt x i 0),rk x (nSt x i 1),(x.st.getD i []).getD 2 0]∧(wnSt x i).length<(wnSt x x.st.length).length:=by
 have e:wnSt x (i+1)=wnSt x i++[[rk x (nSt x i 0),rk x (nSt x i 1),(x.st.getD i []).getD 2 0]]:=by
  rw[wnSt,if_pos hu]
 have l:(wnSt x (i+1)).length=(wnSt x i).length+1:=by rw[e];simp
 have p:=wnSt_pre (x:=x) (i:=i+1) (d:=x.st.length-(i+1)) (j:=(wnSt x i).length) (by omega)
 rw[show i+1+(x.st.length-(i+1))=x.st.length by omega] at p
 have hle:(wnSt x (i+1)).length≤(wnSt x x.st.length).length:=by
  have a:=wnSt_len (x:=x) (i:=i+1)
  have b:=wnSt_len (x:=x) (i:=x.st.length)
  have c:=rk_mono (x:=x) (i:=x.n.toNat+(i+1)) (d:=x.st.length-(i+1))
  rw[show x.n.toNat+(i+1)+(x.st.length-(i+1))=x.n.toNat+x.st.length by omega] at c
  omega
 refine⟨?_,by omega⟩
 rw[p,e,getD_app_r (Nat.le_refl _),Nat.sub_self]
 rfl
theorem wnSt_from:∀ {m:Nat},m≤x.st.length→∀ {j:Nat},j<(wnSt x m).length→∃ i,i<m∧(uS x x.st.length).getD (x.n.toNat+i) false=true∧(wnSt x i).length=j
 | 0,_,j,hj=>by simp[wnSt] at hj
 | m+1,hm,j,hj=>by
  unfold wnSt at hj
  by_cases hu:(uS x x.st.length).getD (x.n.toNat+m) false=true
  ·rw[if_pos hu,List.length_append,List.length_singleton] at hj
   by_cases e:j=(wnSt x m).length
   ·exact⟨m,by omega,hu,e.symm⟩
   ·obtain⟨i,h1,h2,h3⟩:=wnSt_from (m:=m) (by omega) (j:=j) (by omega)
    exact⟨i,by omega,h2,h3⟩
  ·rw[if_neg hu] at hj
   obtain⟨i,h1,h2,h3⟩:=wnSt_from (m:=m) (by omega) (j:=j) hj
   exact⟨i,by omega,h2,h3⟩
theorem wnOut_get {j:Nat}:∀ {i:Nat},j<i→(wnOut x i).getD j []=[rk x (nOut x j),(x.out.getD j []).getD 1 0]
 | 0,h=>by omega
 | i+1,h=>by
  unfold wnOut
  by_cases e:j=i
  ·subst e
   rw[getD_app_r (by rw[wnOut_len];exact Nat.le_refl _),wnOut_len,Nat.sub_self]
   rfl
  ·rw[getD_app_l (by rw[wnOut_len];omega)]
   exact wnOut_get (by omega)
theorem wn_nSt {i:Nat} (hi:i<x.st.length) (hu:(uS x x.st.length).getD (x.n.toNat+i) false=true):nSt (wnP x) (wnSt x i).length 0=(rk x (nSt x i 0)).toNat∧nSt (wnP x) (wnSt x i).length 1=(rk x (nSt x i 1)).toNat:=by
 have e:=(wnSt_row hi hu).1
 unfold nSt nq
 show (((wnSt x x.st.length).getD (wnSt x i).length []).getD 0 0).toNat=_∧(((wnSt x x.st.length).getD (wnSt x i).length []).getD 1 0).toNat=_
 rw[e]
 exact⟨rfl,rfl⟩
theorem wn_nOut {i:Nat} (hi:i<x.out.length):nOut (wnP x) i=(rk x (nOut x i)).toNat:=by
 unfold nOut nq
 show (((wnOut x x.out.length).getD i []).getD 0 0).toNat=_
 rw[wnOut_get hi]
 rfl
theorem wn_fac {i:Nat} (hi:i<x.out.length):((wnP x).out.getD i []).getD 1 0=(x.out.getD i []).getD 1 0:=by
 show ((wnOut x x.out.length).getD i []).getD 1 0=_
 rw[wnOut_get hi]
 rfl
theorem wn_isPrg (f:WnF x) (hx:isPrg x=true):isPrg (wnP x)=true:=by
 have pf:=isPrg_facts hx
 have hP:isP x.p=true:=by
  unfold isPrg headP at hx
  simp only[Bool.and_eq_true] at hx
  exact hx.1.1.1
 have hn:=f.n
 have fv:FV x.p x.n (wnP x):=by
  refine⟨rfl,rfl,fun j hj=>?_,fun j hj=>?_⟩
  ·obtain⟨i,h1,h2,h3⟩:=wnSt_from (Nat.le_refl _) (show j<(wnSt x x.st.length).length from hj)
   have e:=(wnSt_row h1 h2).1
   rw[h3] at e
   show okStep x.p (x.n+(j:Nat)) ((wnSt x x.st.length).getD j [])=true
   obtain⟨d,hd⟩:=f.row i h1
   have s3:=pf.st3 h1 hd
   have c:=f.closed i h1 h2
   have k0:=kp_of c.1
   have k1:=kp_of c.2
   have l:=f.st i h1
   have a:=rk_lt (x:=x) (i:=nSt x i 0) (j:=x.n.toNat+i) l.1 k0
   have b:=rk_lt (x:=x) (i:=nSt x i 1) (j:=x.n.toNat+i) l.2 k1
   have r0:=rk_in (x:=x) (j:=nSt x i 0)
   have r1:=rk_in (x:=x) (j:=nSt x i 1)
   have w:=wnSt_len (x:=x) (i:=i)
   have ne:rk x (nSt x i 0)≠rk x (nSt x i 1):=by
    by_cases h:nSt x i 0<nSt x i 1
    ·have:=rk_lt h k0
     omega
    ·have:=rk_lt (x:=x) (i:=nSt x i 1) (j:=nSt x i 0) (by omega) k1
     omega
   rw[e,hd,okStep_3,decide_eq_true_eq]
   simp only[List.getD_cons_zero,List.getD_cons_succ]
   omega
  ·have hj':j<x.out.length:=by
    have:(wnP x).out.length=x.out.length:=wnOut_len
    omega
   obtain⟨d,hd,h0⟩:=f.orow j hj'
   have s2:=pf.out2 hj' hd
   refine⟨rk x (nOut x j),d,?_,?_⟩
   ·show (wnOut x x.out.length).getD j []=_
    rw[wnOut_get hj',hd]
    rfl
   ·have w:=wnSt_len (x:=x) (i:=x.st.length)
    have r:=rk_in (x:=x) (j:=nOut x j)
    have lw:(wnP x).st.length=(wnSt x x.st.length).length:=rfl
    by_cases hd0:d=0
    ·have:=h0 hd0
     have e0:rk x (nOut x j)=0:=by rw[this];rfl
     omega
    ·have u:=f.used j hj' (by rw[hd];exact hd0)
     have:=rk_lt (x:=x) (f.out j hj') (kp_of u)
     omega
 have hst:=wnSt_le (x:=x) (i:=x.st.length)
 refine fv.isPrg hP pf.n (show (wnSt x x.st.length).length≤900 by have:=pf.st;omega) (show 1≤(wnOut x x.out.length).length∧(wnOut x x.out.length).length≤30 by rw[wnOut_len];exact pf.out)
theorem wn_val (f:WnF x) {p:Int} {ns:List Int} (hl:ns.length=x.n.toNat):∀ {i:Nat},i≤x.st.length→∀ j,j<x.n.toNat+i→kp x j=true →
  (valS p (wnSt x x.st.length) ns (wnSt x i).length).getD (rk x j).toNat 0=(valS p x.st ns i).getD j 0
 | 0,_,j,hj,hk=>by
  rw[rk_low (by omega),Int.toNat_natCast]
  rfl
 | i+1,hi,j,hj,hk=>by
  have ih:=wn_val f (p:=p) hl (i:=i) (by omega)
  have w:=wnSt_len (x:=x) (i:=i)
  have L:(valS p x.st ns i).length=x.n.toNat+i:=by rw[valS_len,hl]
  have L2:(valS p (wnSt x x.st.length) ns (wnSt x i).length).length=x.n.toNat+(wnSt x i).length:=by rw[valS_len,hl]
  by_cases hu:(uS x x.st.length).getD (x.n.toNat+i) false=true
  ·have e:(wnSt x (i+1)).length=(wnSt x i).length+1:=by rw[wnSt,if_pos hu];simp
   rw[e]
   simp only[valS]
   have row:=(wnSt_row (by omega) hu).1
   rw[row]
   by_cases hj2:j<x.n.toNat+i
   ·have:=rk_lt (x:=x) hj2 hk
    have r:=rk_in (x:=x) (j:=j)
    have l1:(rk x j).toNat<(valS p (wnSt x x.st.length) ns (wnSt x i).length).length:=by rw[L2];omega
    rw[getD_app_l l1,getD_app_l (by rw[L];exact hj2)]
    exact ih j hj2 hk
   ·have ej:j=x.n.toNat+i:=by omega
    have er:(rk x j).toNat=(valS p (wnSt x x.st.length) ns (wnSt x i).length).length:=by rw[ej];omega
    rw[er,getD_app_r (Nat.le_refl _),Nat.sub_self,show j=(valS p x.st ns i).length by rw[ej,L],getD_app_r (Nat.le_refl _),Nat.sub_self]
    have l:=f.st i (by omega)
    have c:=f.closed i (by omega) hu
    have a0:=ih (nSt x i 0) l.1 (kp_of c.1)
    have a1:=ih (nSt x i 1) l.2 (kp_of c.2)
    show ((valS p (wnSt x x.st.length) ns (wnSt x i).length).getD (rk x (nSt x i 0)).toNat 0+_*(valS p (wnSt x x.st.length) ns (wnSt x i).length).getD (rk x (nSt x i 1)).toNat 0).tmod p=((valS p x.st ns i).getD (nSt x i 0) 0+_*(valS p x.st ns i).getD (nSt x i 1) 0).tmod p
    rw[a0,a1]
    rfl
  ·have e:(wnSt x (i+1)).length=(wnSt x i).length:=by rw[wnSt,if_neg hu]
   have hj2:j<x.n.toNat+i:=by
    refine Decidable.byContradiction fun hc=>hu ?_
    have ej:j=x.n.toNat+i:=by omega
    rw[ej,kp_us (by omega)] at hk
    exact hk
   rw[e,ih j hj2 hk]
   simp only[valS]
   rw[getD_app_l (by omega)]
theorem wn_run (f:WnF x) {ns:List Int} (hl:ns.length=x.n.toNat):runP (wnP x) ns=runP x ns:=by
 unfold runP
 have ol:(wnP x).out.length=x.out.length:=wnOut_len
 rw[ol]
 show outS x.p (wnOut x x.out.length) (valS x.p (wnSt x x.st.length) ns (wnSt x x.st.length).length) x.out.length=_
 refine getD_ext' (d:=(0:Int)) (by rw[outS_len,outS_len]) fun i hi=>?_
 rw[outS_len] at hi
 rw[outS_get hi,outS_get hi,wnOut_get hi]
 show ((x.out.getD i []).getD 1 0*(valS x.p (wnSt x x.st.length) ns (wnSt x x.st.length).length).getD (rk x (nOut x i)).toNat 0).tmod x.p=((x.out.getD i []).getD 1 0*(valS x.p x.st ns x.st.length).getD (nOut x i) 0).tmod x.p
 by_cases h0:(x.out.getD i []).getD 1 0=0
 ·rw[h0,Int.zero_mul,Int.zero_mul]
 ·rw[wn_val f hl (Nat.le_refl _) (nOut x i) (f.out i hi) (kp_of (f.used i hi h0))]
theorem wn_forms (f:WnF x):fmL (wnP x)=fmL x:=by
 unfold fmL fmF
 have ol:(wnP x).out.length=x.out.length:=wnOut_len
 rw[ol]
 refine List.map_congr_left fun i hi=>?_
 show gen x.n.toNat _=_
 refine gen_congr fun k hk=>?_
 show (runP (wnP x) (unN x.n.toNat k)).getD i 0=_
 rw[wn_run f unN_len]
theorem wn_dep (f:WnF x):∀ {i:Nat},i≤x.st.length→∀ j,j<x.n.toNat+i→kp x j=true →
  (depS (wnSt x x.st.length) x.n.toNat (wnSt x i).length).getD (rk x j).toNat 0=(depS x.st x.n.toNat i).getD j 0
 | 0,_,j,hj,hk=>by
  rw[rk_low (by omega),Int.toNat_natCast]
  rfl
 | i+1,hi,j,hj,hk=>by
  have ih:=wn_dep f (i:=i) (by omega)
  have w:=wnSt_len (x:=x) (i:=i)
  have L:=depS_len (st:=x.st) (n:=x.n.toNat) (i:=i)
  have L2:=depS_len (st:=wnSt x x.st.length) (n:=x.n.toNat) (i:=(wnSt x i).length)
  by_cases hu:(uS x x.st.length).getD (x.n.toNat+i) false=true
  ·have e:(wnSt x (i+1)).length=(wnSt x i).length+1:=by rw[wnSt,if_pos hu];simp
   rw[e]
   simp only[depS]
   have row:=(wnSt_row (by omega) hu).1
   rw[row]
   by_cases hj2:j<x.n.toNat+i
   ·have:=rk_lt (x:=x) hj2 hk
    have r:=rk_in (x:=x) (j:=j)
    have l1:(rk x j).toNat<(depS (wnSt x x.st.length) x.n.toNat (wnSt x i).length).length:=by rw[L2];omega
    rw[getD_app_l l1,getD_app_l (by rw[L];exact hj2)]
    exact ih j hj2 hk
   ·have ej:j=x.n.toNat+i:=by omega
    have er:(rk x j).toNat=(depS (wnSt x x.st.length) x.n.toNat (wnSt x i).length).length:=by rw[ej];omega
    rw[er,getD_app_r (Nat.le_refl _),Nat.sub_self,show j=(depS x.st x.n.toNat i).length by rw[ej,L],getD_app_r (Nat.le_refl _),Nat.sub_self]
    have l:=f.st i (by omega)
    have c:=f.closed i (by omega) hu
    have a0:=ih (nSt x i 0) l.1 (kp_of c.1)
    have a1:=ih (nSt x i 1) l.2 (kp_of c.2)
    show 1+mxI ((depS (wnSt x x.st.length) x.n.toNat (wnSt x i).length).getD (rk x (nSt x i 0)).toNat 0) ((depS (wnSt x x.st.length) x.n.toNat (wnSt x i).length).getD (rk x (nSt x i 1)).toNat 0)=1+mxI ((depS x.st x.n.toNat i).getD (nSt x i 0) 0) ((depS x.st x.n.toNat i).getD (nSt x i 1) 0)
    rw[a0,a1]
  ·have e:(wnSt x (i+1)).length=(wnSt x i).length:=by rw[wnSt,if_neg hu]
   have hj2:j<x.n.toNat+i:=by
    refine Decidable.byContradiction fun hc=>hu ?_
    have ej:j=x.n.toNat+i:=by omega
    rw[ej,kp_us (by omega)] at hk
    exact hk
   rw[e,ih j hj2 hk]
   simp only[depS]
   rw[getD_app_l (by omega)]
theorem depO_get {out:List (List Int)} {D:List Int} {j:Nat}:∀ {i:Nat},j<i→(depO out D i).getD j 0=if (out.getD j []).getD 1 0=0 then 0 else D.getD (nq (out.getD j []) 0) 0
 | 0,h=>by omega
 | i+1,h=>by
  unfold depO
  by_cases e:j=i
  ·subst e
   rw[getD_app_r (by rw[depO_len];exact Nat.le_refl _),depO_len,Nat.sub_self]
   rfl
  ·rw[getD_app_l (by rw[depO_len];omega),depO_get (by omega)]
theorem wn_depths (f:WnF x) (hx:isPrg x=true):dpR (wnP x)=dpR x:=by
 unfold dpR
 rw[if_pos (wn_isPrg f hx),if_pos hx]
 have ol:(wnP x).out.length=x.out.length:=wnOut_len
 rw[ol]
 congr 1
 show depO (wnOut x x.out.length) (depS (wnSt x x.st.length) x.n.toNat (wnSt x x.st.length).length) x.out.length=_
 refine getD_ext' (d:=(0:Int)) (by rw[depO_len,depO_len]) fun i hi=>?_
 rw[depO_len] at hi
 rw[depO_get hi,depO_get hi,wnOut_get hi]
 show (if (x.out.getD i []).getD 1 0=0 then 0 else (depS (wnSt x x.st.length) x.n.toNat (wnSt x x.st.length).length).getD (rk x (nOut x i)).toNat 0)=(if (x.out.getD i []).getD 1 0=0 then 0 else (depS x.st x.n.toNat x.st.length).getD (nOut x i) 0)
 by_cases h0:(x.out.getD i []).getD 1 0=0
 ·rw[if_pos h0,if_pos h0]
 ·rw[if_neg h0,if_neg h0,wn_dep f (Nat.le_refl _) (nOut x i) (f.out i hi) (kp_of (f.used i hi h0))]
theorem wn_used (f:WnF x) (g:WnF (wnP x)):∀ {m:Nat},m≤x.st.length→∀ j,(uS x m).getD j false=true→(uS (wnP x) (wnP x).st.length).getD (rk x j).toNat false=true
 | 0,_,j,hj=>by
  have key:∀ {i:Nat},i≤x.out.length→(uO x i).getD j false=true→(uS (wnP x) (wnP x).st.length).getD (rk x j).toNat false=true:=by
   intro i
   induction i with
   | zero=>
    intro _ h
    unfold uO at h
    rw[List.getD_eq_getElem?_getD,List.getElem?_replicate] at h
    split at h<;>simp at h
   | succ i ih=>
    intro hi h
    unfold uO at h
    by_cases h0:(x.out.getD i []).getD 1 0=0
    ·rw[if_pos h0] at h
     exact ih (by omega) h
    ·rw[if_neg h0,setB_getD (by rw[uO_len];exact f.out i (by omega))] at h
     by_cases e:j=nOut x i
     ·subst e
      have u:=g.used i (by rw[show (wnP x).out.length=x.out.length from wnOut_len];omega) (by rw[wn_fac (by omega)];exact h0)
      rw[wn_nOut (by omega)] at u
      exact u
     ·rw[if_neg e] at h
      exact ih (by omega) h
  exact key (Nat.le_refl _) hj
 | m+1,hm,j,hj=>by
  have ih:=wn_used f g (m:=m) (by omega)
  unfold uS at hj
  by_cases hc:(uS x m).getD (x.n.toNat+(x.st.length-1-m)) false=true
  ·rw[if_pos hc] at hj
   have hi:x.st.length-1-m<x.st.length:=by omega
   have hu:(uS x x.st.length).getD (x.n.toNat+(x.st.length-1-m)) false=true:=by
    have:=uS_mono (x:=x) (m:=m) (k:=x.st.length-m) hc
    rw[show m+(x.st.length-m)=x.st.length by omega] at this
    exact this
   have l:=f.st _ hi
   have ul:=uS_len (x:=x) (m:=m)
   have hn:=ih _ hc
   have w:=wnSt_len (x:=x) (i:=x.st.length-1-m)
   have ew:(rk x (x.n.toNat+(x.st.length-1-m))).toNat=(wnP x).n.toNat+(wnSt x (x.st.length-1-m)).length:=by
    show _=x.n.toNat+_
    omega
   rw[ew] at hn
   have c:=g.closed _ (wnSt_row hi hu).2 hn
   obtain⟨n0,n1⟩:=wn_nSt hi hu
   rw[n0,n1] at c
   rw[setB_getD (by rw[List.length_set];omega)] at hj
   by_cases e1:j=nSt x (x.st.length-1-m) 1
   ·rw[e1]
    exact c.2
   ·rw[if_neg e1,setB_getD (by omega)] at hj
    by_cases e0:j=nSt x (x.st.length-1-m) 0
    ·rw[e0]
     exact c.1
    ·rw[if_neg e0] at hj
     exact ih j hj
  ·rw[if_neg hc] at hj
   exact ih j hj
theorem wn_idem (f:WnF x) (g:WnF (wnP x)):wnP (wnP x)=wnP x:=by
 have all:∀ j,j<(wnP x).st.length→(uS (wnP x) (wnP x).st.length).getD ((wnP x).n.toNat+j) false=true:=fun j hj=>by
  obtain⟨i,h1,h2,h3⟩:=wnSt_from (Nat.le_refl _) (show j<(wnSt x x.st.length).length from hj)
  have u:=wn_used f g (Nat.le_refl _) _ h2
  have w:=wnSt_len (x:=x) (i:=i)
  have e:(rk x (x.n.toNat+i)).toNat=(wnP x).n.toNat+j:=by
   show _=x.n.toNat+j
   omega
  rw[e] at u
  exact u
 have kpa:∀ j,j<(wnP x).n.toNat+(wnP x).st.length→kp (wnP x) j=true:=fun j hj=>by
  by_cases h:j<(wnP x).n.toNat
  ·exact kp_low h
  ·rw[kp_us (by omega)]
   have:=all (j-(wnP x).n.toNat) (by omega)
   rw[show (wnP x).n.toNat+(j-(wnP x).n.toNat)=j by omega] at this
   exact this
 have rka:∀ j,j≤(wnP x).n.toNat+(wnP x).st.length→rk (wnP x) j=j:=by
  intro j
  induction j with
  | zero=>intro _;rfl
  | succ j ih=>
   intro hj
   show rk (wnP x) j+(if kp (wnP x) j=true then 1 else 0)=_
   rw[ih (by omega),if_pos (kpa j (by omega))]
   omega
 generalize hy:wnP x=y at *
 have sta:∀ i,i≤y.st.length→wnSt y i=y.st.take i:=by
  intro i
  induction i with
  | zero=>intro _;rfl
  | succ i ih=>
   intro hi
   unfold wnSt
   rw[if_pos (all i (by omega)),ih (by omega)]
   have l:=g.st i (by omega)
   rw[rka _ (by omega),rka _ (by omega)]
   obtain⟨d,hd⟩:=g.row i (by omega)
   rw[List.take_add_one,List.getElem?_eq_getElem (by omega)]
   have e:y.st[i]=y.st.getD i []:=by
    rw[List.getD_eq_getElem?_getD,List.getElem?_eq_getElem (by omega)]
    rfl
   simp only[Option.toList_some,e]
   rw[hd]
   rfl
 have oua:∀ i,i≤y.out.length→wnOut y i=y.out.take i:=by
  intro i
  induction i with
  | zero=>intro _;rfl
  | succ i ih=>
   intro hi
   unfold wnOut
   rw[ih (by omega),rka _ (by have:=g.out i (by omega);omega)]
   obtain⟨d,hd,_⟩:=g.orow i (by omega)
   rw[List.take_add_one,List.getElem?_eq_getElem (by omega)]
   have e:y.out[i]=y.out.getD i []:=by
    rw[List.getD_eq_getElem?_getD,List.getElem?_eq_getElem (by omega)]
    rfl
   simp only[Option.toList_some,e]
   rw[hd]
   rfl
 have e1:=sta y.st.length (Nat.le_refl _)
 have e2:=oua y.out.length (Nat.le_refl _)
 rw[List.take_length] at e1 e2
 unfold wnP
 rw[e1,e2]
end
end Go.Proofs.Ytapafdpnmakekaa.X

set_option linter.unusedVariables false
set_option linter.unusedSimpArgs false
set_option maxRecDepth 20000
set_option maxHeartbeats 4000000
namespace Go.Proofs.Ytapafdpnmakekaa.X
open Go Go.RowKit
open Nat (reduceEqDiff reduceAdd reduceSub reduceLeDiff)
theorem WayX.blk_e {e:TypeId} {k:IntKind} {w lo kb:Nat} {h:AH} {ex:List Nat} {sv:Value} {L:List (List Int)} (o:WayX e k w h lo ex sv L) (hb:blkOf sv=some kb):∃ b,h.get kb=some b∧b.e=e:=by
 obtain⟨hw,⟨rfl,_⟩|⟨kb',full,rfl,h2,h3,h4⟩⟩:=o
 ·cases hb
 ·cases hb
  exact⟨_,h4,rfl⟩
theorem WayX.ne {e:TypeId} {k:IntKind} {w lo kb m:Nat} {h:AH} {ex:List Nat} {sv:Value} {L:List (List Int)} {b:Blk} (o:WayX e k w h lo ex sv L) (hk:kb=h.length∨blkOf sv=some kb) (g:h.get m=some b) (hb:b.e≠e):m≠kb:=by
 rintro rfl
 rcases hk with rfl|hk
 ·exact absurd (get_lt g) (Nat.lt_irrefl _)
 ·obtain⟨b',g',e'⟩:=o.blk_e hk
  rw[g] at g'
  cases g'
  exact hb e'
theorem WayX.kpk {e e':TypeId} {k k':IntKind} {w w' lo lo' kb:Nat} {h h':AH} {ex:List Nat} {sv so:Value} {L L':List (List Int)} (o':WayX e' k' w' h lo' [] so L') (d:Kp kb h h') (o:WayX e k w h lo ex sv L) (hk:kb=h.length∨blkOf sv=some kb) (he:e'≠e):WayX e' k' w' h' lo' [] so L':=
 o'.keep fun m c f _ _ g=>d.get (o.ne hk g he) g
theorem WayX.kpn {e:TypeId} {k:IntKind} {w lo n:Nat} {h h':AH} {ex:List Nat} {sv:Value} {L:List (List Int)} (o:WayX e k w h lo ex sv L) (d:Kp n h h') (hn:n<lo):WayX e k w h' lo ex sv L:=
 o.keep fun m c f _ hl g=>d.get (by omega) g
theorem WayX.copy {e:TypeId} {k:IntKind} {w lo bytes:Nat} {sv:Value} {L:List (List Int)} {H:AH} (o:WayX e k w H lo [] sv L) (hw0:0<w) (hl:(L.length:Int)*bytes≤140737488355328) (hn:(L.length:Int)<1048576)
  {Q:Value→AH→Prop} (hQ:∀ (sv':Value) (H':AH),H<+:H'→WayX e k w H' H.length [] sv' L→Q sv' H') :
  OQ (appV e w bytes (.slice (some ⟨H.length,0,none⟩) 0 w) sv (H.new ⟨[],e,false,true⟩)) Q:=by
 have p1:H<+:H.new ⟨[],e,false,true⟩:=pre_new (List.prefix_refl _)
 have hk:(H.new ⟨[],e,false,true⟩).get H.length=some ⟨[],e,false,true⟩:=get_new_same
 by_cases h0:L=[]
 ·subst h0
  have e1:appV e w bytes (.slice (some ⟨H.length,0,none⟩) 0 w) sv (H.new ⟨[],e,false,true⟩)=some (.slice (some ⟨H.length,0,none⟩) 0 w,H.new ⟨[],e,false,true⟩):=by
   obtain⟨hw,⟨rfl,_⟩|⟨kb,fu,rfl,h2,h3,h4⟩⟩:=o
   ·simp[appV,xop,ev]
   ·have:=pre_get p1 h4
    simp[appV,xop,ev,AH.rdn,this]
  rw[e1,OQ_some]
  exact hQ _ _ p1 ⟨fun q hq=>by simp at hq,.inr ⟨H.length,true,rfl,Nat.le_refl _,by simp,hk⟩⟩
 ·have hl0:0<L.length:=List.length_pos_iff.2 h0
  obtain⟨hw,⟨rfl,h⟩|⟨kb,fu,rfl,h2,h3,h4⟩⟩:=o
  ·exact absurd h h0
  ·have g:=pre_get p1 h4
   have fl:=flat_len hw
   have hr:(H.new ⟨[],e,false,true⟩).rdn kb 0 (L.length*w)=some (cel k L.flatten):=by
    rw[rdn_of g]
    simp only
    rw[if_pos (by rw[cel_len,fl];omega),List.drop_zero,List.take_of_length_le (by rw[cel_len,fl];exact Nat.le_refl _)]
   rw[app_zeroW hk hr hl0 (by omega),OQ_some]
   refine hQ _ _ (pre_new (pre_kill p1 (Nat.le_refl _))) ⟨hw,.inr ⟨H.length+1,false,?_,by omega,by simp,?_⟩⟩
   ·rw[len_new]
   ·rw[get_new_eq (by rw[len_kill,len_new])]
structure PrgB (x:Prg):Prop where
 p:0≤x.p∧x.p≤1000
 n:-1000≤x.n∧x.n≤1000
 st:x.st.length≤10000
 out:x.out.length≤10000
theorem s_l07Program {h0 h:AH} {n:Nat} {Q:Value→AH→Prop} (s:Src h0 h n)
  (hQ:∀ (x:Prg) (v w:Value) (h':AH),Kp n h h'→Src h0 h' n→ProgD h.length h' v w x→PrgB x→Q (prgV x v w) h'):WF S 209 [srcP n] h Q:=by
 refine WF_fn (fn:=c209) rfl rfl ?_
 dsimp only[c209,oO,oM,oS,oG,oK,oE,oL,oF,oX,oN]
 have lt:=s.lt
 have l0:=pre_len s.p
 ((try simp (maxSteps:=3000000) (dsimp:=false) (disch:=first|omega|simp only[lnx];omega) only[↓ypre,ypost,↓reduceIte,reduceEqDiff,reduceAdd,reduceSub,reduceLeDiff,zz0,ynew]);try simp only[yback])
 generalize hH1:AH.new h _=H1
 obtain⟨hb1,p1,n1⟩:=new_facts hH1
 refine s_l07Draw (s.kp p1) fun p m rows v H2 hp hm k2 s2 md=>?_
 have g1:=k2.get (by omega) hb1
 have lg1:=get_lt g1
 have sm:SmallM rows:=smallM_of2 (A:=10) (B:=100) md.len md.row (by omega)
 refine WO_cut (fun f:Fr=>f 0=srcP n∧f 2=.pointer (some ⟨h.length,0,none⟩)∧f 12=.tuple #[I64 p,I64 m,v]∧True) ⟨(by first|rfl|simp[upd_apply]),(by first|rfl|simp[upd_apply]),(by first|rfl|simp[upd_apply]),trivial⟩ ?_
 rintro f ⟨f0,f2,f12,-⟩
 ((try simp (maxSteps:=3000000) (dsimp:=false) (disch:=first|omega|simp only[lnx];omega) only[↓ypre,ypost,↓reduceIte,reduceEqDiff,reduceAdd,reduceSub,reduceLeDiff,zz0,ynew,f0,f2,f12]);try simp only[yback])
 refine s_l07Lists md.kn.now sm ?_
 by_cases hls:¬ lsC p m rows=0
 ·((try simp (maxSteps:=3000000) (dsimp:=false) (disch:=first|omega|simp only[lnx];omega) only[↓ypre,ypost,↓reduceIte,reduceEqDiff,reduceAdd,reduceSub,reduceLeDiff,zz0,ynew,f0,f2,f12,decide_eq_true hls,wr_of g1,splice_eq,rdn_put_same]);try simp only[yback])
  exact hQ ⟨p,m,[],[]⟩ (.slice none 0 0) (.slice none 0 0) _ (((Kp.of p1).trans k2).putb (Nat.le_refl _)) (s2.putb (by omega) (by omega)) ProgD.none ⟨⟨hp.1,by show p≤1000;omega⟩,⟨by show -1000≤m;omega,by show m≤1000;omega⟩,by simp,by simp⟩
 have hls:=Decidable.not_not.1 hls
 ((try simp (maxSteps:=3000000) (dsimp:=false) (disch:=first|omega|simp only[lnx];omega) only[↓ypre,ypost,↓reduceIte,reduceEqDiff,reduceAdd,reduceSub,reduceLeDiff,zz0,ynew,f0,f2,f12,decide_eq_false (show ¬ lsC p m rows≠0 from fun h=>h hls)]);try simp only[yback])
 refine s_l01Next s2 fun r H3 k3 l3 s3 _ _=>?_
 have g1:=k3.get (by omega) g1
 have md:=md.kp k3 (by omega)
 ((try simp (maxSteps:=3000000) (dsimp:=false) (disch:=first|omega|simp only[lnx];omega) only[↓ypre,ypost,↓reduceIte,reduceEqDiff,reduceAdd,reduceSub,reduceLeDiff,zz0,ynew,f0,f2,f12]);try simp only[yback])
 have hok:lsOK p m rows=true:=by
  unfold lsC at hls
  split at hls
  ·assumption
  ·omega
 refine s_l07Of (b:=decide (r=0)) md.kn.now hok fun v2 w2 H4 p4 wy od=>?_
 have g1:=pre_get p4 g1
 have s4:=s3.kp p4
 have kk4:Kp n h H4:=(((Kp.of p1).trans k2).trans k3).trans (Kp.of p4)
 have os:=wy.st.one
 have oo:=wy.out.one
 generalize hX:pgO p m rows (decide (r=0))=X at *
 ((try simp (maxSteps:=3000000) (dsimp:=false) (disch:=first|omega|simp only[lnx];omega) only[↓ypre,ypost,↓reduceIte,reduceEqDiff,reduceAdd,reduceSub,reduceLeDiff,zz0,ynew,f0,f2,f12,prgV,os,oo]);try simp only[yback])
 generalize hH5:AH.new H4 _=H5
 obtain⟨g6,p5,n5⟩:=new_facts hH5
 have l34:=p4.length_le
 have k2l:=k2.len
 have k3l:=k3.len
 refine s_l01Next (s4.kp p5) fun N H6 k6 l6 s6 hN _=>?_
 have hN:=hN (by omega)
 obtain⟨N,rfl⟩:∃ N':Nat,N=N':=⟨N.toNat,by omega⟩
 have n6:=s6.lt
 have g1:=k6.get (by omega) (pre_get p5 g1)
 have g6:=k6.get (by omega) g6
 have st0:=((wy.st.pre p5).kpn k6 (by omega)).mlo (lo':=h.length) (by omega)
 have ou0:=((wy.out.pre p5).kpn k6 (by omega)).mlo (lo':=h.length) (by omega)
 have kk6:=(kk4.trans (Kp.of p5)).trans k6
 have hXs:X.st.length≤900∧X.out.length≤30∧1≤X.n∧X.n≤30∧X.n=m∧X.p=p∧2≤p∧p≤5:=by
  have f:=isPrg_facts (pgO_isPrg (b:=decide (r=0)) hok)
  obtain⟨e1,e2,e3⟩:=pgO_n (b:=decide (r=0)) hok
  rw[hX] at f e1 e2 e3
  have a1:=f.p
  have a2:=f.n
  have a3:=f.st
  have a4:=f.out
  omega
 refine WO_cut (fun f:Fr=>f 0=srcP n∧f 2=.pointer (some ⟨h.length,0,none⟩)∧f 3=I64 p∧f 6=.pointer (some ⟨H4.length,0,none⟩)∧f 32=I64 N∧True) ⟨(by first|rfl|exact f0|simp[upd_apply,f0]),(by first|rfl|exact f2|simp[upd_apply,f2]),(by first|rfl|simp[upd_apply]),(by first|rfl|simp[upd_apply]),(by first|rfl|simp[upd_apply]),trivial⟩ ?_
 rintro f ⟨f0,f2,f3,f6,f32,-⟩
 ((try simp (maxSteps:=3000000) (dsimp:=false) (disch:=first|omega|simp only[lnx];omega) only[↓ypre,ypost,↓reduceIte,reduceEqDiff,reduceAdd,reduceSub,reduceLeDiff,zz0,ynew,f0,f2,f3,f6,f32]);try simp only[yback])
 refine WC_loop_inv (fun m f K1=>∃ (i:Nat) (L:List (List Int)) (O:List (List Int)) (sv:Value) (so:Value),m=N-i∧i≤N∧f 0=srcP n∧f 2=.pointer (some ⟨h.length,0,none⟩)∧f 3=I64 p∧f 6=.pointer (some ⟨H4.length,0,none⟩)∧f 7=I64 ((N-i:Nat):Int)∧(Kp n h K1)∧(Src h0 K1 n)∧(K1.get h.length=some ⟨[I64 0,I64 0,.slice none 0 0,.slice none 0 0],70,false,true⟩)∧(K1.get H4.length=some ⟨[I64 X.p,I64 X.n,sv,so],70,false,true⟩)∧(WayX (181) .i64 3 K1 h.length [] sv L)∧(WayX (183) .i64 2 K1 h.length [] so O)∧(L.length≤900+i)∧(O.length≤30+i)) ?_ (N-0) _ _ ⟨0,X.st,X.out,v2,w2,rfl,by omega,(by first|rfl|exact f0|(simp[upd_apply];done)),(by first|rfl|exact f2|(simp[upd_apply];done)),(by first|rfl|exact f3|(simp[upd_apply];done)),(by first|rfl|exact f6|(simp[upd_apply];done)),(by first|rfl|simp[upd_apply]),kk6,s6,g1,g6,st0,ou0,(by omega),(by omega)⟩
 rintro m f K1 ⟨i,L,O,sv,so,rfl,hi,f0,f2,f3,f6,f7,kk,ss,g1,g6,ws,wo,lS,lO⟩
 have kl:=kk.len
 have ns:=ss.lt
 have g6l:=get_lt g6
 by_cases hlt:(0:Int)<((N-i:Nat):Int)
 ·((try simp (maxSteps:=3000000) (dsimp:=false) (disch:=first|omega|simp only[lnx];omega) only[↓ypre,ypost,↓reduceIte,reduceEqDiff,reduceAdd,reduceSub,reduceLeDiff,zz0,ynew,f0,f2,f3,f6,f7,decide_eq_true hlt,rd1_of g6,ws.len,wrap64_in]);try simp only[yback])
  refine s_l01Next ss fun r1 H7 k7 l7 s7 hr1 _=>?_
  refine WO_cut (fun f:Fr=>f 0=srcP n∧f 2=.pointer (some ⟨h.length,0,none⟩)∧f 3=I64 p∧f 6=.pointer (some ⟨H4.length,0,none⟩)∧f 7=I64 ((N-i:Nat):Int)∧f 8=I64 (X.n+L.length)∧f 45=I64 r1∧True) ⟨(by first|rfl|exact f0|simp[upd_apply,f0]),(by first|rfl|exact f2|simp[upd_apply,f2]),(by first|rfl|exact f3|simp[upd_apply,f3]),(by first|rfl|exact f6|simp[upd_apply,f6]),(by first|rfl|exact f7|simp[upd_apply,f7]),(by first|rfl|simp[upd_apply]),(by first|rfl|simp[upd_apply]),trivial⟩ ?_
  rintro f ⟨f0,f2,f3,f6,f7,f8,f45,-⟩
  ((try simp (maxSteps:=3000000) (dsimp:=false) (disch:=first|omega|simp only[lnx];omega) only[↓ypre,ypost,↓reduceIte,reduceEqDiff,reduceAdd,reduceSub,reduceLeDiff,zz0,ynew,f0,f2,f3,f6,f7,f8,f45]);try simp only[yback])
  refine s_l01Next s7 fun r2 H8 k8 l8 s8 hr2 _=>?_
  refine WO_cut (fun f:Fr=>f 0=srcP n∧f 2=.pointer (some ⟨h.length,0,none⟩)∧f 3=I64 p∧f 6=.pointer (some ⟨H4.length,0,none⟩)∧f 7=I64 ((N-i:Nat):Int)∧f 8=I64 (X.n+L.length)∧f 45=I64 r1∧f 48=I64 r2∧True) ⟨(by first|rfl|exact f0|simp[upd_apply,f0]),(by first|rfl|exact f2|simp[upd_apply,f2]),(by first|rfl|exact f3|simp[upd_apply,f3]),(by first|rfl|exact f6|simp[upd_apply,f6]),(by first|rfl|exact f7|simp[upd_apply,f7]),(by first|rfl|exact f8|simp[upd_apply,f8]),(by first|rfl|exact f45|simp[upd_apply,f45]),(by first|rfl|simp[upd_apply]),trivial⟩ ?_
  rintro f ⟨f0,f2,f3,f6,f7,f8,f45,f48,-⟩
  ((try simp (maxSteps:=3000000) (dsimp:=false) (disch:=first|omega|simp only[lnx];omega) only[↓ypre,ypost,↓reduceIte,reduceEqDiff,reduceAdd,reduceSub,reduceLeDiff,zz0,ynew,f0,f2,f3,f6,f7,f8,f45,f48,wrap64_in]);try simp only[yback])
  refine s_l01Next s8 fun r3 H9 k9 l9 s9 hr3 _=>?_
  have hr3:=hr3 (by omega)
  refine WO_cut (fun f:Fr=>f 0=srcP n∧f 2=.pointer (some ⟨h.length,0,none⟩)∧f 3=I64 p∧f 6=.pointer (some ⟨H4.length,0,none⟩)∧f 7=I64 ((N-i:Nat):Int)∧f 8=I64 (X.n+L.length)∧f 45=I64 r1∧f 48=I64 r2∧f 52=I64 r3∧True) ⟨(by first|rfl|exact f0|simp[upd_apply,f0]),(by first|rfl|exact f2|simp[upd_apply,f2]),(by first|rfl|exact f3|simp[upd_apply,f3]),(by first|rfl|exact f6|simp[upd_apply,f6]),(by first|rfl|exact f7|simp[upd_apply,f7]),(by first|rfl|exact f8|simp[upd_apply,f8]),(by first|rfl|exact f45|simp[upd_apply,f45]),(by first|rfl|exact f48|simp[upd_apply,f48]),(by first|rfl|simp[upd_apply]),trivial⟩ ?_
  rintro f ⟨f0,f2,f3,f6,f7,f8,f45,f48,f52,-⟩
  have k789:=(k7.trans k8).trans k9
  have g1:=k789.get (by omega) g1
  have g6:=k789.get (by omega) g6
  have ws:=ws.kpn k789 (by omega)
  have wo:=wo.kpn k789 (by omega)
  have kk9:=kk.trans k789
  ((try simp (maxSteps:=3000000) (dsimp:=false) (disch:=first|omega|simp only[lnx];omega) only[↓ypre,ypost,↓reduceIte,reduceEqDiff,reduceAdd,reduceSub,reduceLeDiff,zz0,ynew,f0,f2,f3,f6,f7,f8,f45,f48,f52,wrap64_in]);try simp only[yback])
  generalize hHA:AH.new H9 _=HA
  obtain⟨gA,pA,nA⟩:=new_facts hHA
  have sA:=s9.kp pA
  have g1:=pre_get pA g1
  have g6:=pre_get pA g6
  have ws:=ws.pre pA
  have wo:=wo.pre pA
  have kkA:=kk9.trans (Kp.of pA)
  have nn:=s9.lt
  have g6l:=get_lt g6
  have kkl:=kkA.len
  by_cases hne:r1=r2
  ·((try simp (maxSteps:=3000000) (dsimp:=false) (disch:=first|omega|simp only[lnx];omega) only[↓ypre,ypost,↓reduceIte,reduceEqDiff,reduceAdd,reduceSub,reduceLeDiff,zz0,ynew,f0,f2,f3,f6,f7,f8,f45,f48,f52,decide_eq_false (show ¬ r1≠r2 from fun h=>h hne),wrap64_in]);try simp only[yback])
   refine InvQ_go (N-(i+1)) (by omega) ⟨(i+1),L,O,sv,so,rfl,by omega,(by first|rfl|exact f0|(simp only[upd_apply];rfl)|(show I64 _=_;congr 1;omega)),(by first|rfl|exact f2|(simp only[upd_apply];rfl)|(show I64 _=_;congr 1;omega)),(by first|rfl|exact f3|(simp only[upd_apply];rfl)|(show I64 _=_;congr 1;omega)),(by first|rfl|exact f6|(simp only[upd_apply];rfl)|(show I64 _=_;congr 1;omega)),(by first|rfl|exact f7|(simp only[upd_apply];rfl)|(show I64 _=_;congr 1;omega)),kkA,sA,g1,g6,ws,wo,(by omega),(by omega)⟩
  ((try simp (maxSteps:=3000000) (dsimp:=false) (disch:=first|omega|simp only[lnx];omega) only[↓ypre,ypost,↓reduceIte,reduceEqDiff,reduceAdd,reduceSub,reduceLeDiff,zz0,ynew,f0,f2,f3,f6,f7,f8,f45,f48,f52,decide_eq_true (show r1≠r2 from hne),rd1_of g6,rdn_of gA,fillL,zrep]);try simp only[yback])
  refine ws.app_kp (q:=[r1,r2,1+r3]) rfl (by omega) (by omega) (by omega) fun sv2 HB kb lB lkb hkb kB wsB=>?_
  have woB:=wo.kpk kB ws hkb (by decide)
  have n61:=ws.ne hkb g1 (by simp)
  have n66:=ws.ne hkb g6 (by simp)
  have g1:=kB.get n61 g1
  have g6:=kB.get n66 g6
  have sB:=sA.over kB (by omega) (by have:=pre_len s.p;omega)
  have kkB:=kkA.over kB (by omega)
  have wsB:=wsB.mlo (lo':=h.length) (by omega)
  ((try simp (maxSteps:=3000000) (dsimp:=false) (disch:=first|omega|simp only[lnx];omega) only[↓ypre,ypost,↓reduceIte,reduceEqDiff,reduceAdd,reduceSub,reduceLeDiff,zz0,ynew,f0,f2,f3,f6,f7,f8,f45,f48,f52,wsB.one,wsB.cells,wr_of g6,splice_eq]);try simp only[yback])
  generalize hHC:AH.put HB _ _=HC
  obtain⟨qC,lC,oC,uC⟩:=put_facts hHC
  have g6l:=get_lt g6
  have gC6:=oC g6l
  have ne16:h.length≠H4.length:=by omega
  have gC1:=qC h.length _ ne16 g1
  have sC:=sB.put hHC (by omega) (by have:=pre_len s.p;omega)
  have kkC:=uC n h kkB (by omega)
  have wsC:WayX (181) .i64 3 HC h.length [] sv2 (L++[[r1,r2,1+r3]]):=hHC▸wsB.put_ty g6 (by simp)
  have woC:WayX (183) .i64 2 HC h.length [] so O:=hHC▸woB.put_ty g6 (by simp)
  have lL2:(L++[[r1,r2,1+r3]]).length=L.length+1:=by simp
  refine s_l01Next sC fun r4 HD kD lD sD _ _=>?_
  have gD1:=kD.get (by omega) gC1
  have gD6:=kD.get (by omega) gC6
  have wsD:=wsC.kpn kD (by omega)
  have woD:=woC.kpn kD (by omega)
  have kkD:=kkC.trans kD
  refine WO_cut (fun f:Fr=>f 0=srcP n∧f 2=.pointer (some ⟨h.length,0,none⟩)∧f 3=I64 p∧f 6=.pointer (some ⟨H4.length,0,none⟩)∧f 7=I64 ((N-i:Nat):Int)∧f 8=I64 (X.n+L.length)∧f 67=I64 r4∧True) ⟨(by first|rfl|exact f0|simp[upd_apply,f0]),(by first|rfl|exact f2|simp[upd_apply,f2]),(by first|rfl|exact f3|simp[upd_apply,f3]),(by first|rfl|exact f6|simp[upd_apply,f6]),(by first|rfl|exact f7|simp[upd_apply,f7]),(by first|rfl|exact f8|simp[upd_apply,f8]),(by first|rfl|simp[upd_apply]),trivial⟩ ?_
  rintro f ⟨f0,f2,f3,f6,f7,f8,f67,-⟩
  by_cases hr4:¬ r4=0
  ·((try simp (maxSteps:=3000000) (dsimp:=false) (disch:=first|omega|simp only[lnx];omega) only[↓ypre,ypost,↓reduceIte,reduceEqDiff,reduceAdd,reduceSub,reduceLeDiff,zz0,ynew,f0,f2,f3,f6,f7,f8,f67,decide_eq_false hr4,wrap64_in]);try simp only[yback])
   refine InvQ_go (N-(i+1)) (by omega) ⟨(i+1),(L++[[r1,r2,1+r3]]),O,sv2,so,rfl,by omega,(by first|rfl|exact f0|(simp only[upd_apply];rfl)|(show I64 _=_;congr 1;omega)),(by first|rfl|exact f2|(simp only[upd_apply];rfl)|(show I64 _=_;congr 1;omega)),(by first|rfl|exact f3|(simp only[upd_apply];rfl)|(show I64 _=_;congr 1;omega)),(by first|rfl|exact f6|(simp only[upd_apply];rfl)|(show I64 _=_;congr 1;omega)),(by first|rfl|exact f7|(simp only[upd_apply];rfl)|(show I64 _=_;congr 1;omega)),kkD,sD,gD1,gD6,wsD,woD,(by omega),(by omega)⟩
  have hr4:=Decidable.not_not.1 hr4
  have g6l:=get_lt gD6
  ((try simp (maxSteps:=3000000) (dsimp:=false) (disch:=first|omega|simp only[lnx];omega) only[↓ypre,ypost,↓reduceIte,reduceEqDiff,reduceAdd,reduceSub,reduceLeDiff,zz0,ynew,f0,f2,f3,f6,f7,f8,f67,decide_eq_true hr4,rd1_of gD6,fillL,zrep]);try simp only[yback])
  refine woD.copy (by omega) (by omega) (by omega) fun so2 HE pE woE=>?_
  have gE1:=pre_get pE gD1
  have gE6:=pre_get pE gD6
  have wsE:=wsD.pre pE
  have sE:=sD.kp pE
  have kkE:=kkD.trans (Kp.of pE)
  have kkEl:=kkE.len
  ((try simp (maxSteps:=3000000) (dsimp:=false) (disch:=first|omega|simp only[lnx];omega) only[↓ypre,ypost,↓reduceIte,reduceEqDiff,reduceAdd,reduceSub,reduceLeDiff,zz0,ynew,f0,f2,f3,f6,f7,f8,f67,fillL,zrep]);try simp only[yback])
  refine woE.app_kp (q:=[X.n+L.length,1]) rfl (by omega) (by omega) (pre_len pE) fun so3 HF kc lF lkc hkc kF woF=>?_
  have wsF:=wsE.kpk kF woE hkc (by decide)
  have n1:=woE.ne hkc gE1 (by simp)
  have n6':=woE.ne hkc gE6 (by simp)
  have gF1:=kF.get n1 gE1
  have gF6:=kF.get n6' gE6
  have kkDl:=kkD.len
  have sF:=sE.over kF (by omega) (by have:=pre_len s.p;omega)
  have kkF:=kkE.over kF (by omega)
  have woF:=woF.mlo (lo':=h.length) (by omega)
  have g6l:=get_lt gF6
  ((try simp (maxSteps:=3000000) (dsimp:=false) (disch:=first|omega|simp only[lnx];omega) only[↓ypre,ypost,↓reduceIte,reduceEqDiff,reduceAdd,reduceSub,reduceLeDiff,zz0,ynew,f0,f2,f3,f6,f7,f8,f67,woF.one,woF.cells,wr_of gF6,splice_eq,wrap64_in]);try simp only[yback])
  generalize hHG:AH.put HF _ _=HG
  obtain⟨qG,lG,oG,uG⟩:=put_facts hHG
  have gG6:=oG g6l
  have gG1:=qG h.length _ ne16 gF1
  have sG:=sF.put hHG (by omega) (by have:=pre_len s.p;omega)
  have kkG:=uG n h kkF (by omega)
  have wsG:WayX (181) .i64 3 HG h.length [] sv2 (L++[[r1,r2,1+r3]]):=hHG▸wsF.put_ty gF6 (by simp)
  have woG:WayX (183) .i64 2 HG h.length [] so3 (O++[[X.n+L.length,1]]):=hHG▸woF.put_ty gF6 (by simp)
  refine InvQ_go (N-(i+1)) (by omega) ⟨(i+1),(L++[[r1,r2,1+r3]]),(O++[[X.n+L.length,1]]),sv2,so3,rfl,by omega,(by first|rfl|exact f0|(simp only[upd_apply];rfl)|(show I64 _=_;congr 1;omega)),(by first|rfl|exact f2|(simp only[upd_apply];rfl)|(show I64 _=_;congr 1;omega)),(by first|rfl|exact f3|(simp only[upd_apply];rfl)|(show I64 _=_;congr 1;omega)),(by first|rfl|exact f6|(simp only[upd_apply];rfl)|(show I64 _=_;congr 1;omega)),(by first|rfl|exact f7|(simp only[upd_apply];rfl)|(show I64 _=_;congr 1;omega)),kkG,sG,gG1,gG6,wsG,woG,(by omega),(by rw[List.length_append];simp;omega)⟩
 ((try simp (maxSteps:=3000000) (dsimp:=false) (disch:=first|omega|simp only[lnx];omega) only[↓ypre,ypost,↓reduceIte,reduceEqDiff,reduceAdd,reduceSub,reduceLeDiff,zz0,ynew,f0,f2,f3,f6,f7,decide_eq_false hlt]);try simp only[yback])
 refine s_l01Next ss fun r5 H7 k7 l7 s7 _ _=>?_
 have g1:=k7.get (by omega) g1
 have g6:=k7.get (by omega) g6
 have ws:=ws.kpn k7 (by omega)
 have wo:=wo.kpn k7 (by omega)
 have kk:=kk.trans k7
 have kl:=kk.len
 have n7:=s7.lt
 have ne16:h.length≠H4.length:=by omega
 have fin:∀ (n':Int) (L' O':List (List Int)) (sv' so':Value) (b b':Blk) (H' HZ:AH),Kp n h H'→Src h0 H' n→H'.get h.length=some b'→b'.e=70→H'.put h.length b=HZ →
   WayX (181) .i64 3 H' h.length [] sv' L'→WayX (183) .i64 2 H' h.length [] so' O' → -1000≤n'∧n'≤1000→L'.length≤10000→O'.length≤10000→Q (prgV ⟨X.p,n',L',O'⟩ sv' so') HZ:=by
  intro n' L' O' sv' so' b b' H' HZ kk ss g gb hZ ws wo hn hL hO
  subst hZ
  refine hQ ⟨X.p,n',L',O'⟩ sv' so' _ (kk.putb (Nat.le_refl _)) (ss.putb (by omega) (by omega)) (fun h' l g'=>⟨(ws.put_ty g (by rw[gb];decide)).kN h' l g',(wo.put_ty g (by rw[gb];decide)).kN h' l g'⟩) ⟨?_,hn,hL,hO⟩
  show 0≤X.p∧X.p≤1000
  omega
 have fin2:∀ (n':Int) (L' O':List (List Int)) (sv' so':Value) (b b' c c':Blk) (H' HZ:AH),(H'.put h.length b).put H4.length c=HZ→Kp n h H'→Src h0 H' n→H'.get h.length=some b'→b'.e=70→H'.get H4.length=some c'→c'.e=70 →
   WayX (181) .i64 3 H' h.length [] sv' L'→WayX (183) .i64 2 H' h.length [] so' O' → -1000≤n'∧n'≤1000→L'.length≤10000→O'.length≤10000→Q (prgV ⟨X.p,n',L',O'⟩ sv' so') HZ:=by
  intro n' L' O' sv' so' b b' c c' H' HZ hZ kk ss g gb g' gc ws wo hn hL hO
  subst hZ
  have g2:(H'.put h.length b).get H4.length=some c':=by rw[get_put_ne ne16];exact g'
  refine hQ ⟨X.p,n',L',O'⟩ sv' so' _ ((kk.putb (Nat.le_refl _)).putb (by omega)) ((ss.putb (by omega) (by omega)).putb (by omega) (by omega)) (fun h' l g'=>⟨((ws.put_ty g (by rw[gb];decide)).put_ty g2 (by rw[gc];decide)).kN h' l g',((wo.put_ty g (by rw[gb];decide)).put_ty g2 (by rw[gc];decide)).kN h' l g'⟩) ⟨?_,hn,hL,hO⟩
  show 0≤X.p∧X.p≤1000
  omega
 refine WO_cut (fun f:Fr=>f 0=srcP n∧f 2=.pointer (some ⟨h.length,0,none⟩)∧f 3=I64 p∧f 6=.pointer (some ⟨H4.length,0,none⟩)∧f 79=I64 r5∧True) ⟨(by first|rfl|exact f0|simp[upd_apply,f0]),(by first|rfl|exact f2|simp[upd_apply,f2]),(by first|rfl|exact f3|simp[upd_apply,f3]),(by first|rfl|exact f6|simp[upd_apply,f6]),(by first|rfl|simp[upd_apply]),trivial⟩ ?_
 rintro f ⟨f0,f2,f3,f6,f79,-⟩
 have oS:=ws.one
 have oO:=wo.one
 have g6l:=get_lt g6
 by_cases c0:r5=0
 ·((try simp (maxSteps:=3000000) (dsimp:=false) (disch:=first|omega|simp only[lnx];omega) only[↓ypre,ypost,↓reduceIte,reduceEqDiff,reduceAdd,reduceSub,reduceLeDiff,zz0,ynew,f0,f2,f3,f6,f79,decide_eq_true c0,rd1_of g6,wrap64_in,fillL,zrep]);try simp only[yback])
  generalize hH8:AH.new H7 _=H8
  obtain⟨g8,p8,n8⟩:=new_facts hH8
  have kv:=kp_new (n:=n) (ns:=[0,31,X.n-1]) hH8 (by omega)
  refine s_l01Pick (s7.kp p8) kv (by simp) (by simp) fun j H9 k9 l9 s9 hj=>?_
  have by2:=pick_in (l:=[0,31,X.n-1]) (a:=0) (b:=31) (by simp;omega) hj
  generalize ([0,31,X.n-1]:List Int).getD j 0=y at by2
  have g1:=k9.get (by omega) (pre_get p8 g1)
  have g6:=k9.get (by omega) (pre_get p8 g6)
  have ws:=(ws.pre p8).kpn k9 (by omega)
  have wo:=(wo.pre p8).kpn k9 (by omega)
  have kk:=(kk.trans (Kp.of p8)).trans k9
  have g6l:=get_lt g6
  refine WO_cut (fun f:Fr=>f 0=srcP n∧f 2=.pointer (some ⟨h.length,0,none⟩)∧f 6=.pointer (some ⟨H4.length,0,none⟩)∧f 87=I64 y∧True) ⟨(by first|rfl|exact f0|simp[upd_apply,f0]),(by first|rfl|exact f2|simp[upd_apply,f2]),(by first|rfl|exact f6|simp[upd_apply,f6]),(by first|rfl|simp[upd_apply]),trivial⟩ ?_
  rintro f ⟨f0,f2,f6,f87,-⟩
  ((try simp (maxSteps:=3000000) (dsimp:=false) (disch:=first|omega|simp only[lnx];omega) only[↓ypre,ypost,↓reduceIte,reduceEqDiff,reduceAdd,reduceSub,reduceLeDiff,zz0,ynew,f0,f2,f6,f87,wr_of g6,wr_of g1,splice_eq,oS,oO]);try simp only[yback])
  generalize hHZ:AH.put _ _ _=HZ
  exact fin2 y L O sv so _ _ _ _ H9 HZ hHZ kk s9 g1 rfl g6 rfl ws wo (by omega) (by omega) (by omega)
 by_cases c1:r5=1
 ·((try simp (maxSteps:=3000000) (dsimp:=false) (disch:=first|omega|simp only[lnx];omega) only[↓ypre,ypost,↓reduceIte,reduceEqDiff,reduceAdd,reduceSub,reduceLeDiff,zz0,ynew,f0,f2,f3,f6,f79,decide_eq_false c0,decide_eq_true c1,fillL,zrep]);try simp only[yback])
  generalize hH8:AH.new H7 _=H8
  obtain⟨g8,p8,n8⟩:=new_facts hH8
  generalize hH8b:AH.new H8 _=H8b
  obtain⟨g8b,p8b,n8b⟩:=new_facts hH8b
  have kv:=kp_new (n:=n) (ns:=[-1,1,999]) hH8b (by omega)
  refine s_l01Pick (s7.kp (p8.trans p8b)) kv (by simp) (by simp) fun j H9 k9 l9 s9 hj=>?_
  generalize ([-1,1,999]:List Int).getD j 0=y
  have g1:=k9.get (by omega) (pre_get (p8.trans p8b) g1)
  have g6:=k9.get (by omega) (pre_get (p8.trans p8b) g6)
  have g8:=k9.get (by omega) (pre_get p8b g8)
  have ws:=(ws.pre (p8.trans p8b)).kpn k9 (by omega)
  have kk:=(kk.trans (Kp.of (p8.trans p8b))).trans k9
  refine WO_cut (fun f:Fr=>f 0=srcP n∧f 2=.pointer (some ⟨h.length,0,none⟩)∧f 6=.pointer (some ⟨H4.length,0,none⟩)∧f 91=.slice (some ⟨H7.length,0,none⟩) 0 2∧f 94=I64 y∧True) ⟨(by first|rfl|exact f0|simp[upd_apply,f0]),(by first|rfl|exact f2|simp[upd_apply,f2]),(by first|rfl|exact f6|simp[upd_apply,f6]),(by first|rfl|simp[upd_apply]),(by first|rfl|simp[upd_apply]),trivial⟩ ?_
  rintro f ⟨f0,f2,f6,f91,f94,-⟩
  ((try simp (maxSteps:=3000000) (dsimp:=false) (disch:=first|omega|simp only[lnx];omega) only[↓ypre,ypost,↓reduceIte,reduceEqDiff,reduceAdd,reduceSub,reduceLeDiff,zz0,ynew,f0,f2,f6,f91,f94,fillL,zrep]);try simp only[yback])
  generalize hHA:AH.new H9 _=HA
  obtain⟨gA,pA,nA⟩:=new_facts hHA
  have kv:=kp_new (n:=n) (ns:=[0,1]) hHA (by have:=s9.lt;omega)
  refine s_l01Pick (s9.kp pA) kv (by simp) (by simp) fun j2 HB kB lB sB hj2=>?_
  generalize ([0,1]:List Int).getD j2 0=z
  have g1:=kB.get (by omega) (pre_get pA g1)
  have g6:=kB.get (by omega) (pre_get pA g6)
  have g8:=kB.get (by omega) (pre_get pA g8)
  have ws:=(ws.pre pA).kpn kB (by omega)
  have kk:=(kk.trans (Kp.of pA)).trans kB
  have kkl:=kk.len
  have w0:WayX (183) .i64 2 HB h.length [] (.slice (some ⟨H7.length,0,none⟩) 0 2) []:=⟨fun q hq=>by simp at hq,.inr ⟨H7.length,true,rfl,by omega,by simp,g8⟩⟩
  refine WO_cut (fun f:Fr=>f 0=srcP n∧f 2=.pointer (some ⟨h.length,0,none⟩)∧f 6=.pointer (some ⟨H4.length,0,none⟩)∧f 91=.slice (some ⟨H7.length,0,none⟩) 0 2∧f 94=I64 y∧f 97=I64 z∧True) ⟨(by first|rfl|exact f0|simp[upd_apply,f0]),(by first|rfl|exact f2|simp[upd_apply,f2]),(by first|rfl|exact f6|simp[upd_apply,f6]),(by first|rfl|exact f91|simp[upd_apply,f91]),(by first|rfl|exact f94|simp[upd_apply,f94]),(by first|rfl|simp[upd_apply]),trivial⟩ ?_
  rintro f ⟨f0,f2,f6,f91,f94,f97,-⟩
  ((try simp (maxSteps:=3000000) (dsimp:=false) (disch:=first|omega|simp only[lnx];omega) only[↓ypre,ypost,↓reduceIte,reduceEqDiff,reduceAdd,reduceSub,reduceLeDiff,zz0,ynew,f0,f2,f6,f91,f94,f97,fillL,zrep]);try simp only[yback])
  refine w0.app_kp (q:=[y,z]) rfl (by simp) (by simp) (by omega) fun so2 HC kc lC lkc hkc kC woC=>?_
  have wsC:=ws.kpk kC w0 hkc (by decide)
  have n1:=w0.ne hkc g1 (by simp)
  have n6:=w0.ne hkc g6 (by simp)
  have g1:=kC.get n1 g1
  have g6:=kC.get n6 g6
  have sC:=sB.over kC (by omega) (by omega)
  have kkC:=kk.over kC (by omega)
  have woC:=woC.mlo (lo':=h.length) (by omega)
  have g6l:=get_lt g6
  have oC:=woC.one
  ((try simp (maxSteps:=3000000) (dsimp:=false) (disch:=first|omega|simp only[lnx];omega) only[↓ypre,ypost,↓reduceIte,reduceEqDiff,reduceAdd,reduceSub,reduceLeDiff,zz0,ynew,f0,f2,f6,f91,f94,f97,oC,woC.cells,wr_of g6,wr_of g1,splice_eq,oS]);try simp only[yback])
  generalize hHZ:AH.put _ _ _=HZ
  exact fin2 X.n L [[y,z]] sv so2 _ _ _ _ HC HZ hHZ kkC sC g1 rfl g6 rfl wsC woC (by omega) (by omega) (by simp)
 by_cases c2:¬ r5=2
 ·((try simp (maxSteps:=3000000) (dsimp:=false) (disch:=first|omega|simp only[lnx];omega) only[↓ypre,ypost,↓reduceIte,reduceEqDiff,reduceAdd,reduceSub,reduceLeDiff,zz0,ynew,f0,f2,f3,f6,f79,decide_eq_false c0,decide_eq_false c1,decide_eq_false c2,rdn_of g6,oS,oO,wr_of g1,splice_eq,rdn_put_same]);try simp only[yback])
  generalize hHZ:AH.put H7 _ _=HZ
  exact fin X.n L O sv so _ _ H7 HZ kk s7 g1 rfl hHZ ws wo (by omega) (by omega) (by omega)
 have c2:=Decidable.not_not.1 c2
 ((try simp (maxSteps:=3000000) (dsimp:=false) (disch:=first|omega|simp only[lnx];omega) only[↓ypre,ypost,↓reduceIte,reduceEqDiff,reduceAdd,reduceSub,reduceLeDiff,zz0,ynew,f0,f2,f3,f6,f79,decide_eq_false c0,decide_eq_false c1,decide_eq_true c2,rd1_of g6,fillL,zrep]);try simp only[yback])
 refine ws.copy (by omega) (by omega) (by omega) fun sv2 H8 p8 w8=>?_
 have g1:=pre_get p8 g1
 have g6:=pre_get p8 g6
 have wo:=wo.pre p8
 have kk:=kk.trans (Kp.of p8)
 have w8:=w8.mlo (lo':=h.length) (by omega)
 have s8:=s7.kp p8
 have l8:=p8.length_le
 ((try simp (maxSteps:=3000000) (dsimp:=false) (disch:=first|omega|simp only[lnx];omega) only[↓ypre,ypost,↓reduceIte,reduceEqDiff,reduceAdd,reduceSub,reduceLeDiff,zz0,ynew,f0,f2,f3,f6,f79,fillL,zrep]);try simp only[yback])
 generalize hH8b:AH.new H8 _=H8b
 obtain⟨g8b,p8b,n8b⟩:=new_facts hH8b
 have kv:=kp_new (n:=n) (ns:=[0,1,999]) hH8b (by omega)
 refine s_l01Pick (s8.kp p8b) kv (by simp) (by simp) fun j H9 k9 l9 s9 hj=>?_
 generalize ([0,1,999]:List Int).getD j 0=y
 have g1:=k9.get (by omega) (pre_get p8b g1)
 have g6:=k9.get (by omega) (pre_get p8b g6)
 have w8:=(w8.pre p8b).kpn k9 (by omega)
 have wo:=(wo.pre p8b).kpn k9 (by omega)
 have kk:=(kk.trans (Kp.of p8b)).trans k9
 refine WO_cut (fun f:Fr=>f 0=srcP n∧f 2=.pointer (some ⟨h.length,0,none⟩)∧f 3=I64 p∧f 6=.pointer (some ⟨H4.length,0,none⟩)∧f 107=sv2∧f 110=I64 y∧True) ⟨(by first|rfl|exact f0|simp[upd_apply,f0]),(by first|rfl|exact f2|simp[upd_apply,f2]),(by first|rfl|exact f3|simp[upd_apply,f3]),(by first|rfl|exact f6|simp[upd_apply,f6]),(by first|rfl|simp[upd_apply]),(by first|rfl|simp[upd_apply]),trivial⟩ ?_
 rintro f ⟨f0,f2,f3,f6,f107,f110,-⟩
 ((try simp (maxSteps:=3000000) (dsimp:=false) (disch:=first|omega|simp only[lnx];omega) only[↓ypre,ypost,↓reduceIte,reduceEqDiff,reduceAdd,reduceSub,reduceLeDiff,zz0,ynew,f0,f2,f3,f6,f107,f110,fillL,zrep]);try simp only[yback])
 generalize hHA:AH.new H9 _=HA
 obtain⟨gA,pA,nA⟩:=new_facts hHA
 have kv:=kp_new (n:=n) (ns:=[0,1,p]) hHA (by have:=s9.lt;omega)
 refine s_l01Pick (s9.kp pA) kv (by simp) (by simp) fun j2 HB kB lB sB hj2=>?_
 generalize ([0,1,p]:List Int).getD j2 0=z
 have g1:=kB.get (by omega) (pre_get pA g1)
 have g6:=kB.get (by omega) (pre_get pA g6)
 have w8:=(w8.pre pA).kpn kB (by omega)
 have wo:=(wo.pre pA).kpn kB (by omega)
 have kk:=(kk.trans (Kp.of pA)).trans kB
 have kkl:=kk.len
 refine WO_cut (fun f:Fr=>f 0=srcP n∧f 2=.pointer (some ⟨h.length,0,none⟩)∧f 6=.pointer (some ⟨H4.length,0,none⟩)∧f 107=sv2∧f 110=I64 y∧f 114=I64 z∧True) ⟨(by first|rfl|exact f0|simp[upd_apply,f0]),(by first|rfl|exact f2|simp[upd_apply,f2]),(by first|rfl|exact f6|simp[upd_apply,f6]),(by first|rfl|exact f107|simp[upd_apply,f107]),(by first|rfl|exact f110|simp[upd_apply,f110]),(by first|rfl|simp[upd_apply]),trivial⟩ ?_
 rintro f ⟨f0,f2,f6,f107,f110,f114,-⟩
 ((try simp (maxSteps:=3000000) (dsimp:=false) (disch:=first|omega|simp only[lnx];omega) only[↓ypre,ypost,↓reduceIte,reduceEqDiff,reduceAdd,reduceSub,reduceLeDiff,zz0,ynew,f0,f2,f6,f107,f110,f114,fillL,zrep]);try simp only[yback])
 refine w8.app_kp (q:=[0,y,z]) rfl (by omega) (by omega) (by omega) fun sv3 HC kc lC lkc hkc kC wsC=>?_
 have woC:=wo.kpk kC w8 hkc (by decide)
 have n1:=w8.ne hkc g1 (by simp)
 have n6:=w8.ne hkc g6 (by simp)
 have g1:=kC.get n1 g1
 have g6:=kC.get n6 g6
 have sC:=sB.over kC (by omega) (by omega)
 have kkC:=kk.over kC (by omega)
 have wsC:=wsC.mlo (lo':=h.length) (by omega)
 have g6l:=get_lt g6
 have oC:=wsC.one
 ((try simp (maxSteps:=3000000) (dsimp:=false) (disch:=first|omega|simp only[lnx];omega) only[↓ypre,ypost,↓reduceIte,reduceEqDiff,reduceAdd,reduceSub,reduceLeDiff,zz0,ynew,f0,f2,f6,f107,f110,f114,oC,wsC.cells,wr_of g6,wr_of g1,splice_eq,oO]);try simp only[yback])
 generalize hHZ:AH.put _ _ _=HZ
 exact fin2 X.n (L++[[0,y,z]]) O sv3 so _ _ _ _ HC HZ hHZ kkC sC g1 rfl g6 rfl wsC woC (by omega) (by rw[List.length_append];simp;omega) (by omega)
theorem l_likeInts {v w:Value} {ns ms:List Int} {h:AH} {Q:Value→AH→Prop} (hv:Ints h v ns) (hv':Ints h w ms) (hl:(ns.length:Int)≤1048576)
  (hQ:Q (.bool (decide (ns=ms))) h):WF S 20 [v,w] h Q:=by
 refine WF_fn (fn:=c20) rfl rfl ?_
 dsimp only[c20,oO,oM,oS,oG,oK,oE,oL,oF,oX,oN]
 by_cases hne:(ns.length:Int)≠ms.length
 ·((try simp (maxSteps:=3000000) (dsimp:=false) (disch:=first|omega|simp only[lnx];omega) only[↓ypre,ypost,↓reduceIte,reduceEqDiff,reduceAdd,reduceSub,reduceLeDiff,zz0,ynew,hv.len,hv'.len,decide_eq_true hne]);try simp only[yback])
  have:ns≠ms:=fun e=>hne (by rw[e])
  simpa [this] using hQ
 ·((try simp (maxSteps:=3000000) (dsimp:=false) (disch:=first|omega|simp only[lnx];omega) only[↓ypre,ypost,↓reduceIte,reduceEqDiff,reduceAdd,reduceSub,reduceLeDiff,zz0,ynew,hv.len,hv'.len,decide_eq_false hne]);try simp only[yback])
  have hlen:ns.length=ms.length:=by omega
  refine WC_loop_inv (fun m f K1=>∃ (i:Nat),m=ns.length-i∧i≤ns.length∧f 0=v∧f 1=w∧f 5=I64 i∧(K1=h)∧(∀ j,j<i→ns.getD j 0=ms.getD j 0)) ?_ (ns.length-0) _ _ ⟨0,rfl,by omega,(by first|rfl|simp[upd_apply]),(by first|rfl|simp[upd_apply]),(by first|rfl|simp[upd_apply]),rfl,(by omega)⟩
  rintro m f K1 ⟨i,rfl,hi,f0,f1,f5,hK,hj⟩
  subst hK
  by_cases hlt:(i:Int)<ns.length
  ·obtain⟨n1,off1,hix1,hrd1⟩:=hv.cell (j:=i) (by omega)
   obtain⟨n2,off2,hix2,hrd2⟩:=hv'.cell (j:=i) (by omega)
   by_cases he:ns.getD i 0≠ms.getD i 0
   ·((try simp (maxSteps:=3000000) (dsimp:=false) (disch:=first|omega|simp only[lnx];omega) only[↓ypre,ypost,↓reduceIte,reduceEqDiff,reduceAdd,reduceSub,reduceLeDiff,zz0,ynew,f0,f1,f5,hv.len,decide_eq_true hlt,hix1,hrd1,hix2,hrd2,decide_eq_true he]);try simp only[yback])
    have:ns≠ms:=fun e=>he (by rw[e])
    simpa [this] using hQ
   ·((try simp (maxSteps:=3000000) (dsimp:=false) (disch:=first|omega|simp only[lnx];omega) only[↓ypre,ypost,↓reduceIte,reduceEqDiff,reduceAdd,reduceSub,reduceLeDiff,zz0,ynew,f0,f1,f5,hv.len,decide_eq_true hlt,hix1,hrd1,hix2,hrd2,decide_eq_false he,wrap64_in]);try simp only[yback])
    have hj':∀ j,j<i+1→ns.getD j 0=ms.getD j 0:=fun j q=>by
     rcases Nat.lt_succ_iff_lt_or_eq.1 q with q|rfl
     ·exact hj j q
     ·exact Decidable.not_not.1 he
    refine InvQ_go (ns.length-(i+1)) (by omega) ⟨(i+1),rfl,by omega,(by first|rfl|exact f0|(simp only[upd_apply];rfl)|(show I64 _=_;congr 1;omega)),(by first|rfl|exact f1|(simp only[upd_apply];rfl)|(show I64 _=_;congr 1;omega)),(by first|rfl|exact f5|(simp only[upd_apply];rfl)|(show I64 _=_;congr 1;omega)),rfl,hj'⟩
  ·((try simp (maxSteps:=3000000) (dsimp:=false) (disch:=first|omega|simp only[lnx];omega) only[↓ypre,ypost,↓reduceIte,reduceEqDiff,reduceAdd,reduceSub,reduceLeDiff,zz0,ynew,f0,f1,f5,hv.len,decide_eq_false hlt]);try simp only[yback])
   have:ns=ms:=by
    refine List.ext_getElem? fun j=>?_
    by_cases h1:j<ns.length
    ·have:=hj j (by omega)
     rw[List.getElem?_eq_getElem h1,List.getElem?_eq_getElem (by omega)]
     simpa [List.getD_eq_getElem?_getD,List.getElem?_eq_getElem h1,List.getElem?_eq_getElem (show j<ms.length by omega)] using this
    ·rw[List.getElem?_eq_none (by omega),List.getElem?_eq_none (by omega)]
   simpa [this] using hQ
theorem l_big {h:AH} {cv:Value} {code:List (List Int)} {Q:Value→AH→Prop} (c:Els .u8 1 h cv code)
  (hQ:Q (.bool (decide ((code.length:Int)>4096))) h):WF S 13 [cv] h Q:=by
 refine WF_fn (fn:=c13) rfl rfl ?_
 dsimp only[c13,oO,oM,oS,oG,oK,oE,oL,oF,oX,oN]
 ((try simp (maxSteps:=3000000) (dsimp:=false) (disch:=first|omega|simp only[lnx];omega) only[↓ypre,ypost,↓reduceIte,reduceEqDiff,reduceAdd,reduceSub,reduceLeDiff,zz0,ynew,c.len]);try simp only[yback])
 exact hQ
theorem PrgB.small {x:Prg} (b:PrgB x):SmallP x:=⟨by have:=b.st;show (x.st.length:Int)≤1048576;omega,by have:=b.out;show (x.out.length:Int)≤1048576;omega⟩
theorem ProgD.one {lo:Nat} {h:AH} {v w:Value} {x:Prg} (o:ProgD lo h v w x):isOne v=true∧isOne w=true:=⟨o.now.1.one,o.now.2.one⟩
theorem s_DrawFormsOf {h:AH} {cv:Value} {code:List (List Int)} {Q:Value→AH→Prop} (c:Cod h cv code)
  (hQ:∀ (x:Prg) (v w:Value) (h':AH),h<+:h'→PrgR h' v w x→PrgB x→Q (prgV x v w) h'):WF S 62 [cv] h Q:=by
 refine WF_fn (fn:=c62) rfl rfl ?_
 dsimp only[c62,oO,oM,oS,oG,oK,oE,oL,oF,oX,oN]
 ((try simp (maxSteps:=3000000) (dsimp:=false) (disch:=first|omega|simp only[lnx];omega) only[↓ypre,ypost,↓reduceIte,reduceEqDiff,reduceAdd,reduceSub,reduceLeDiff,zz0,ynew]);try simp only[yback])
 generalize hH1:AH.new h _=H1
 obtain⟨hb1,p1,n1⟩:=new_facts hH1
 refine s_l01From (c.els.pre p1) c.byt c.len fun H2 p2 l2 s2=>?_
 ((try simp (maxSteps:=3000000) (dsimp:=false) (disch:=first|omega|simp only[lnx];omega) only[↓ypre,ypost,↓reduceIte,reduceEqDiff,reduceAdd,reduceSub,reduceLeDiff,zz0,ynew]);try simp only[yback])
 refine s_l07Program s2 fun x v w H3 k3 s3 pd pb=>?_
 have g1:=k3.get (by omega) (pre_get p2 hb1)
 have lg:=get_lt g1
 ((try simp (maxSteps:=3000000) (dsimp:=false) (disch:=first|omega|simp only[lnx];omega) only[↓ypre,ypost,↓reduceIte,reduceEqDiff,reduceAdd,reduceSub,reduceLeDiff,zz0,ynew,prgV,pd.one.1,pd.one.2,wr_of g1,splice_eq,rdn_put_same]);try simp only[yback])
 exact hQ x v w _ (pre_put (p1.trans s3.p) (Nat.le_refl _)) (KN.put pd (by omega)).now pb
theorem s_DrawDepthsOf {h:AH} {cv:Value} {code:List (List Int)} {Q:Value→AH→Prop} (c:Cod h cv code)
  (hQ:∀ (x:Prg) (v w:Value) (h':AH),h<+:h'→PrgR h' v w x→PrgB x→Q (prgV x v w) h'):WF S 64 [cv] h Q:=by
 refine WF_fn (fn:=c64) rfl rfl ?_
 dsimp only[c64,oO,oM,oS,oG,oK,oE,oL,oF,oX,oN]
 ((try simp (maxSteps:=3000000) (dsimp:=false) (disch:=first|omega|simp only[lnx];omega) only[↓ypre,ypost,↓reduceIte,reduceEqDiff,reduceAdd,reduceSub,reduceLeDiff,zz0,ynew]);try simp only[yback])
 generalize hH1:AH.new h _=H1
 obtain⟨hb1,p1,n1⟩:=new_facts hH1
 refine s_l01From (c.els.pre p1) c.byt c.len fun H2 p2 l2 s2=>?_
 ((try simp (maxSteps:=3000000) (dsimp:=false) (disch:=first|omega|simp only[lnx];omega) only[↓ypre,ypost,↓reduceIte,reduceEqDiff,reduceAdd,reduceSub,reduceLeDiff,zz0,ynew]);try simp only[yback])
 refine s_l07Program s2 fun x v w H3 k3 s3 pd pb=>?_
 have g1:=k3.get (by omega) (pre_get p2 hb1)
 have lg:=get_lt g1
 ((try simp (maxSteps:=3000000) (dsimp:=false) (disch:=first|omega|simp only[lnx];omega) only[↓ypre,ypost,↓reduceIte,reduceEqDiff,reduceAdd,reduceSub,reduceLeDiff,zz0,ynew,prgV,pd.one.1,pd.one.2,wr_of g1,splice_eq,rdn_put_same]);try simp only[yback])
 exact hQ x v w _ (pre_put (p1.trans s3.p) (Nat.le_refl _)) (KN.put pd (by omega)).now pb
theorem s_DrawWithoutNeedless {h:AH} {cv:Value} {code:List (List Int)} {Q:Value→AH→Prop} (c:Cod h cv code)
  (hQ:∀ (x:Prg) (v w:Value) (h':AH),h<+:h'→PrgR h' v w x→PrgB x→Q (prgV x v w) h'):WF S 56 [cv] h Q:=by
 refine WF_fn (fn:=c56) rfl rfl ?_
 dsimp only[c56,oO,oM,oS,oG,oK,oE,oL,oF,oX,oN]
 ((try simp (maxSteps:=3000000) (dsimp:=false) (disch:=first|omega|simp only[lnx];omega) only[↓ypre,ypost,↓reduceIte,reduceEqDiff,reduceAdd,reduceSub,reduceLeDiff,zz0,ynew]);try simp only[yback])
 generalize hH1:AH.new h _=H1
 obtain⟨hb1,p1,n1⟩:=new_facts hH1
 refine s_l01From (c.els.pre p1) c.byt c.len fun H2 p2 l2 s2=>?_
 ((try simp (maxSteps:=3000000) (dsimp:=false) (disch:=first|omega|simp only[lnx];omega) only[↓ypre,ypost,↓reduceIte,reduceEqDiff,reduceAdd,reduceSub,reduceLeDiff,zz0,ynew]);try simp only[yback])
 refine s_l07Program s2 fun x v w H3 k3 s3 pd pb=>?_
 have g1:=k3.get (by omega) (pre_get p2 hb1)
 have lg:=get_lt g1
 ((try simp (maxSteps:=3000000) (dsimp:=false) (disch:=first|omega|simp only[lnx];omega) only[↓ypre,ypost,↓reduceIte,reduceEqDiff,reduceAdd,reduceSub,reduceLeDiff,zz0,ynew,prgV,pd.one.1,pd.one.2,wr_of g1,splice_eq,rdn_put_same]);try simp only[yback])
 exact hQ x v w _ (pre_put (p1.trans s3.p) (Nat.le_refl _)) (KN.put pd (by omega)).now pb
theorem s_DrawSharedProgram {h:AH} {cv:Value} {code:List (List Int)} {Q:Value→AH→Prop} (c:Cod h cv code)
  (hQ:∀ (p n:Int) (rows:List (List Int)) (v:Value) (h':AH),h<+:h'→Rows h' v rows→SmallM rows→Q (.tuple #[I64 p,I64 n,v]) h'):WF S 49 [cv] h Q:=by
 refine WF_fn (fn:=c49) rfl rfl ?_
 dsimp only[c49,oO,oM,oS,oG,oK,oE,oL,oF,oX,oN]
 ((try simp (maxSteps:=3000000) (dsimp:=false) (disch:=first|omega|simp only[lnx];omega) only[↓ypre,ypost,↓reduceIte,reduceEqDiff,reduceAdd,reduceSub,reduceLeDiff,zz0,ynew]);try simp only[yback])
 refine s_l01From c.els c.byt c.len fun H2 p2 l2 s2=>?_
 ((try simp (maxSteps:=3000000) (dsimp:=false) (disch:=first|omega|simp only[lnx];omega) only[↓ypre,ypost,↓reduceIte,reduceEqDiff,reduceAdd,reduceSub,reduceLeDiff,zz0,ynew]);try simp only[yback])
 refine s_l07Draw s2 fun p n rows v H3 hp hn k3 s3 md=>?_
 ((try simp (maxSteps:=3000000) (dsimp:=false) (disch:=first|omega|simp only[lnx];omega) only[↓ypre,ypost,↓reduceIte,reduceEqDiff,reduceAdd,reduceSub,reduceLeDiff,zz0,ynew,xres_t3]);try simp only[yback])
 exact hQ p n rows v _ s3.p md.kn.now (smallM_of2 (A:=10) (B:=100) md.len md.row (by omega))
theorem s_DrawPlainProgram {h:AH} {cv:Value} {code:List (List Int)} {Q:Value→AH→Prop} (c:Cod h cv code)
  (hQ:∀ (p n:Int) (rows:List (List Int)) (v:Value) (h':AH),h<+:h'→Rows h' v rows→SmallM rows→Q (.tuple #[I64 p,I64 n,v]) h'):WF S 66 [cv] h Q:=by
 refine WF_fn (fn:=c66) rfl rfl ?_
 dsimp only[c66,oO,oM,oS,oG,oK,oE,oL,oF,oX,oN]
 ((try simp (maxSteps:=3000000) (dsimp:=false) (disch:=first|omega|simp only[lnx];omega) only[↓ypre,ypost,↓reduceIte,reduceEqDiff,reduceAdd,reduceSub,reduceLeDiff,zz0,ynew]);try simp only[yback])
 refine s_l01From c.els c.byt c.len fun H2 p2 l2 s2=>?_
 ((try simp (maxSteps:=3000000) (dsimp:=false) (disch:=first|omega|simp only[lnx];omega) only[↓ypre,ypost,↓reduceIte,reduceEqDiff,reduceAdd,reduceSub,reduceLeDiff,zz0,ynew]);try simp only[yback])
 refine s_l07Draw s2 fun p n rows v H3 hp hn k3 s3 md=>?_
 ((try simp (maxSteps:=3000000) (dsimp:=false) (disch:=first|omega|simp only[lnx];omega) only[↓ypre,ypost,↓reduceIte,reduceEqDiff,reduceAdd,reduceSub,reduceLeDiff,zz0,ynew,xres_t3]);try simp only[yback])
 exact hQ p n rows v _ s3.p md.kn.now (smallM_of2 (A:=10) (B:=100) md.len md.row (by omega))
theorem eqa_self {k:IntKind} {n:Nat} {q:List Int} (hq:q.length=n) (h0:0<n):eqaV true n (.agg (cel k q).toArray) (.agg (cel k q).toArray)=some (.bool false):=by
 have e1:=intsOf_cel (k:=k) (q:=q) (by intro e;rw[e] at hq;simp at hq;omega)
 simp only[eqaV,e1]
 rw[if_pos ⟨trivial,hq,hq⟩]
 simp
theorem l_programs5 {v w v' w':Value} {x:Prg} {h:AH} {Q:Value→AH→Prop} (hv:PrgR h v w x) (hv':PrgR h v' w' x) (hl:SmallP x)
  (hQ:∀ h',h<+:h'→Q (.bool true) h'):WF S 54 [prgV x v w,prgV x v' w'] h Q:=by
 refine WF_fn (fn:=c54) rfl rfl ?_
 dsimp only[c54,oO,oM,oS,oG,oK,oE,oL,oF,oX,oN]
 obtain⟨l1,l2⟩:=hl
 unfold SmallE at l1 l2
 ((try simp (maxSteps:=3000000) (dsimp:=false) (disch:=first|omega|simp only[lnx];omega) only[↓ypre,ypost,↓reduceIte,reduceEqDiff,reduceAdd,reduceSub,reduceLeDiff,zz0,ynew,prgV,hv.1.one,hv.2.one,hv'.1.one,hv'.2.one]);try simp only[yback])
 generalize hH1:AH.new h _=H1
 obtain⟨hb1,p1,n1⟩:=new_facts hH1
 generalize hH2:AH.new H1 _=H2
 obtain⟨hb2,p2,n2⟩:=new_facts hH2
 have hb1:=pre_get p2 hb1
 have e1:=hv.pre (p1.trans p2)
 have e2:=hv'.pre (p1.trans p2)
 rw[n1] at hb2
 ((try simp (maxSteps:=3000000) (dsimp:=false) (disch:=first|omega|simp only[lnx];omega) only[↓ypre,ypost,↓reduceIte,reduceEqDiff,reduceAdd,reduceSub,reduceLeDiff,zz0,ynew,n1,rd1_of hb1,rd1_of hb2,e1.1.len,e1.2.len,e2.1.len,e2.2.len,decide_eq_false (show ¬ x.p≠x.p from fun h=>h rfl),decide_eq_false (show ¬ x.n≠x.n from fun h=>h rfl),decide_eq_false (show ¬ (x.st.length:Int)≠x.st.length from fun h=>h rfl),decide_eq_false (show ¬ (x.out.length:Int)≠x.out.length from fun h=>h rfl)]);try simp only[yback])
 refine WC_loop_inv (fun m f K1=>∃ (i:Nat),m=x.st.length-i∧i≤x.st.length∧f 2=.pointer (some ⟨h.length,0,none⟩)∧f 3=.pointer (some ⟨h.length+1,0,none⟩)∧f 5=I64 i∧(K1=H2)) ?_ (x.st.length-0) _ _ ⟨0,rfl,by omega,(by first|rfl|simp[upd_apply]),(by first|rfl|simp[upd_apply]),(by first|rfl|simp[upd_apply]),rfl⟩
 rintro m f K1 ⟨i,rfl,hi,f2,f3,f5,hK⟩
 subst hK
 by_cases hlt:(i:Int)<x.st.length
 ·obtain⟨m1,f1,ix1,rn1⟩:=e1.1.rdw (i:=i) (by omega)
  obtain⟨m2,f2',ix2,rn2⟩:=e2.1.rdw (i:=i) (by omega)
  have wl:=e1.1.wid (i:=i) (by omega)
  have eq:=eqa_self (k:=.i64) (n:=3) wl (by omega)
  ((try simp (maxSteps:=3000000) (dsimp:=false) (disch:=first|omega|simp only[lnx];omega) only[↓ypre,ypost,↓reduceIte,reduceEqDiff,reduceAdd,reduceSub,reduceLeDiff,zz0,ynew,f2,f3,f5,rd1_of hb1,rd1_of hb2,e1.1.len,decide_eq_true hlt,ix1,ix2,rn1,rn2,eq,wrap64_in]);try simp only[yback])
  refine InvQ_go (x.st.length-(i+1)) (by omega) ⟨(i+1),rfl,by omega,(by first|rfl|exact f2|(simp only[upd_apply];rfl)|(show I64 _=_;congr 1;omega)),(by first|rfl|exact f3|(simp only[upd_apply];rfl)|(show I64 _=_;congr 1;omega)),(by first|rfl|exact f5|(simp only[upd_apply];rfl)|(show I64 _=_;congr 1;omega)),rfl⟩
 ((try simp (maxSteps:=3000000) (dsimp:=false) (disch:=first|omega|simp only[lnx];omega) only[↓ypre,ypost,↓reduceIte,reduceEqDiff,reduceAdd,reduceSub,reduceLeDiff,zz0,ynew,f2,f3,f5,rd1_of hb1,rd1_of hb2,e1.1.len,decide_eq_false hlt]);try simp only[yback])
 refine WC_loop_inv (fun m f K2=>∃ (i:Nat),m=x.out.length-i∧i≤x.out.length∧f 2=.pointer (some ⟨h.length,0,none⟩)∧f 3=.pointer (some ⟨h.length+1,0,none⟩)∧f 6=I64 i∧(K2=K1)) ?_ (x.out.length-0) _ _ ⟨0,rfl,by omega,(by first|rfl|exact f2|(simp[upd_apply];done)),(by first|rfl|exact f3|(simp[upd_apply];done)),(by first|rfl|simp[upd_apply]),rfl⟩
 rintro m f K2 ⟨i,rfl,hi,f2,f3,f6,hK⟩
 subst hK
 by_cases hlt:(i:Int)<x.out.length
 ·obtain⟨m1,f1,ix1,rn1⟩:=e1.2.rdw (i:=i) (by omega)
  obtain⟨m2,f2',ix2,rn2⟩:=e2.2.rdw (i:=i) (by omega)
  have wl:=e1.2.wid (i:=i) (by omega)
  have eq:=eqa_self (k:=.i64) (n:=2) wl (by omega)
  ((try simp (maxSteps:=3000000) (dsimp:=false) (disch:=first|omega|simp only[lnx];omega) only[↓ypre,ypost,↓reduceIte,reduceEqDiff,reduceAdd,reduceSub,reduceLeDiff,zz0,ynew,f2,f3,f6,rd1_of hb1,rd1_of hb2,e1.2.len,decide_eq_true hlt,ix1,ix2,rn1,rn2,eq,wrap64_in]);try simp only[yback])
  refine InvQ_go (x.out.length-(i+1)) (by omega) ⟨(i+1),rfl,by omega,(by first|rfl|exact f2|(simp only[upd_apply];rfl)|(show I64 _=_;congr 1;omega)),(by first|rfl|exact f3|(simp only[upd_apply];rfl)|(show I64 _=_;congr 1;omega)),(by first|rfl|exact f6|(simp only[upd_apply];rfl)|(show I64 _=_;congr 1;omega)),rfl⟩
 ((try simp (maxSteps:=3000000) (dsimp:=false) (disch:=first|omega|simp only[lnx];omega) only[↓ypre,ypost,↓reduceIte,reduceEqDiff,reduceAdd,reduceSub,reduceLeDiff,zz0,ynew,f2,f3,f6,rd1_of hb1,rd1_of hb2,e1.2.len,decide_eq_false hlt]);try simp only[yback])
 exact hQ _ (p1.trans p2)
theorem l_like {v w:Value} {ns:List Int} {h:AH} {Q:Value→AH→Prop} (hv:Ints h v ns) (hw:Ints h w ns) (hl:(ns.length:Int)≤1048576)
  (hQ:Q (.bool true) h):WF S 20 [v,w] h Q:=l_likeInts hv hw hl (by rw[decide_eq_true rfl];exact hQ)
end Go.Proofs.Ytapafdpnmakekaa.X

set_option linter.unusedVariables false
set_option linter.unusedSimpArgs false
set_option maxRecDepth 20000
set_option maxHeartbeats 4000000
namespace Go.Proofs.Ytapafdpnmakekaa.X
open Go Go.RowKit
theorem TenB.l {t:Ten} (b:TenB t):(t.ns.length:Int)≤1048576:=by
 have:=b.ns
 omega
theorem WO_mono' {S:XS} {A REST:IR} {f:Fr} {h:AH} {R:XE→Fr→AH→Prop} (I:Fr→AH→Prop) (w:WC S A f h (JnQ I)) (hr:∀ f h,I f h→WC S REST f h R):WC S A f h (SeqQ S REST R):=
 WC.mono w fun e f2 h2 q2=>by
  cases e with
  | normal=>exact hr f2 h2 q2
  | exit id=>exact q2.elim
  | ret=>exact q2.elim
def Kcv (h:AH) (cv:Value) (f:Fr) (h':AH):Prop:=f 0=cv∧h<+:h'
def coOK (t:Ten) (s:Int) (ns:List Int):Prop:=(0≤s∧s≤2)∧allIn t.p ns=true∧(ns.length:Int)=sideN t s.toNat
instance {t:Ten} {s:Int} {ns:List Int}:Decidable (coOK t s ns):=by unfold coOK;infer_instance
end Go.Proofs.Ytapafdpnmakekaa.X

set_option linter.unusedVariables false
set_option linter.unusedSimpArgs false
set_option maxRecDepth 20000
set_option maxHeartbeats 4000000
namespace Go.Proofs.Ytapafdpnmakekaa.X
open Go Go.RowKit
open Nat (reduceEqDiff reduceAdd reduceSub reduceLeDiff)
theorem l_rows5 {v w:Value} {rows:List (List Int)} {h:AH} {Q:Value→AH→Prop} (hv:Rows h v rows) (hw:Rows h w rows) (hl:SmallM rows)
  (hQ:Q (.bool true) h):WF S 48 [v,w] h Q:=by
 refine WF_fn (fn:=c48) rfl rfl ?_
 dsimp only[c48,oO,oM,oS,oG,oK,oE,oL,oF,oX,oN]
 obtain⟨cs,hc,hcl,-⟩:=id hv
 obtain⟨ds,hd,hdl,-⟩:=id hw
 have c1:=hc.len
 have c2:=hd.len
 rw[hcl] at c1
 rw[hdl] at c2
 have h1:=hl.1
 ((try simp (maxSteps:=3000000) (dsimp:=false) (disch:=first|omega|simp only[lnx];omega) only[↓ypre,ypost,↓reduceIte,reduceEqDiff,reduceAdd,reduceSub,reduceLeDiff,zz0,ynew,c1,c2,decide_eq_false (show ¬ (rows.length:Int)≠rows.length from fun h=>h rfl)]);try simp only[yback])
 refine WC_loop_inv (fun m f K1=>∃ (i:Nat),m=rows.length-i∧i≤rows.length∧f 0=v∧f 1=w∧f 5=I64 i∧(K1=h)) ?_ (rows.length-0) _ _ ⟨0,rfl,by omega,(by first|rfl|simp[upd_apply]),(by first|rfl|simp[upd_apply]),(by first|rfl|simp[upd_apply]),rfl⟩
 rintro m f K1 ⟨i,rfl,hi,f0,f1,f5,hK⟩
 subst hK
 by_cases hlt:(i:Int)<rows.length
 ·obtain⟨n1,o1,x1,hix1,hrd1,i1⟩:=hv.row (i:=i) (by omega)
  obtain⟨n2,o2,x2,hix2,hrd2,i2⟩:=hw.row (i:=i) (by omega)
  ((try simp (maxSteps:=3000000) (dsimp:=false) (disch:=first|omega|simp only[lnx];omega) only[↓ypre,ypost,↓reduceIte,reduceEqDiff,reduceAdd,reduceSub,reduceLeDiff,zz0,ynew,f0,f1,f5,c1,decide_eq_true hlt,hix1,hrd1,hix2,hrd2]);try simp only[yback])
  refine l_likeInts i1 i2 (hl.2.1 i (by omega)) ?_
  ((try simp (maxSteps:=3000000) (dsimp:=false) (disch:=first|omega|simp only[lnx];omega) only[↓ypre,ypost,↓reduceIte,reduceEqDiff,reduceAdd,reduceSub,reduceLeDiff,zz0,ynew,f0,f1,f5,decide_true,wrap64_in]);try simp only[yback])
  refine InvQ_go (rows.length-(i+1)) (by omega) ⟨(i+1),rfl,by omega,(by first|rfl|exact f0|(simp only[upd_apply];rfl)|(show I64 _=_;congr 1;omega)),(by first|rfl|exact f1|(simp only[upd_apply];rfl)|(show I64 _=_;congr 1;omega)),(by first|rfl|exact f5|(simp only[upd_apply];rfl)|(show I64 _=_;congr 1;omega)),rfl⟩
 ·((try simp (maxSteps:=3000000) (dsimp:=false) (disch:=first|omega|simp only[lnx];omega) only[↓ypre,ypost,↓reduceIte,reduceEqDiff,reduceAdd,reduceSub,reduceLeDiff,zz0,ynew,f0,f1,f5,c1,decide_eq_false hlt]);try simp only[yback])
  exact hQ
theorem WO_join2 {S:XS} {ops:List XI} {a b REST:IR} {f:Fr} {h:AH} {R:XE→Fr→AH→Prop} (I:Fr→AH→Prop) (w:WO S ops f h (RegQ (SeqQ S a (SeqQ S b (JnQ I))))) (hr:∀ f h,I f h→WC S REST f h R) :
  WO S ops f h (RegQ (SeqQ S a (SeqQ S (.seq b REST) R))):=by
 refine w.mono fun f1 h1 q=>?_
 refine WC.mono q fun e f2 h2 q2=>?_
 cases e with
 | normal=>
  show WC S (.seq b REST) f2 h2 R
  rw[WC_seq]
  exact WO_mono' I q2 hr
 | exit id=>exact q2.elim
 | ret=>exact q2.elim
theorem s_WithoutNeedless {v w:Value} {x:Prg} {h:AH} {Q:Value→AH→Prop} (hv:PrgR h v w x) (hl:SmallP x)
  (hQ:∀ v' w' h',h<+:h'→InP h.length h'.length h' v' w' (wnR x).1→Q (.tuple #[prgV (wnR x).1 v' w',I64 (wnR x).2]) h'):WF S 58 [prgV x v w] h Q:=by
 refine WF_fn (fn:=c58) rfl rfl ?_
 dsimp only[c58,oO,oM,oS,oG,oK,oE,oL,oF,oX,oN]
 ((try simp (maxSteps:=3000000) (dsimp:=false) (disch:=first|omega|simp only[lnx];omega) only[↓ypre,ypost,↓reduceIte,reduceEqDiff,reduceAdd,reduceSub,reduceLeDiff,zz0,ynew,prgV,hv.1.one,hv.2.one]);try simp only[yback])
 generalize hH1:AH.new h _=H1
 obtain⟨hb1,p1,n1⟩:=new_facts hH1
 generalize hH2:AH.new H1 _=H2
 obtain⟨hb2,p2,n2⟩:=new_facts hH2
 have hb1:=pre_get p2 hb1
 ((try simp (maxSteps:=3000000) (dsimp:=false) (disch:=first|omega|simp only[lnx];omega) only[↓ypre,ypost,↓reduceIte,reduceEqDiff,reduceAdd,reduceSub,reduceLeDiff,zz0,ynew,rdn_of hb1]);try simp only[yback])
 refine s_IsPrg (hv.pre (p1.trans p2)) hl fun H3 p3=>?_
 have hb1:=pre_get p3 hb1
 have hb2:=pre_get p3 hb2
 have lt2:=get_lt hb2
 unfold wnR at hQ
 cases h1:isPrg x with
 | false=>
  rw[h1,if_neg (by decide)] at hQ
  ((try simp (maxSteps:=3000000) (dsimp:=false) (disch:=first|omega|simp only[lnx];omega) only[↓ypre,ypost,↓reduceIte,reduceEqDiff,reduceAdd,reduceSub,reduceLeDiff,zz0,ynew,wr_of hb2]);try simp only[yback])
  exact hQ (.slice none 0 0) (.slice none 0 0) _ (pre_put ((p1.trans p2).trans p3) (by omega)) ⟨h.length,Nat.le_refl _,by rw[len_put];omega,.inl ⟨rfl,rfl⟩,.inl ⟨rfl,rfl⟩⟩
 | true=>
  rw[h1,if_pos rfl] at hQ
  have pf:=isPrg_facts h1
  have fp:=pf.p
  have fn:=pf.n
  have fst:=pf.st
  have fout:=pf.out
  have p13:=(p1.trans p2).trans p3
  have l13:=pre_len p3
  obtain⟨N,hN⟩:∃ N:Nat,x.n=N:=⟨x.n.toNat,by omega⟩
  have hNt:x.n.toNat=N:=by omega
  obtain⟨C,hC⟩:∃ C:Nat,C=N+x.st.length:=⟨_,rfl⟩
  have eC:x.n+(x.st.length:Int)=(C:Int):=by omega
  have uol:∀ i,(uO x i).length=C:=fun i=>by rw[uO_len,hNt,hC]
  have usl:∀ i,(uS x i).length=C:=fun i=>by rw[uS_len,hNt,hC]
  ((try simp (maxSteps:=3000000) (dsimp:=false) (disch:=first|omega|simp only[lnx];omega) only[↓ypre,ypost,↓reduceIte,reduceEqDiff,reduceAdd,reduceSub,reduceLeDiff,zz0,ynew,rd1_of hb1,hv.1.len,eC,wrap64_in]);try simp only[yback])
  refine⟨by omega,?_⟩
  rw[Int.toNat_natCast,zrep_bools]
  generalize hH4:AH.new H3 _=H4
  obtain⟨hb4,p4,n4⟩:=new_facts hH4
  have bu0:Bls H4 H3.length (uO x 0):=by
   unfold uO
   rw[hNt,←hC]
   exact hb4
  ((try simp (maxSteps:=3000000) (dsimp:=false) (disch:=first|omega|simp only[lnx];omega) only[↓ypre,ypost,↓reduceIte,reduceEqDiff,reduceAdd,reduceSub,reduceLeDiff,zz0,ynew]);try simp only[yback])
  refine WC_loop_inv (fun m f K1=>∃ (i:Nat),m=x.out.length-i∧i≤x.out.length∧f 1=.pointer (some ⟨h.length,0,none⟩)∧f 2=.pointer (some ⟨H1.length,0,none⟩)∧f 4=I64 C∧f 5=sl H3.length C∧f 6=I64 i∧(H3<+:K1)∧(Bls K1 H3.length (uO x i))) ?_ (x.out.length-0) _ _ ⟨0,rfl,by omega,(by first|rfl|simp[upd_apply]),(by first|rfl|simp[upd_apply]),(by first|rfl|simp[upd_apply]),(by first|rfl|simp[upd_apply]),(by first|rfl|simp[upd_apply]),p4,bu0⟩
  rintro m f K1 ⟨i,rfl,hi,f1,f2,f4,f5,f6,pp,bu⟩
  have hbK:=pre_get pp hb1
  have ltK:=get_lt hbK
  have hvK:=hv.pre (p13.trans pp)
  by_cases hlt:(i:Int)<x.out.length
  ·have hi':i<x.out.length:=by omega
   obtain⟨n',off',hix',hrn',hr1⟩:=hvK.2.at hi'
   obtain⟨a,b,hq⟩:=all2 (hvK.2.wid hi')
   have r0:=hr1 0 (by omega)
   have r1:=hr1 1 (by omega)
   rw[hq] at r0 r1
   simp only[Nat.add_zero,List.getD_cons_zero,List.getD_cons_succ] at r0 r1
   have s2:=pf.out2 hi' hq
   have en:nOut x i=a.toNat:=by unfold nOut nq;rw[hq];rfl
   have e1:(x.out.getD i []).getD 1 0=b:=by rw[hq];rfl
   by_cases hb0:b=0
   ·((try simp (maxSteps:=3000000) (dsimp:=false) (disch:=first|omega|simp only[lnx];omega) only[↓ypre,ypost,↓reduceIte,reduceEqDiff,reduceAdd,reduceSub,reduceLeDiff,zz0,ynew,f1,f2,f4,f5,f6,Nat.add_zero,rd1_of hbK,hvK.2.len,decide_eq_true hlt,hix',r0,r1,decide_eq_false (show ¬ b≠0 from fun y=>y hb0),wrap64_in]);try simp only[yback])
    refine InvQ_go (x.out.length-(i+1)) (by omega) ⟨(i+1),rfl,by omega,(by first|rfl|exact f1|(simp only[upd_apply];rfl)|(show I64 _=_;congr 1;omega)),(by first|rfl|exact f2|(simp only[upd_apply];rfl)|(show I64 _=_;congr 1;omega)),(by first|rfl|exact f4|(simp only[upd_apply];rfl)|(show I64 _=_;congr 1;omega)),(by first|rfl|exact f5|(simp only[upd_apply];rfl)|(show I64 _=_;congr 1;omega)),(by first|rfl|exact f6|(simp only[upd_apply];rfl)|(show I64 _=_;congr 1;omega)),pp,(by unfold uO;rw[if_pos (by rw[e1];exact hb0)];exact bu)⟩
   ·have ixa:=Lst.ix (n:=H3.length) (j:=a) (len:=C) (by omega)
    obtain⟨H5,w5,e5,b5⟩:=bu.wr (j:=a.toNat) (x:=true) (by rw[uol];omega)
    ((try simp (maxSteps:=3000000) (dsimp:=false) (disch:=first|omega|simp only[lnx];omega) only[↓ypre,ypost,↓reduceIte,reduceEqDiff,reduceAdd,reduceSub,reduceLeDiff,zz0,ynew,f1,f2,f4,f5,f6,Nat.add_zero,rd1_of hbK,hvK.2.len,decide_eq_true hlt,hix',r0,r1,decide_eq_true (show b≠0 from hb0),ixa,w5,wrap64_in]);try simp only[yback])
    refine InvQ_go (x.out.length-(i+1)) (by omega) ⟨(i+1),rfl,by omega,(by first|rfl|exact f1|(simp only[upd_apply];rfl)|(show I64 _=_;congr 1;omega)),(by first|rfl|exact f2|(simp only[upd_apply];rfl)|(show I64 _=_;congr 1;omega)),(by first|rfl|exact f4|(simp only[upd_apply];rfl)|(show I64 _=_;congr 1;omega)),(by first|rfl|exact f5|(simp only[upd_apply];rfl)|(show I64 _=_;congr 1;omega)),(by first|rfl|exact f6|(simp only[upd_apply];rfl)|(show I64 _=_;congr 1;omega)),(by rw[e5];exact pre_put pp (Nat.le_refl _)),(by unfold uO;rw[if_neg (by rw[e1];exact hb0),en];exact b5)⟩
  have ei:i=x.out.length:=by omega
  subst ei
  ((try simp (maxSteps:=3000000) (dsimp:=false) (disch:=first|omega|simp only[lnx];omega) only[↓ypre,ypost,↓reduceIte,reduceEqDiff,reduceAdd,reduceSub,reduceLeDiff,zz0,ynew,f1,f2,f4,f5,f6,rd1_of hbK,hvK.2.len,hvK.1.len,decide_eq_false hlt,wrap64_in]);try simp only[yback])
  refine WC_loop_inv (fun m f K2=>∃ (z:Nat),m=x.st.length-z∧z≤x.st.length∧f 1=.pointer (some ⟨h.length,0,none⟩)∧f 2=.pointer (some ⟨H1.length,0,none⟩)∧f 4=I64 C∧f 5=sl H3.length C∧f 7=I64 ((x.st.length:Int)-1-(z:Int))∧(H3<+:K2)∧(Bls K2 H3.length (uS x z))) ?_ (x.st.length-0) _ _ ⟨0,rfl,by omega,(by first|rfl|exact f1|(simp[upd_apply];done)),(by first|rfl|exact f2|(simp[upd_apply];done)),(by first|rfl|exact f4|(simp[upd_apply];done)),(by first|rfl|exact f5|(simp[upd_apply];done)),(by first|rfl|simp[upd_apply]),pp,bu⟩
  rintro m f K2 ⟨z,rfl,hz,f1,f2,f4,f5,f7,pp,bu⟩
  have hbK:=pre_get pp hb1
  have ltK:=get_lt hbK
  have hvK:=hv.pre (p13.trans pp)
  by_cases hlt:0≤(x.st.length:Int)-1-(z:Int)
  ·obtain⟨i,hi⟩:∃ i:Nat,i=x.st.length-1-z:=⟨_,rfl⟩
   have hi':i<x.st.length:=by omega
   have ei:(x.st.length:Int)-1-(z:Int)=(i:Int):=by omega
   obtain⟨n',off',hix',hrn',hr1⟩:=hvK.1.at hi'
   obtain⟨a,b,d,hq⟩:=all3 (hvK.1.wid hi')
   have r0:=hr1 0 (by omega)
   have r1:=hr1 1 (by omega)
   rw[hq] at r0 r1
   simp only[Nat.add_zero,List.getD_cons_zero,List.getD_cons_succ] at r0 r1
   have s3:=pf.st3 hi' hq
   have ea:nSt x i 0=a.toNat:=by unfold nSt nq;rw[hq];rfl
   have eb:nSt x i 1=b.toNat:=by unfold nSt nq;rw[hq];rfl
   have eni:x.n+(i:Int)=((N+i:Nat):Int):=by omega
   have ixu:=Lst.ix (n:=H3.length) (j:=((N+i:Nat):Int)) (len:=C) (by omega)
   have ixa:=Lst.ix (n:=H3.length) (j:=a) (len:=C) (by omega)
   have ixb:=Lst.ix (n:=H3.length) (j:=b) (len:=C) (by omega)
   rw[Int.toNat_natCast] at ixu
   have ru:=bu.rd (j:=N+i) (by rw[usl];omega)
   have eu:uS x (z+1)=if (uS x z).getD (N+i) false=true then ((uS x z).set a.toNat true).set b.toNat true else uS x z:=by
    show (if (uS x z).getD (x.n.toNat+(x.st.length-1-z)) false=true then ((uS x z).set (nSt x (x.st.length-1-z) 0) true).set (nSt x (x.st.length-1-z) 1) true else uS x z)=_
    rw[←hi,hNt,ea,eb]
   cases hU:(uS x z).getD (N+i) false with
   | false=>
    rw[hU] at ru eu
    rw[if_neg (by decide)] at eu
    ((try simp (maxSteps:=3000000) (dsimp:=false) (disch:=first|omega|simp only[lnx];omega) only[↓ypre,ypost,↓reduceIte,reduceEqDiff,reduceAdd,reduceSub,reduceLeDiff,zz0,ynew,f1,f2,f4,f5,f7,Nat.add_zero,rd1_of hbK,decide_eq_true (show (0:Int)≤(i:Int) by omega),ei,eni,ixu,ru,wrap64_in]);try simp only[yback])
    refine InvQ_go (x.st.length-(z+1)) (by omega) ⟨(z+1),rfl,by omega,(by first|rfl|exact f1|(simp only[upd_apply];rfl)|(show I64 _=_;congr 1;omega)),(by first|rfl|exact f2|(simp only[upd_apply];rfl)|(show I64 _=_;congr 1;omega)),(by first|rfl|exact f4|(simp only[upd_apply];rfl)|(show I64 _=_;congr 1;omega)),(by first|rfl|exact f5|(simp only[upd_apply];rfl)|(show I64 _=_;congr 1;omega)),(by show I64 _=I64 _;congr 1;omega),pp,(by rw[eu];exact bu)⟩
   | true=>
    rw[hU] at ru eu
    rw[if_pos rfl] at eu
    obtain⟨H5,w5,e5,b5⟩:=bu.wr (j:=a.toNat) (x:=true) (by rw[usl];omega)
    obtain⟨H6,w6,e6,b6⟩:=b5.wr (j:=b.toNat) (x:=true) (by rw[List.length_set,usl];omega)
    have q5:H3<+:H5:=by rw[e5];exact pre_put pp (Nat.le_refl _)
    have q6:H3<+:H6:=by rw[e6];exact pre_put q5 (Nat.le_refl _)
    obtain⟨m5,o5,hix5,hrn5,hr5⟩:=(hv.pre (p13.trans q5)).1.at hi'
    have ha:=hix' .i64
    rw[hix5 .i64] at ha
    simp only[Option.some.injEq,Value.pointer.injEq,Addr.mk.injEq,and_true] at ha
    obtain⟨rfl,rfl⟩:=ha
    have r15:=hr5 1 (by omega)
    rw[hq] at r15
    simp only[List.getD_cons_zero,List.getD_cons_succ] at r15
    ((try simp (maxSteps:=3000000) (dsimp:=false) (disch:=first|omega|simp only[lnx];omega) only[↓ypre,ypost,↓reduceIte,reduceEqDiff,reduceAdd,reduceSub,reduceLeDiff,zz0,ynew,f1,f2,f4,f5,f7,Nat.add_zero,rd1_of hbK,decide_eq_true (show (0:Int)≤(i:Int) by omega),ei,eni,ixu,ru,hix',r0,ixa,w5,rd1_of (pre_get q5 hb1),r15,ixb,w6,wrap64_in]);try simp only[yback])
    refine InvQ_go (x.st.length-(z+1)) (by omega) ⟨(z+1),rfl,by omega,(by first|rfl|exact f1|(simp only[upd_apply];rfl)|(show I64 _=_;congr 1;omega)),(by first|rfl|exact f2|(simp only[upd_apply];rfl)|(show I64 _=_;congr 1;omega)),(by first|rfl|exact f4|(simp only[upd_apply];rfl)|(show I64 _=_;congr 1;omega)),(by first|rfl|exact f5|(simp only[upd_apply];rfl)|(show I64 _=_;congr 1;omega)),(by show I64 _=I64 _;congr 1;omega),q6,(by rw[eu];exact b6)⟩
  have ez:z=x.st.length:=by omega
  subst ez
  ((try simp (maxSteps:=3000000) (dsimp:=false) (disch:=first|omega|simp only[lnx];omega) only[↓ypre,ypost,↓reduceIte,reduceEqDiff,reduceAdd,reduceSub,reduceLeDiff,zz0,ynew,f1,f2,f4,f5,f7,decide_eq_false hlt]);try simp only[yback])
  refine⟨by omega,?_⟩
  rw[Int.toNat_natCast,zrep_ints]
  generalize hH7:AH.new K2 _=H7
  obtain⟨hb7,p7,n7⟩:=new_facts hH7
  have pp:=pp.trans p7
  have ln0:Lst H7 K2.length (nmS x 0) true:=by
   rw[nmS_zero,hNt,←hC]
   exact hb7
  have bu:=bu.pre p7
  have hk2:=pre_len pp
  have hK2:H3.length<K2.length:=by have:=(show Bls K2 H3.length _ from by assumption).lt;omega
  ((try simp (maxSteps:=3000000) (dsimp:=false) (disch:=first|omega|simp only[lnx];omega) only[↓ypre,ypost,↓reduceIte,reduceEqDiff,reduceAdd,reduceSub,reduceLeDiff,zz0,ynew,f1,f2,f4,f5,f7]);try simp only[yback])
  refine WC_loop_inv (fun m f K3=>∃ (i:Nat),m=C-i∧i≤C∧f 1=.pointer (some ⟨h.length,0,none⟩)∧f 2=.pointer (some ⟨H1.length,0,none⟩)∧f 4=I64 C∧f 5=sl H3.length C∧f 8=sl K2.length C∧f 9=I64 (rk x i)∧f 10=I64 i∧(H3<+:K3)∧(Bls K3 H3.length (uS x x.st.length))∧(Lst K3 K2.length (nmS x i) true)) ?_ (C-0) _ _ ⟨0,rfl,by omega,(by first|rfl|exact f1|(simp[upd_apply];done)),(by first|rfl|exact f2|(simp[upd_apply];done)),(by first|rfl|exact f4|(simp[upd_apply];done)),(by first|rfl|exact f5|(simp[upd_apply];done)),(by first|rfl|simp[upd_apply]),(by first|rfl|simp[upd_apply]),(by first|rfl|simp[upd_apply]),pp,bu,ln0⟩
  rintro m f K3 ⟨i,rfl,hi,f1,f2,f4,f5,f8,f9,f10,pp,bu,ln⟩
  have hbK:=pre_get pp hb1
  have ltK:=get_lt hbK
  have ri:=rk_in (x:=x) (j:=i)
  by_cases hlt:(i:Int)<C
  ·have hi':i<C:=by omega
   have ixu:=Lst.ix (n:=H3.length) (j:=(i:Int)) (len:=C) (by omega)
   have ixn:=Lst.ix (n:=K2.length) (j:=(i:Int)) (len:=C) (by omega)
   rw[Int.toNat_natCast] at ixu ixn
   have ru:=bu.rd (j:=i) (by rw[usl];exact hi')
   have nl:(nmS x i).length=C:=by rw[nmS_len,hNt,hC]
   obtain⟨H5,w5,e5,l5⟩:=ln.wr (j:=i) (x:=rk x i) (by rw[nl];exact hi')
   have q5:H3<+:H5:=by rw[e5];exact pre_put pp (by omega)
   have b5:Bls H5 H3.length (uS x x.st.length):=by rw[e5];exact bu.put_ne (by omega)
   have yes:kp x i=true→rk x i+1=rk x (i+1)∧Lst H5 K2.length (nmS x (i+1)) true:=fun hk=>⟨by show _=rk x i+_;rw[if_pos hk],by rw[←nmS_set (by rw[hNt,←hC];exact hi') hk];exact l5⟩
   by_cases c1:(i:Int)<x.n
   ·have hk:kp x i=true:=by unfold kp;rw[decide_eq_true (by omega)];rfl
    obtain⟨y1,y2⟩:=yes hk
    ((try simp (maxSteps:=3000000) (dsimp:=false) (disch:=first|omega|simp only[lnx];omega) only[↓ypre,ypost,↓reduceIte,reduceEqDiff,reduceAdd,reduceSub,reduceLeDiff,zz0,ynew,f1,f2,f4,f5,f8,f9,f10,rd1_of hbK,decide_eq_true hlt,decide_eq_true c1,ixn,w5,y1,wrap64_in]);try simp only[yback])
    refine InvQ_go (C-(i+1)) (by omega) ⟨(i+1),rfl,by omega,(by first|rfl|exact f1|(simp only[upd_apply];rfl)|(show I64 _=_;congr 1;omega)),(by first|rfl|exact f2|(simp only[upd_apply];rfl)|(show I64 _=_;congr 1;omega)),(by first|rfl|exact f4|(simp only[upd_apply];rfl)|(show I64 _=_;congr 1;omega)),(by first|rfl|exact f5|(simp only[upd_apply];rfl)|(show I64 _=_;congr 1;omega)),(by first|rfl|exact f8|(simp only[upd_apply];rfl)|(show I64 _=_;congr 1;omega)),(by first|rfl|exact f9|(simp only[upd_apply];rfl)|(show I64 _=_;congr 1;omega)),(by first|rfl|exact f10|(simp only[upd_apply];rfl)|(show I64 _=_;congr 1;omega)),q5,b5,y2⟩
   ·cases hU:(uS x x.st.length).getD i false with
    | true=>
     obtain⟨y1,y2⟩:=yes (kp_of hU)
     rw[hU] at ru
     ((try simp (maxSteps:=3000000) (dsimp:=false) (disch:=first|omega|simp only[lnx];omega) only[↓ypre,ypost,↓reduceIte,reduceEqDiff,reduceAdd,reduceSub,reduceLeDiff,zz0,ynew,f1,f2,f4,f5,f8,f9,f10,rd1_of hbK,decide_eq_true hlt,decide_eq_false c1,ixu,ru,ixn,w5,y1,wrap64_in]);try simp only[yback])
     refine InvQ_go (C-(i+1)) (by omega) ⟨(i+1),rfl,by omega,(by first|rfl|exact f1|(simp only[upd_apply];rfl)|(show I64 _=_;congr 1;omega)),(by first|rfl|exact f2|(simp only[upd_apply];rfl)|(show I64 _=_;congr 1;omega)),(by first|rfl|exact f4|(simp only[upd_apply];rfl)|(show I64 _=_;congr 1;omega)),(by first|rfl|exact f5|(simp only[upd_apply];rfl)|(show I64 _=_;congr 1;omega)),(by first|rfl|exact f8|(simp only[upd_apply];rfl)|(show I64 _=_;congr 1;omega)),(by first|rfl|exact f9|(simp only[upd_apply];rfl)|(show I64 _=_;congr 1;omega)),(by first|rfl|exact f10|(simp only[upd_apply];rfl)|(show I64 _=_;congr 1;omega)),q5,b5,y2⟩
    | false=>
     have hk:¬ kp x i=true:=by unfold kp;rw[hU,decide_eq_false (by omega)];decide
     rw[hU] at ru
     have y1:rk x (i+1)=rk x i:=by show rk x i+_=_;rw[if_neg hk,Int.add_zero]
     ((try simp (maxSteps:=3000000) (dsimp:=false) (disch:=first|omega|simp only[lnx];omega) only[↓ypre,ypost,↓reduceIte,reduceEqDiff,reduceAdd,reduceSub,reduceLeDiff,zz0,ynew,f1,f2,f4,f5,f8,f9,f10,rd1_of hbK,decide_eq_true hlt,decide_eq_false c1,ixu,ru,wrap64_in]);try simp only[yback])
     refine InvQ_go (C-(i+1)) (by omega) ⟨(i+1),rfl,by omega,(by first|rfl|exact f1|(simp only[upd_apply];rfl)|(show I64 _=_;congr 1;omega)),(by first|rfl|exact f2|(simp only[upd_apply];rfl)|(show I64 _=_;congr 1;omega)),(by first|rfl|exact f4|(simp only[upd_apply];rfl)|(show I64 _=_;congr 1;omega)),(by first|rfl|exact f5|(simp only[upd_apply];rfl)|(show I64 _=_;congr 1;omega)),(by first|rfl|exact f8|(simp only[upd_apply];rfl)|(show I64 _=_;congr 1;omega)),(by rw[y1];exact f9),(by first|rfl|exact f10|(simp only[upd_apply];rfl)|(show I64 _=_;congr 1;omega)),pp,bu,(by rw[←nmS_skip hk];exact ln)⟩
  have ei:i=C:=by omega
  subst ei
  have hb2K:=pre_get pp hb2
  have kn:Lst K3 K2.length (nmS x (x.n.toNat+x.st.length)) true:=by rw[hNt,←hC];exact ln
  have nl:(nmS x (x.n.toNat+x.st.length)).length=i:=by rw[nmS_len,hNt,hC]
  have nat_:∀ j,j<i→kp x j=true→(nmS x (x.n.toNat+x.st.length)).getD j 0=rk x j:=fun j hj hk=>nmS_at (by rw[hNt,←hC];exact hj) hk
  generalize nmS x (x.n.toNat+x.st.length)=NM at *
  have k3:=pre_len pp
  have lt4:=kn.lt
  ((try simp (maxSteps:=3000000) (dsimp:=false) (disch:=first|omega|simp only[lnx];omega) only[↓ypre,ypost,↓reduceIte,reduceEqDiff,reduceAdd,reduceSub,reduceLeDiff,zz0,ynew,f1,f2,f4,f5,f8,f9,f10,rd1_of hbK,decide_eq_false hlt]);try simp only[yback])
  generalize hH8:AH.new K3 _=H8
  obtain⟨hb8,p8,n8⟩:=new_facts hH8
  generalize hH9:AH.new H8 _=H9
  obtain⟨hb9,p9,n9⟩:=new_facts hH9
  generalize hHA:AH.new H9 _=HA
  obtain⟨hbA,pA,nA⟩:=new_facts hHA
  have p8A:=(p8.trans p9).trans pA
  have ws0:WayX (181) .i64 3 HA K3.length [H8.length,H9.length] (.slice (some ⟨K3.length,0,none⟩) 0 3) (wnSt x 0):=⟨fun r hr=>by simp[wnSt] at hr,.inr ⟨K3.length,true,rfl,Nat.le_refl _,by simp;omega,pre_get (p9.trans pA) hb8⟩⟩
  refine WC_loop_inv (fun m f K4=>∃ (y:Nat) (sv:Value),m=x.st.length-y∧y≤x.st.length∧f 1=.pointer (some ⟨h.length,0,none⟩)∧f 2=.pointer (some ⟨H1.length,0,none⟩)∧f 5=sl H3.length i∧f 8=sl K2.length i∧f 11=.pointer (some ⟨H9.length,0,none⟩)∧f 12=I64 y∧(K3<+:K4)∧(WayX (181) .i64 3 K4 K3.length [H8.length,H9.length] sv (wnSt x y))∧(OwnB K4 H9.length [I64 x.p,I64 x.n,sv,.slice (some ⟨H8.length,0,none⟩) 0 2] true)∧(K4.get H8.length=some ⟨[],183,false,true⟩)) ?_ (x.st.length-0) _ _ ⟨0,.slice (some ⟨K3.length,0,none⟩) 0 3,rfl,by omega,(by first|rfl|exact f1|(simp[upd_apply];done)),(by first|rfl|exact f2|(simp[upd_apply];done)),(by first|rfl|exact f5|(simp[upd_apply];done)),(by first|rfl|exact f8|(simp[upd_apply];done)),(by first|rfl|simp[upd_apply]),(by first|rfl|simp[upd_apply]),p8A,ws0,⟨_,hbA⟩,pre_get pA hb9⟩
  rintro m f K4 ⟨y,sv,rfl,hy,f1,f2,f5,f8,f11,f12,pp,wb,g9,g8⟩
  have k4:=pre_len pp
  have hbK:=pre_get pp hbK
  have ltK:=get_lt hbK
  have bu4:=bu.pre pp
  have kn4:=kn.pre pp
  have hvK:=hv.pre (p13.trans ((show H3<+:K3 from by assumption).trans pp))
  obtain⟨e9,g9⟩:=g9
  have lt9:=get_lt g9
  have lt8:=get_lt g8
  have wle:=wnSt_le (x:=x) (i:=y)
  by_cases hlt:(y:Int)<x.st.length
  ·have hy:y<x.st.length:=by omega
   obtain⟨n',off',hix',hrn'⟩:=hvK.1.rdw hy
   obtain⟨a,b,d,hq⟩:=all3 (hvK.1.wid hy)
   rw[hq,cel_3] at hrn'
   have s3:=pf.st3 hy hq
   have ea:nSt x y 0=a.toNat:=by unfold nSt nq;rw[hq];rfl
   have eb:nSt x y 1=b.toNat:=by unfold nSt nq;rw[hq];rfl
   have eny:x.n+(y:Int)=((N+y:Nat):Int):=by omega
   have ixu:=Lst.ix (n:=H3.length) (j:=((N+y:Nat):Int)) (len:=i) (by omega)
   rw[Int.toNat_natCast] at ixu
   have ru:=bu4.rd (j:=N+y) (by rw[usl];omega)
   have eu:wnSt x (y+1)=if (uS x x.st.length).getD (N+y) false=true then wnSt x y++[[rk x a.toNat,rk x b.toNat,d]] else wnSt x y:=by
    show (if (uS x x.st.length).getD (x.n.toNat+y) false=true then wnSt x y++[[rk x (nSt x y 0),rk x (nSt x y 1),(x.st.getD y []).getD 2 0]] else wnSt x y)=_
    rw[hNt,ea,eb,hq]
    rfl
   cases hU:(uS x x.st.length).getD (N+y) false with
   | false=>
    rw[hU] at ru eu
    rw[if_neg (by decide)] at eu
    ((try simp (maxSteps:=3000000) (dsimp:=false) (disch:=first|omega|simp only[lnx];omega) only[↓ypre,ypost,↓reduceIte,reduceEqDiff,reduceAdd,reduceSub,reduceLeDiff,zz0,ynew,f1,f2,f5,f8,f11,f12,rd1_of hbK,hvK.1.len,decide_eq_true hlt,hix',hrn',eny,ixu,ru,wrap64_in]);try simp only[yback])
    refine InvQ_go (x.st.length-(y+1)) (by omega) ⟨(y+1),sv,rfl,by omega,(by first|rfl|exact f1|(simp only[upd_apply];rfl)|(show I64 _=_;congr 1;omega)),(by first|rfl|exact f2|(simp only[upd_apply];rfl)|(show I64 _=_;congr 1;omega)),(by first|rfl|exact f5|(simp only[upd_apply];rfl)|(show I64 _=_;congr 1;omega)),(by first|rfl|exact f8|(simp only[upd_apply];rfl)|(show I64 _=_;congr 1;omega)),(by first|rfl|exact f11|(simp only[upd_apply];rfl)|(show I64 _=_;congr 1;omega)),(by first|rfl|exact f12|(simp only[upd_apply];rfl)|(show I64 _=_;congr 1;omega)),(pp.trans (pre_new (List.prefix_refl _))),(by rw[eu];exact wb.pre (pre_new (List.prefix_refl _))),⟨e9,get_new_any g9⟩,(get_new_any g8)⟩
   | true=>
    have cl:=uS_closed hvK pf (Nat.le_refl _) y (by omega) hy (by rw[hNt];exact hU)
    rw[ea,eb] at cl
    rw[hU] at ru eu
    rw[if_pos rfl] at eu
    have ixa:=Lst.ix (n:=K2.length) (j:=a) (len:=i) (by omega)
    have ixb:=Lst.ix (n:=K2.length) (j:=b) (len:=i) (by omega)
    have ra:=kn4.rd (j:=a.toNat) (by omega)
    have rb:=kn4.rd (j:=b.toNat) (by omega)
    rw[nat_ _ (by omega) (kp_of cl.1)] at ra
    rw[nat_ _ (by omega) (kp_of cl.2)] at rb
    ((try simp (maxSteps:=3000000) (dsimp:=false) (disch:=first|omega|simp only[lnx];omega) only[↓ypre,ypost,↓reduceIte,reduceEqDiff,reduceAdd,reduceSub,reduceLeDiff,zz0,ynew,f1,f2,f5,f8,f11,f12,rd1_of hbK,hvK.1.len,decide_eq_true hlt,hix',hrn',eny,ixu,ru,rd1_of g9,ixa,ra,ixb,rb,wrap64_in]);try simp only[yback])
    generalize hHB:AH.new K4 _=HB
    obtain⟨hbB,pB,nB⟩:=new_facts hHB
    refine (wb.pre pB).app (q:=[rk x a.toNat,rk x b.toNat,d]) rfl (by omega) (by omega) (by omega) (by simp;omega) fun sv' H' l' pre' keep' wb'=>?_
    have g9':=keep' _ _ (.inr (by simp)) (pre_get pB g9)
    have g8':=keep' _ _ (.inr (by simp)) (pre_get pB g8)
    have lt9':=get_lt g9'
    ((try simp (maxSteps:=3000000) (dsimp:=false) (disch:=first|omega|simp only[lnx];omega) only[↓ypre,ypost,↓reduceIte,reduceEqDiff,reduceAdd,reduceSub,reduceLeDiff,zz0,ynew,f1,f2,f5,f8,f11,f12,wb'.one,wb'.cells,wr_of g9',wrap64_in]);try simp only[yback])
    refine InvQ_go (x.st.length-(y+1)) (by omega) ⟨(y+1),sv',rfl,by omega,(by first|rfl|exact f1|(simp only[upd_apply];rfl)|(show I64 _=_;congr 1;omega)),(by first|rfl|exact f2|(simp only[upd_apply];rfl)|(show I64 _=_;congr 1;omega)),(by first|rfl|exact f5|(simp only[upd_apply];rfl)|(show I64 _=_;congr 1;omega)),(by first|rfl|exact f8|(simp only[upd_apply];rfl)|(show I64 _=_;congr 1;omega)),(by first|rfl|exact f11|(simp only[upd_apply];rfl)|(show I64 _=_;congr 1;omega)),(by first|rfl|exact f12|(simp only[upd_apply];rfl)|(show I64 _=_;congr 1;omega)),(pre_put (pre' _ (Nat.le_refl _) (pp.trans pB)) (by omega)),(by rw[eu];exact (wb'.put (.inr (by simp))).mlo (by have:=pre_len pB;omega)),⟨e9,get_put_same lt9'⟩,(by rw[get_put_ne (by omega)];exact g8')⟩
  have ey:y=x.st.length:=by omega
  subst ey
  ((try simp (maxSteps:=3000000) (dsimp:=false) (disch:=first|omega|simp only[lnx];omega) only[↓ypre,ypost,↓reduceIte,reduceEqDiff,reduceAdd,reduceSub,reduceLeDiff,zz0,ynew,f1,f2,f5,f8,f11,f12,rd1_of hbK,hvK.1.len,decide_eq_false hlt]);try simp only[yback])
  obtain⟨E,hE,hold⟩:=wb.hold
  have wo0:WayX (183) .i64 2 K4 K3.length (H9.length::E) (.slice (some ⟨H8.length,0,none⟩) 0 2) (wnOut x 0):=⟨fun r hr=>by simp[wnOut] at hr,.inr ⟨H8.length,true,rfl,by omega,fun hm=>by
   rcases List.mem_cons.1 hm with hm|hm
   ·omega
   ·exact (hE _ hm).2.2 (by simp),g8⟩⟩
  refine WC_loop_inv (fun m f K5=>∃ (j:Nat) (so:Value) (lo:Nat),m=x.out.length-j∧j≤x.out.length∧f 1=.pointer (some ⟨h.length,0,none⟩)∧f 2=.pointer (some ⟨H1.length,0,none⟩)∧f 8=sl K2.length i∧f 11=.pointer (some ⟨H9.length,0,none⟩)∧f 14=I64 j∧(K3.length≤lo∧(0<j→K4.length≤lo)∧K4.length≤K5.length∧lo≤K5.length)∧(K3<+:K5)∧(WayX (183) .i64 2 K5 lo (H9.length::E) so (wnOut x j))∧(OwnB K5 H9.length [I64 x.p,I64 x.n,sv,so] true)∧(∀ m b,m∈E→K4.get m=some b→K5.get m=some b)) ?_ (x.out.length-0) _ _ ⟨0,.slice (some ⟨H8.length,0,none⟩) 0 2,K3.length,rfl,by omega,(by first|rfl|exact f1|(simp[upd_apply];done)),(by first|rfl|exact f2|(simp[upd_apply];done)),(by first|rfl|exact f8|(simp[upd_apply];done)),(by first|rfl|exact f11|(simp[upd_apply];done)),(by first|rfl|simp[upd_apply]),⟨Nat.le_refl _,by omega,Nat.le_refl _,by omega⟩,pp,wo0,⟨_,g9⟩,fun m b _ q=>q⟩
  rintro m f K5 ⟨j,so,lo,rfl,hj,f1,f2,f8,f11,f14,ll,pp,wo,g9,hk⟩
  have k5:=pre_len pp
  have hbK:=pre_get pp (show K3.get h.length=_ from by assumption)
  have ltK:=get_lt hbK
  have kn5:=(show Lst K3 K2.length NM true from by assumption).pre pp
  have hvK:=hv.pre (p13.trans ((show H3<+:K3 from by assumption).trans pp))
  obtain⟨e9,g9⟩:=g9
  have lt9:=get_lt g9
  have wle:=wnOut_len (x:=x) (i:=j)
  by_cases hlt:(j:Int)<x.out.length
  ·have hj:j<x.out.length:=by omega
   obtain⟨n',off',hix',hrn'⟩:=hvK.2.rdw hj
   obtain⟨a,b,hq⟩:=all2 (hvK.2.wid hj)
   rw[hq,cel_2] at hrn'
   have s2:=pf.out2 hj hq
   have en:nOut x j=a.toNat:=by unfold nOut nq;rw[hq];rfl
   have e1:(x.out.getD j []).getD 1 0=b:=by rw[hq];rfl
   have eu:wnOut x (j+1)=wnOut x j++[[rk x a.toNat,b]]:=by
    show wnOut x j++[[rk x (nOut x j),(x.out.getD j []).getD 1 0]]=_
    rw[en,e1]
   by_cases hb0:b=0
   ·subst hb0
    have ha:a=0:=by omega
    subst ha
    rw[show rk x (0:Int).toNat=0 from rfl] at eu
    ((try simp (maxSteps:=3000000) (dsimp:=false) (disch:=first|omega|simp only[lnx];omega) only[↓ypre,ypost,↓reduceIte,reduceEqDiff,reduceAdd,reduceSub,reduceLeDiff,zz0,ynew,f1,f2,f8,f11,f14,rd1_of hbK,hvK.2.len,decide_eq_true hlt,hix',hrn',rd1_of g9,decide_eq_false (show ¬ (0:Int)≠0 from fun y=>y rfl),wrap64_in]);try simp only[yback])
    generalize hHB:AH.new K5 _=HB
    obtain⟨hbB,pB,nB⟩:=new_facts hHB
    have kB:=pre_len pB
    refine (wo.pre pB).app (q:=[0,0]) rfl (by omega) (by omega) (by omega) (fun r hr=>by
     rcases List.mem_cons.1 hr with hr|hr
     ·omega
     ·have:=(hE _ hr).2.1
      omega) fun so' H' l' pre' keep' wo'=>?_
    have g9':=keep' _ _ (.inr (by simp)) (pre_get pB g9)
    have lt9':=get_lt g9'
    have hk9:∀ m' b',m'∈E→K4.get m'=some b'→(H'.put H9.length ⟨[I64 x.p,I64 x.n,sv,so'],e9,false,true⟩).get m'=some b':=fun m' b' hr hc=>by
     rw[get_put_ne (fun q=>(hE _ hr).2.2 (by rw[←q];simp))]
     exact keep' _ _ (.inr (List.mem_cons_of_mem _ hr)) (pre_get pB (hk _ _ hr hc))
    ((try simp (maxSteps:=3000000) (dsimp:=false) (disch:=first|omega|simp only[lnx];omega) only[↓ypre,ypost,↓reduceIte,reduceEqDiff,reduceAdd,reduceSub,reduceLeDiff,zz0,ynew,f1,f2,f8,f11,f14,wo'.one,wo'.cells,wr_of g9',wrap64_in]);try simp only[yback])
    refine InvQ_go (x.out.length-(j+1)) (by omega) ⟨(j+1),so',HB.length,rfl,by omega,(by first|rfl|exact f1|(simp only[upd_apply];rfl)|(show I64 _=_;congr 1;omega)),(by first|rfl|exact f2|(simp only[upd_apply];rfl)|(show I64 _=_;congr 1;omega)),(by first|rfl|exact f8|(simp only[upd_apply];rfl)|(show I64 _=_;congr 1;omega)),(by first|rfl|exact f11|(simp only[upd_apply];rfl)|(show I64 _=_;congr 1;omega)),(by first|rfl|exact f14|(simp only[upd_apply];rfl)|(show I64 _=_;congr 1;omega)),⟨by omega,by omega,by rw[len_put];omega,by rw[len_put];omega⟩,(pre_put (pre' _ ll.1 (pp.trans pB)) (by omega)),(by rw[eu];exact wo'.put (.inr (by simp))),⟨e9,get_put_same lt9'⟩,hk9⟩
   ·have hu:=uS_out hvK pf hj (by rw[e1];exact hb0)
    rw[en] at hu
    have ixa:=Lst.ix (n:=K2.length) (j:=a) (len:=i) (by omega)
    have ra:=kn5.rd (j:=a.toNat) (by omega)
    rw[nat_ _ (by omega) (kp_of hu)] at ra
    ((try simp (maxSteps:=3000000) (dsimp:=false) (disch:=first|omega|simp only[lnx];omega) only[↓ypre,ypost,↓reduceIte,reduceEqDiff,reduceAdd,reduceSub,reduceLeDiff,zz0,ynew,f1,f2,f8,f11,f14,rd1_of hbK,hvK.2.len,decide_eq_true hlt,hix',hrn',decide_eq_true (show b≠0 from hb0),ixa,ra,rd1_of g9,wrap64_in]);try simp only[yback])
    generalize hHB:AH.new K5 _=HB
    obtain⟨hbB,pB,nB⟩:=new_facts hHB
    have kB:=pre_len pB
    refine (wo.pre pB).app (q:=[rk x a.toNat,b]) rfl (by omega) (by omega) (by omega) (fun r hr=>by
     rcases List.mem_cons.1 hr with hr|hr
     ·omega
     ·have:=(hE _ hr).2.1
      omega) fun so' H' l' pre' keep' wo'=>?_
    have g9':=keep' _ _ (.inr (by simp)) (pre_get pB g9)
    have lt9':=get_lt g9'
    have hk9:∀ m' b',m'∈E→K4.get m'=some b'→(H'.put H9.length ⟨[I64 x.p,I64 x.n,sv,so'],e9,false,true⟩).get m'=some b':=fun m' b' hr hc=>by
     rw[get_put_ne (fun q=>(hE _ hr).2.2 (by rw[←q];simp))]
     exact keep' _ _ (.inr (List.mem_cons_of_mem _ hr)) (pre_get pB (hk _ _ hr hc))
    ((try simp (maxSteps:=3000000) (dsimp:=false) (disch:=first|omega|simp only[lnx];omega) only[↓ypre,ypost,↓reduceIte,reduceEqDiff,reduceAdd,reduceSub,reduceLeDiff,zz0,ynew,f1,f2,f8,f11,f14,wo'.one,wo'.cells,wr_of g9',wrap64_in]);try simp only[yback])
    refine InvQ_go (x.out.length-(j+1)) (by omega) ⟨(j+1),so',HB.length,rfl,by omega,(by first|rfl|exact f1|(simp only[upd_apply];rfl)|(show I64 _=_;congr 1;omega)),(by first|rfl|exact f2|(simp only[upd_apply];rfl)|(show I64 _=_;congr 1;omega)),(by first|rfl|exact f8|(simp only[upd_apply];rfl)|(show I64 _=_;congr 1;omega)),(by first|rfl|exact f11|(simp only[upd_apply];rfl)|(show I64 _=_;congr 1;omega)),(by first|rfl|exact f14|(simp only[upd_apply];rfl)|(show I64 _=_;congr 1;omega)),⟨by omega,by omega,by rw[len_put];omega,by rw[len_put];omega⟩,(pre_put (pre' _ ll.1 (pp.trans pB)) (by omega)),(by rw[eu];exact wo'.put (.inr (by simp))),⟨e9,get_put_same lt9'⟩,hk9⟩
  have ej:j=x.out.length:=by omega
  subst ej
  have hb2K:=pre_get pp (show K3.get H1.length=_ from by assumption)
  ((try simp (maxSteps:=3000000) (dsimp:=false) (disch:=first|omega|simp only[lnx];omega) only[↓ypre,ypost,↓reduceIte,reduceEqDiff,reduceAdd,reduceSub,reduceLeDiff,zz0,ynew,f1,f2,f8,f11,f14,rd1_of hbK,hvK.2.len,decide_eq_false hlt,rdn_of g9,wr_of hb2K]);try simp only[yback])
  obtain⟨ws,is⟩:=hold _ hk
  ((try simp (maxSteps:=3000000) (dsimp:=false) (disch:=first|omega|simp only[lnx];omega) only[↓ypre,ypost,↓reduceIte,reduceEqDiff,reduceAdd,reduceSub,reduceLeDiff,zz0,ynew,f1,f2,f8,f11,f14,ws.one,ws.cells,wo.one,wo.cells]);try simp only[yback])
  have lb2:=get_lt hb2K
  have k5:=pre_len pp
  have l13':=pre_len p13
  have k4:=pre_len (show K3<+:K4 from by assumption)
  have hlo:=ll.2.1 (by omega)
  exact hQ sv so _ (pre_put (p13.trans ((show H3<+:K3 from by assumption).trans pp)) (by omega)) ⟨K4.length,by omega,by rw[len_put];omega,(is.putb (by omega)).mono (by omega) (Nat.le_refl _),(wo.put (.inl (by omega))).inE.mono hlo (Nat.le_refl _)⟩
end Go.Proofs.Ytapafdpnmakekaa.X
