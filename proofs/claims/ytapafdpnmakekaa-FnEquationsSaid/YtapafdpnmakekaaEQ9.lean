/- Texts of one claim, put together by merge.py: XQ4, XN1, XD1, XD2, XD3, XS17, XS19, XD4, XD5, XD6, XD7, XD8, XQ2, XF34, XF35, XR2, XF11, XF12, XF13, XF14, XF15, XQ3, XD9, XDA, XDB, XDC, XDF, XDG. -/
import Derived.Test.YtapafdpnmakekaaEQ8
import Derived.Test.YtapafdpnmakekaaEQ7
set_option linter.unusedVariables false
set_option linter.unusedSimpArgs false
set_option maxRecDepth 20000
set_option maxHeartbeats 4000000
namespace Go.Proofs.Ytapafdpnmakekaa.X
theorem dot_sm {q ns:List Int}:∀ {k:Nat},dot q ns k=sm k fun i=>q.getD i 0*ns.getD i 0
 | 0=>rfl
 | k+1=>by rw[dot,sm,dot_sm]
theorem Cg.tmod (x p:Int):Cg p (x.tmod p) x:=(show Cg p x (x.tmod p) from tmod_dvd x p).symm
theorem seg_at {q:List Int} {i j:Nat} (hj:j<9):(seg q i).getD j 0=q.getD (i*9+j) 0:=by
 unfold seg
 rw[cut_get hj]
def Sx (ps:List (List Int)) (T:Nat) (a b c:Nat):Int:=sm T fun t=>tm (ps.getD t []) a b c
theorem stM_cg {p:Int} {l r:List Int} {ps:List (List Int)} {j:Nat} (hl:l.length≤9) (hr:r.length≤9):∀ T,Cg p (stM p l r ps T j) (sm l.length fun a=>sm r.length fun b=>l.getD a 0*r.getD b 0*Sx ps T a b j)
 | 0=>by
  show Cg p 0 _
  rw[sm_zero' fun a _=>sm_zero' fun b _=>by show _*(0:Int)=0;rw[Int.mul_zero]]
  exact .rfl'
 | T+1=>by
  have ih:=stM_cg (p:=p) (l:=l) (r:=r) (ps:=ps) (j:=j) hl hr T
  refine (Cg.tmod _ _).trans ?_
  have hv:Cg p (valI p l r (ps.getD T [])) ((sm l.length fun a=>(ps.getD T []).getD a 0*l.getD a 0)*sm r.length fun b=>(ps.getD T []).getD (9+b) 0*r.getD b 0):=by
   unfold valI
   rw[dot_sm,dot_sm]
   have e1:(sm l.length fun i=>(seg (ps.getD T []) 0).getD i 0*l.getD i 0)=sm l.length fun a=>(ps.getD T []).getD a 0*l.getD a 0:=sm_ext fun i hi=>by
    rw[seg_at (by omega),Nat.zero_mul,Nat.zero_add]
   have e2:(sm r.length fun i=>(seg (ps.getD T []) 1).getD i 0*r.getD i 0)=sm r.length fun b=>(ps.getD T []).getD (9+b) 0*r.getD b 0:=sm_ext fun i hi=>by
    rw[seg_at (by omega),Nat.one_mul]
   rw[e1,e2]
   exact (Cg.tmod _ _).mul (Cg.tmod _ _)
  refine (ih.add (Cg.rfl'.mul hv)).trans (.of ?_)
  have e3:(ps.getD T []).getD (18+j) 0*((sm l.length fun a=>(ps.getD T []).getD a 0*l.getD a 0)*sm r.length fun b=>(ps.getD T []).getD (9+b) 0*r.getD b 0)=sm l.length fun a=>sm r.length fun b=>l.getD a 0*r.getD b 0*tm (ps.getD T []) a b j:=by
   rw[←sm_mulr,←sm_mul]
   refine sm_ext fun a _=>?_
   rw[←sm_mul,←sm_mul]
   refine sm_ext fun b _=>?_
   unfold tm
   grind
  rw[e3,←sm_add]
  refine sm_ext fun a _=>?_
  rw[←sm_add]
  refine sm_ext fun b _=>?_
  show _=_*(Sx ps T a b j+tm (ps.getD T []) a b j)
  rw[Int.mul_add]
def ppG (p:Int) (l r:List Int) (m k c:Nat):Int:=(sm m fun j=>l.getD (c / k*m+j) 0*r.getD (j*k+c%k) 0).tmod p
def wn (m k a b c:Nat):Int:=if a%m=b / k∧a / m=c / k∧b%k=c%k then 1 else 0
theorem correct_sum {p:Int} {n m k:Nat} {l r:List Int} {S:Nat→Nat→Nat→Int} {c:Nat} (hc:c<n*k) (hS:∀ a b,a<n*m→b<m*k→Cg p (S a b c) (wn m k a b c)) :
  Cg p (sm (n*m) fun a=>sm (m*k) fun b=>l.getD a 0*r.getD b 0*S a b c) (sm m fun j=>l.getD (c / k*m+j) 0*r.getD (j*k+c%k) 0):=by
 obtain⟨c1,c2,ec⟩:=dm_of hc
 have h1:Cg p (sm (n*m) fun a=>sm (m*k) fun b=>l.getD a 0*r.getD b 0*S a b c) (sm (n*m) fun a=>sm (m*k) fun b=>l.getD a 0*r.getD b 0*wn m k a b c):=
  Cg.sm fun a ha=>Cg.sm fun b hb=>Cg.rfl'.mul (hS a b ha hb)
 refine h1.trans (.of ?_)
 rw[sm_rows]
 have h2:(sm n fun i=>sm m fun j=>sm (m*k) fun b=>l.getD (i*m+j) 0*r.getD b 0*wn m k (i*m+j) b c)=sm n fun i=>if i=c / k then sm m (fun j=>l.getD (i*m+j) 0*r.getD (j*k+c%k) 0) else 0:=by
  refine sm_ext fun i hi=>?_
  by_cases e:i=c / k
  ·rw[if_pos e]
   refine sm_ext fun j hj=>?_
   rw[sm_rows]
   have h3:(sm m fun j'=>sm k fun l'=>l.getD (i*m+j) 0*r.getD (j'*k+l') 0*wn m k (i*m+j) (j'*k+l') c)=sm m fun j'=>if j'=j then l.getD (i*m+j) 0*r.getD (j'*k+c%k) 0 else 0:=by
    refine sm_ext fun j' hj'=>?_
    by_cases e2:j'=j
    ·rw[if_pos e2]
     have h4:(sm k fun l'=>l.getD (i*m+j) 0*r.getD (j'*k+l') 0*wn m k (i*m+j) (j'*k+l') c)=sm k fun l'=>if l'=c%k then l.getD (i*m+j) 0*r.getD (j'*k+l') 0 else 0:=by
      refine sm_ext fun l' hl'=>?_
      unfold wn
      rw[(dm hj).1,(dm hj).2,(dm hl').1,(dm hl').2]
      by_cases e3:l'=c%k
      ·rw[if_pos ⟨e2.symm,e,e3⟩,if_pos e3,Int.mul_one]
      ·rw[if_neg (fun h=>e3 h.2.2),if_neg e3,Int.mul_zero]
     rw[h4,sm_delta c2]
    ·rw[if_neg e2]
     refine sm_zero' fun l' hl'=>?_
     unfold wn
     rw[(dm hj).1,(dm hj).2,(dm hl').1,(dm hl').2,if_neg (fun h=>e2 h.1.symm),Int.mul_zero]
   rw[h3,sm_delta hj]
  ·rw[if_neg e]
   refine sm_zero' fun j hj=>sm_zero' fun b hb=>?_
   unfold wn
   rw[(dm hj).1,(dm hj).2,if_neg (fun h=>e h.2.1),Int.mul_zero]
 rw[h2,sm_delta c1]
section
variable {x y:Sch} {L R:List (List Int)} {n m k:Nat}
theorem mp_plain (hp:2≤x.p∧x.p≤5) (wx:Wid 27 x.ps) (bx:Byt 27 x.ps) (mf:MF x L R n m k)
  (hS:∀ a b c,a<n*m→b<m*k→c<n*k→Cg x.p (Sx x.ps x.ps.length a b c) (wn m k a b c)):mpF x L R=parts (gen (n*k) (ppG x.p L.flatten R.flatten m k)) k n:=by
 have bb:=mf.b
 have nk:=mf.nk
 unfold mpF
 rw[mf.en,mf.ek,←Int.natCast_mul,Int.toNat_natCast,Int.toNat_natCast,Int.toNat_natCast]
 congr 1
 refine gen_congr fun c hc=>?_
 have fl:=flat_len mf.wL
 have fr:=flat_len mf.wR
 rw[mf.lL] at fl
 rw[mf.lR] at fr
 have h1:=stM_cg (p:=x.p) (l:=L.flatten) (r:=R.flatten) (ps:=x.ps) (j:=c) mf.fL mf.fR x.ps.length
 rw[fl,fr] at h1
 have h3:=correct_sum (l:=L.flatten) (r:=R.flatten) hc (fun a b ha hb=>hS a b c ha hb hc)
 have i1:=stM_in hp bx wx mf.fL mf.fR mf.aL mf.aR (t:=x.ps.length) (Nat.le_refl _) c (by omega)
 have nn:0≤sm m fun j=>L.flatten.getD (c / k*m+j) 0*R.flatten.getD (j*k+c%k) 0:=by
  have:∀ m',0≤sm m' fun j=>L.flatten.getD (c / k*m+j) 0*R.flatten.getD (j*k+c%k) 0:=fun m'=>by
   induction m' with
   | zero=>exact Int.le_refl _
   | succ m' ih=>
    have g:∀ {ns:List Int} (j:Nat),allIn x.p ns=true→0≤ns.getD j 0:=fun {ns} j h=>by
     by_cases hj:j<ns.length
     ·exact (allIn_iff.1 h j hj).1
     ·rw[List.getD_eq_getElem?_getD,List.getElem?_eq_none (by omega)]
      exact Int.le_refl _
    have:=Int.mul_nonneg (g (c / k*m+m') mf.aL) (g (m'*k+c%k) mf.aR)
    simp only[sm]
    omega
  exact this m
 exact dvd_eq ((h1.trans h3).trans (Cg.tmod _ _).symm) i1 ⟨Int.tmod_nonneg _ nn,Int.tmod_lt_of_pos _ (by omega)⟩
end
end Go.Proofs.Ytapafdpnmakekaa.X

set_option linter.unusedVariables false
set_option linter.unusedSimpArgs false
set_option maxRecDepth 20000
set_option maxHeartbeats 4000000
namespace Go.Proofs.Ytapafdpnmakekaa.X
open Go Go.RowKit
open Nat (reduceEqDiff reduceAdd reduceSub reduceLeDiff)
def wnX (x:Sch) (a b c:Nat):Int:=wn x.m.toNat x.k.toNat a b c
theorem nt_mod (a b:Nat):(a:Int).tmod (b:Int)=((a%b:Nat):Int):=(Int.ofNat_tmod a b).symm
theorem nt_div (a b:Nat):(a:Int).tdiv (b:Int)=((a / b:Nat):Int):=(Int.ofNat_tdiv a b).symm
theorem s_l01Want {v:Value} {x:Sch} {a b c:Nat} {h:AH} {Q:Value→AH→Prop} (hv:isOne v=true) (z:SZ x) (ha:a<9) (hb:b<9) (hc:c<9)
  (hQ:∀ h',h<+:h'→Q (I64 (wnX x a b c)) h'):WF S 223 [schV x v,I64 a,I64 b,I64 c] h Q:=by
 refine WF_fn (fn:=c223) rfl rfl ?_
 dsimp only[c223,oO,oM,oS,oG,oK,oE,oL,oF,oX,oN]
 have zm:=z.m
 have zk:=z.k
 obtain⟨M,hM⟩:∃ M:Nat,x.m=M:=⟨x.m.toNat,by omega⟩
 obtain⟨K,hK⟩:∃ K:Nat,x.k=K:=⟨x.k.toNat,by omega⟩
 ((try simp (maxSteps:=3000000) (dsimp:=false) (disch:=first|omega|simp only[lnx];omega) only[↓ypre,ypost,↓reduceIte,reduceEqDiff,reduceAdd,reduceSub,reduceLeDiff,zz0,ynew,schV,hv]);try simp only[yback])
 generalize hH1:AH.new h _=H1
 obtain⟨hb1,p1,n1⟩:=new_facts hH1
 have e:wnX x a b c=wn M K a b c:=by unfold wnX;rw[hM,hK];rfl
 rw[e] at hQ
 rw[hM,hK] at hb1
 have d1:a / M≤9:=by have:=Nat.div_le_self a M;omega
 have d2:b / K≤9:=by have:=Nat.div_le_self b K;omega
 have d3:c / K≤9:=by have:=Nat.div_le_self c K;omega
 have wq:∀ n:Nat,n≤9→IntKind.i64.wrap (n:Int)=n:=fun n hn=>by rw[wrap64_in]<;>omega
 have w1:=wq _ d1
 have w2:=wq _ d2
 have w3:=wq _ d3
 have M0:(M:Int)≠0:=by omega
 have K0:(K:Int)≠0:=by omega
 have hQ1:a%M=b / K∧a / M=c / K∧b%K=c%K→Q (I64 1) H1:=fun hh=>by
  have:=hQ _ p1
  unfold wn at this
  rw[if_pos hh] at this
  exact this
 have hQ0:¬ (a%M=b / K∧a / M=c / K∧b%K=c%K)→Q (I64 0) H1:=fun hh=>by
  have:=hQ _ p1
  unfold wn at this
  rw[if_neg hh] at this
  exact this
 by_cases h1:a%M=b / K
 ·by_cases h2:a / M=c / K
  ·by_cases h3:b%K=c%K
   ·((try simp (maxSteps:=3000000) (dsimp:=false) (disch:=first|omega|simp only[lnx];omega) only[↓ypre,ypost,↓reduceIte,reduceEqDiff,reduceAdd,reduceSub,reduceLeDiff,zz0,ynew,hM,hK,rd1_of hb1,bin_rem M0,bin_rem K0,bin_quo K0,bin_quo M0,nt_mod,nt_div,w1,w2,w3,decide_eq_true (show ((a%M:Nat):Int)=((b / K:Nat):Int) from by exact_mod_cast h1),decide_eq_true (show ((a / M:Nat):Int)=((c / K:Nat):Int) from by exact_mod_cast h2),decide_eq_true (show ((b%K:Nat):Int)=((c%K:Nat):Int) from by exact_mod_cast h3)]);try simp only[yback])
    exact hQ1 ⟨h1,h2,h3⟩
   ·((try simp (maxSteps:=3000000) (dsimp:=false) (disch:=first|omega|simp only[lnx];omega) only[↓ypre,ypost,↓reduceIte,reduceEqDiff,reduceAdd,reduceSub,reduceLeDiff,zz0,ynew,hM,hK,rd1_of hb1,bin_rem M0,bin_rem K0,bin_quo K0,bin_quo M0,nt_mod,nt_div,w1,w2,w3,decide_eq_true (show ((a%M:Nat):Int)=((b / K:Nat):Int) from by exact_mod_cast h1),decide_eq_true (show ((a / M:Nat):Int)=((c / K:Nat):Int) from by exact_mod_cast h2),decide_eq_false (show ¬ ((b%K:Nat):Int)=((c%K:Nat):Int) from by exact_mod_cast h3)]);try simp only[yback])
    exact hQ0 fun hh=>h3 hh.2.2
  ·((try simp (maxSteps:=3000000) (dsimp:=false) (disch:=first|omega|simp only[lnx];omega) only[↓ypre,ypost,↓reduceIte,reduceEqDiff,reduceAdd,reduceSub,reduceLeDiff,zz0,ynew,hM,hK,rd1_of hb1,bin_rem M0,bin_rem K0,bin_quo K0,bin_quo M0,nt_mod,nt_div,w1,w2,w3,decide_eq_true (show ((a%M:Nat):Int)=((b / K:Nat):Int) from by exact_mod_cast h1),decide_eq_false (show ¬ ((a / M:Nat):Int)=((c / K:Nat):Int) from by exact_mod_cast h2)]);try simp only[yback])
   exact hQ0 fun hh=>h2 hh.2.1
 ·((try simp (maxSteps:=3000000) (dsimp:=false) (disch:=first|omega|simp only[lnx];omega) only[↓ypre,ypost,↓reduceIte,reduceEqDiff,reduceAdd,reduceSub,reduceLeDiff,zz0,ynew,hM,hK,rd1_of hb1,bin_rem M0,bin_rem K0,bin_quo K0,bin_quo M0,nt_mod,nt_div,w1,w2,w3,decide_eq_false (show ¬ ((a%M:Nat):Int)=((b / K:Nat):Int) from by exact_mod_cast h1)]);try simp only[yback])
  exact hQ0 fun hh=>h1 hh.1
theorem i_rightSide {v:Value} {x:Sch} {a b c:Nat} {h:AH} {Q:Value→AH→Prop} (hv:isOne v=true) (z:SZ x) (ha:a<9) (hb:b<9) (hc:c<9)
  (hQ:∀ h',h<+:h'→Q (I64 (wnX x a b c)) h'):WF S 219 [schV x v,I64 a,I64 b,I64 c] h Q:=by
 refine WF_fn (fn:=c219) rfl rfl ?_
 dsimp only[c219,oO,oM,oS,oG,oK,oE,oL,oF,oX,oN]
 have zm:=z.m
 have zk:=z.k
 obtain⟨M,hM⟩:∃ M:Nat,x.m=M:=⟨x.m.toNat,by omega⟩
 obtain⟨K,hK⟩:∃ K:Nat,x.k=K:=⟨x.k.toNat,by omega⟩
 ((try simp (maxSteps:=3000000) (dsimp:=false) (disch:=first|omega|simp only[lnx];omega) only[↓ypre,ypost,↓reduceIte,reduceEqDiff,reduceAdd,reduceSub,reduceLeDiff,zz0,ynew,schV,hv]);try simp only[yback])
 generalize hH1:AH.new h _=H1
 obtain⟨hb1,p1,n1⟩:=new_facts hH1
 have e:wnX x a b c=wn M K a b c:=by unfold wnX;rw[hM,hK];rfl
 rw[e] at hQ
 rw[hM,hK] at hb1
 have d1:a / M≤9:=by have:=Nat.div_le_self a M;omega
 have d2:b / K≤9:=by have:=Nat.div_le_self b K;omega
 have d3:c / K≤9:=by have:=Nat.div_le_self c K;omega
 have wq:∀ n:Nat,n≤9→IntKind.i64.wrap (n:Int)=n:=fun n hn=>by rw[wrap64_in]<;>omega
 have w1:=wq _ d1
 have w2:=wq _ d2
 have w3:=wq _ d3
 have M0:(M:Int)≠0:=by omega
 have K0:(K:Int)≠0:=by omega
 have hQ1:a%M=b / K∧a / M=c / K∧b%K=c%K→Q (I64 1) H1:=fun hh=>by
  have:=hQ _ p1
  unfold wn at this
  rw[if_pos hh] at this
  exact this
 have hQ0:¬ (a%M=b / K∧a / M=c / K∧b%K=c%K)→Q (I64 0) H1:=fun hh=>by
  have:=hQ _ p1
  unfold wn at this
  rw[if_neg hh] at this
  exact this
 by_cases h1:a%M=b / K
 ·by_cases h2:a / M=c / K
  ·by_cases h3:b%K=c%K
   ·((try simp (maxSteps:=3000000) (dsimp:=false) (disch:=first|omega|simp only[lnx];omega) only[↓ypre,ypost,↓reduceIte,reduceEqDiff,reduceAdd,reduceSub,reduceLeDiff,zz0,ynew,hM,hK,rd1_of hb1,bin_rem M0,bin_rem K0,bin_quo K0,bin_quo M0,nt_mod,nt_div,w1,w2,w3,decide_eq_true (show ((a%M:Nat):Int)=((b / K:Nat):Int) from by exact_mod_cast h1),decide_eq_true (show ((a / M:Nat):Int)=((c / K:Nat):Int) from by exact_mod_cast h2),decide_eq_true (show ((b%K:Nat):Int)=((c%K:Nat):Int) from by exact_mod_cast h3)]);try simp only[yback])
    exact hQ1 ⟨h1,h2,h3⟩
   ·((try simp (maxSteps:=3000000) (dsimp:=false) (disch:=first|omega|simp only[lnx];omega) only[↓ypre,ypost,↓reduceIte,reduceEqDiff,reduceAdd,reduceSub,reduceLeDiff,zz0,ynew,hM,hK,rd1_of hb1,bin_rem M0,bin_rem K0,bin_quo K0,bin_quo M0,nt_mod,nt_div,w1,w2,w3,decide_eq_true (show ((a%M:Nat):Int)=((b / K:Nat):Int) from by exact_mod_cast h1),decide_eq_true (show ((a / M:Nat):Int)=((c / K:Nat):Int) from by exact_mod_cast h2),decide_eq_false (show ¬ ((b%K:Nat):Int)=((c%K:Nat):Int) from by exact_mod_cast h3)]);try simp only[yback])
    exact hQ0 fun hh=>h3 hh.2.2
  ·((try simp (maxSteps:=3000000) (dsimp:=false) (disch:=first|omega|simp only[lnx];omega) only[↓ypre,ypost,↓reduceIte,reduceEqDiff,reduceAdd,reduceSub,reduceLeDiff,zz0,ynew,hM,hK,rd1_of hb1,bin_rem M0,bin_rem K0,bin_quo K0,bin_quo M0,nt_mod,nt_div,w1,w2,w3,decide_eq_true (show ((a%M:Nat):Int)=((b / K:Nat):Int) from by exact_mod_cast h1),decide_eq_false (show ¬ ((a / M:Nat):Int)=((c / K:Nat):Int) from by exact_mod_cast h2)]);try simp only[yback])
   exact hQ0 fun hh=>h2 hh.2.1
 ·((try simp (maxSteps:=3000000) (dsimp:=false) (disch:=first|omega|simp only[lnx];omega) only[↓ypre,ypost,↓reduceIte,reduceEqDiff,reduceAdd,reduceSub,reduceLeDiff,zz0,ynew,hM,hK,rd1_of hb1,bin_rem M0,bin_rem K0,bin_quo K0,bin_quo M0,nt_mod,nt_div,w1,w2,w3,decide_eq_false (show ¬ ((a%M:Nat):Int)=((b / K:Nat):Int) from by exact_mod_cast h1)]);try simp only[yback])
  exact hQ0 fun hh=>h1 hh.1
def plC (x:Sch) (a b c:Int):Int:=if isX x=true then (if (0≤a∧a<x.n*x.m)∧(0≤b∧b<x.m*x.k)∧(0≤c∧c<x.n*x.k) then 0 else 2) else 1
theorem plC_0 {x:Sch} {a b c:Int} (h:plC x a b c=0):isX x=true∧(0≤a∧a<x.n*x.m)∧(0≤b∧b<x.m*x.k)∧(0≤c∧c<x.n*x.k):=by
 unfold plC at h
 split at h
 ·rename_i h1
  split at h
  ·rename_i h2
   exact⟨h1,h2⟩
  ·omega
 ·omega
theorem s_l01Places {v:Value} {x:Sch} {a b c:Int} {h:AH} {Q:Value→AH→Prop} (hv:Prods h v x.ps) (hl:SmallX x.ps)
  (hQ:∀ h',h<+:h'→Q (I64 (plC x a b c)) h'):WF S 221 [schV x v,I64 a,I64 b,I64 c] h Q:=by
 refine WF_fn (fn:=c221) rfl rfl ?_
 dsimp only[c221,oO,oM,oS,oG,oK,oE,oL,oF,oX,oN]
 have o1:=hv.one
 ((try simp (maxSteps:=3000000) (dsimp:=false) (disch:=first|omega|simp only[lnx];omega) only[↓ypre,ypost,↓reduceIte,reduceEqDiff,reduceAdd,reduceSub,reduceLeDiff,zz0,ynew,schV,o1]);try simp only[yback])
 generalize hH1:AH.new h _=H1
 obtain⟨hb1,p1,n1⟩:=new_facts hH1
 ((try simp (maxSteps:=3000000) (dsimp:=false) (disch:=first|omega|simp only[lnx];omega) only[↓ypre,ypost,↓reduceIte,reduceEqDiff,reduceAdd,reduceSub,reduceLeDiff,zz0,ynew,rdn_of hb1]);try simp only[yback])
 refine s_l01Is (x:=x) (hv.pre p1) hl fun H2 p2=>?_
 have g2:=pre_get p2 hb1
 by_cases hx:isX x=true
 case neg=>
  ((try simp (maxSteps:=3000000) (dsimp:=false) (disch:=first|omega|simp only[lnx];omega) only[↓ypre,ypost,↓reduceIte,reduceEqDiff,reduceAdd,reduceSub,reduceLeDiff,zz0,ynew,hx]);try simp only[yback])
  have e:plC x a b c=1:=if_neg hx
  rw[e] at hQ
  exact hQ _ (p1.trans p2)
 have z:=(isX_facts hx).1
 have zn:=z.nm
 have zm:=z.mk2
 have zk:=z.nk
 ((try simp (maxSteps:=3000000) (dsimp:=false) (disch:=first|omega|simp only[lnx];omega) only[↓ypre,ypost,↓reduceIte,reduceEqDiff,reduceAdd,reduceSub,reduceLeDiff,zz0,ynew,hx,rdn_of g2]);try simp only[yback])
 refine s_l01Lengths (x:=x) o1 z fun H3 p3=>?_
 have pp:=p1.trans (p2.trans p3)
 have e:plC x a b c=if (0≤a∧a<x.n*x.m)∧(0≤b∧b<x.m*x.k)∧(0≤c∧c<x.n*x.k) then 0 else 2:=if_pos hx
 rw[e] at hQ
 have no:¬ ((0≤a∧a<x.n*x.m)∧(0≤b∧b<x.m*x.k)∧(0≤c∧c<x.n*x.k))→Q (I64 2) H3:=fun hh=>by
  have:=hQ _ pp
  rw[if_neg hh] at this
  exact this
 ((try simp (maxSteps:=3000000) (dsimp:=false) (disch:=first|omega|simp only[lnx];omega) only[↓ypre,ypost,↓reduceIte,reduceEqDiff,reduceAdd,reduceSub,reduceLeDiff,zz0,ynew,wrap64_in]);try simp only[yback])
 refine s_l01In ?_
 by_cases h1:0≤a∧a≤x.n*x.m-1
 case neg=>
  ((try simp (maxSteps:=3000000) (dsimp:=false) (disch:=first|omega|simp only[lnx];omega) only[↓ypre,ypost,↓reduceIte,reduceEqDiff,reduceAdd,reduceSub,reduceLeDiff,zz0,ynew,decide_eq_false h1]);try simp only[yback])
  exact no (fun hh=>h1 (by omega))
 ((try simp (maxSteps:=3000000) (dsimp:=false) (disch:=first|omega|simp only[lnx];omega) only[↓ypre,ypost,↓reduceIte,reduceEqDiff,reduceAdd,reduceSub,reduceLeDiff,zz0,ynew,decide_eq_true h1,wrap64_in]);try simp only[yback])
 refine s_l01In ?_
 by_cases h2:0≤b∧b≤x.m*x.k-1
 case neg=>
  ((try simp (maxSteps:=3000000) (dsimp:=false) (disch:=first|omega|simp only[lnx];omega) only[↓ypre,ypost,↓reduceIte,reduceEqDiff,reduceAdd,reduceSub,reduceLeDiff,zz0,ynew,decide_eq_false h2]);try simp only[yback])
  exact no (fun hh=>h2 (by omega))
 ((try simp (maxSteps:=3000000) (dsimp:=false) (disch:=first|omega|simp only[lnx];omega) only[↓ypre,ypost,↓reduceIte,reduceEqDiff,reduceAdd,reduceSub,reduceLeDiff,zz0,ynew,decide_eq_true h2,wrap64_in]);try simp only[yback])
 refine s_l01In ?_
 by_cases h3:0≤c∧c≤x.n*x.k-1
 case neg=>
  ((try simp (maxSteps:=3000000) (dsimp:=false) (disch:=first|omega|simp only[lnx];omega) only[↓ypre,ypost,↓reduceIte,reduceEqDiff,reduceAdd,reduceSub,reduceLeDiff,zz0,ynew,decide_eq_false h3]);try simp only[yback])
  exact no (fun hh=>h3 (by omega))
 ((try simp (maxSteps:=3000000) (dsimp:=false) (disch:=first|omega|simp only[lnx];omega) only[↓ypre,ypost,↓reduceIte,reduceEqDiff,reduceAdd,reduceSub,reduceLeDiff,zz0,ynew,decide_eq_true h3]);try simp only[yback])
 have:=hQ _ pp
 rw[if_pos (by omega)] at this
 exact this
theorem i_equationCode {v u:Value} {x:Sch} {a b c:Int} {h:AH} {Q:Value→AH→Prop} (hv:Prods h v x.ps) (hl:SmallX x.ps) (hu:Ints h u [a,b,c])
  (hQ:∀ h',h<+:h'→Q (I64 (plC x a b c)) h'):WF S 217 [schV x v,u] h Q:=by
 refine WF_fn (fn:=c217) rfl rfl ?_
 dsimp only[c217,oO,oM,oS,oG,oK,oE,oL,oF,oX,oN]
 have o1:=hv.one
 ((try simp (maxSteps:=3000000) (dsimp:=false) (disch:=first|omega|simp only[lnx];omega) only[↓ypre,ypost,↓reduceIte,reduceEqDiff,reduceAdd,reduceSub,reduceLeDiff,zz0,ynew,schV,o1]);try simp only[yback])
 generalize hH1:AH.new h _=H1
 obtain⟨hb1,p1,n1⟩:=new_facts hH1
 ((try simp (maxSteps:=3000000) (dsimp:=false) (disch:=first|omega|simp only[lnx];omega) only[↓ypre,ypost,↓reduceIte,reduceEqDiff,reduceAdd,reduceSub,reduceLeDiff,zz0,ynew,rdn_of hb1]);try simp only[yback])
 refine i_IsScheme (x:=x) (hv.pre p1) hl fun H2 p2=>?_
 have g2:=pre_get p2 hb1
 by_cases hx:isX x=true
 case neg=>
  ((try simp (maxSteps:=3000000) (dsimp:=false) (disch:=first|omega|simp only[lnx];omega) only[↓ypre,ypost,↓reduceIte,reduceEqDiff,reduceAdd,reduceSub,reduceLeDiff,zz0,ynew,hx]);try simp only[yback])
  have e:plC x a b c=1:=if_neg hx
  rw[e] at hQ
  exact hQ _ (p1.trans p2)
 have z:=(isX_facts hx).1
 ((try simp (maxSteps:=3000000) (dsimp:=false) (disch:=first|omega|simp only[lnx];omega) only[↓ypre,ypost,↓reduceIte,reduceEqDiff,reduceAdd,reduceSub,reduceLeDiff,zz0,ynew,hx,rdn_of g2]);try simp only[yback])
 refine i_placesOf (x:=x) o1 z fun H3 p3=>?_
 have pp:=p1.trans (p2.trans p3)
 have hu:=hu.pre pp
 have e:plC x a b c=if (0≤a∧a<x.n*x.m)∧(0≤b∧b<x.m*x.k)∧(0≤c∧c<x.n*x.k) then 0 else 2:=if_pos hx
 rw[e] at hQ
 have no:¬ ((0≤a∧a<x.n*x.m)∧(0≤b∧b<x.m*x.k)∧(0≤c∧c<x.n*x.k))→Q (I64 2) H3:=fun hh=>by
  have:=hQ _ pp
  rw[if_neg hh] at this
  exact this
 generalize hP:[x.n*x.m,x.m*x.k,x.n*x.k]=P at *
 have hPL:P.length=3:=by rw[←hP];rfl
 have eP:(.agg #[I64 (x.n*x.m),I64 (x.m*x.k),I64 (x.n*x.k)]:Value)=.agg (cel .i64 P).toArray:=by rw[←hP];rfl
 rw[eP]
 ((try simp (maxSteps:=3000000) (dsimp:=false) (disch:=first|omega|simp only[lnx];omega) only[↓ypre,ypost,↓reduceIte,reduceEqDiff,reduceAdd,reduceSub,reduceLeDiff,zz0,ynew]);try simp only[yback])
 refine WC_loop_inv (fun m f K1=>∃ (i:Nat),m=3-i∧i≤3∧f 1=u∧f 11=.agg (cel .i64 P).toArray∧f 12=I64 i∧(K1=H3)∧(∀ j,j<i→0≤([a,b,c]:List Int).getD j 0∧([a,b,c]:List Int).getD j 0<P.getD j 0)) ?_ (3-0) _ _ ⟨0,rfl,by omega,(by first|rfl|simp[upd_apply]),(by first|rfl|simp[upd_apply]),(by first|rfl|simp[upd_apply]),rfl,(by omega)⟩
 rintro m f K1 ⟨i,rfl,hi,f1,f11,f12,hK,hj⟩
 subst hK
 by_cases hlt:(i:Int)<3
 ·have g1:=idx1V_cel (k:=.i64) (q:=P) (n:=3) (j:=i) (kk:=.i64) (by omega) (by omega)
  obtain⟨m,q,ix,rd⟩:=hu.cell (j:=i) (by simp;omega)
  have no':¬ (0≤([a,b,c]:List Int).getD i 0∧([a,b,c]:List Int).getD i 0<P.getD i 0)→Q (I64 2) K1:=fun hh=>no fun hh'=>hh (by
   rw[←hP]
   have:i=0∨i=1∨i=2:=by omega
   rcases this with rfl|rfl|rfl
   ·exact hh'.1
   ·exact hh'.2.1
   ·exact hh'.2.2)
  have jn:=fun (h1:0≤([a,b,c]:List Int).getD i 0) (h2:([a,b,c]:List Int).getD i 0<P.getD i 0)=>step_all hj ⟨h1,h2⟩
  generalize ([a,b,c]:List Int).getD i 0=y at *
  generalize P.getD i 0=yp at *
  by_cases h1:y<0
  ·((try simp (maxSteps:=3000000) (dsimp:=false) (disch:=first|omega|simp only[lnx];omega) only[↓ypre,ypost,↓reduceIte,reduceEqDiff,reduceAdd,reduceSub,reduceLeDiff,zz0,ynew,f1,f11,f12,decide_eq_true hlt,WX_idx1,g1,ix,rd,decide_eq_true h1]);try simp only[yback])
   exact no' (by omega)
  by_cases h2:y≥yp
  ·((try simp (maxSteps:=3000000) (dsimp:=false) (disch:=first|omega|simp only[lnx];omega) only[↓ypre,ypost,↓reduceIte,reduceEqDiff,reduceAdd,reduceSub,reduceLeDiff,zz0,ynew,f1,f11,f12,decide_eq_true hlt,WX_idx1,g1,ix,rd,decide_eq_false h1,decide_eq_true h2]);try simp only[yback])
   exact no' (by omega)
  ·((try simp (maxSteps:=3000000) (dsimp:=false) (disch:=first|omega|simp only[lnx];omega) only[↓ypre,ypost,↓reduceIte,reduceEqDiff,reduceAdd,reduceSub,reduceLeDiff,zz0,ynew,f1,f11,f12,decide_eq_true hlt,WX_idx1,g1,ix,rd,decide_eq_false h1,decide_eq_false h2,wrap64_in]);try simp only[yback])
   refine InvQ_go (3-(i+1)) (by omega) ⟨(i+1),rfl,by omega,(by first|rfl|exact f1|(simp only[upd_apply];rfl)|(show I64 _=_;congr 1;omega)),(by first|rfl|exact f11|(simp only[upd_apply];rfl)|(show I64 _=_;congr 1;omega)),(by first|rfl|exact f12|(simp only[upd_apply];rfl)|(show I64 _=_;congr 1;omega)),rfl,(jn (by omega) (by omega))⟩
 ·((try simp (maxSteps:=3000000) (dsimp:=false) (disch:=first|omega|simp only[lnx];omega) only[↓ypre,ypost,↓reduceIte,reduceEqDiff,reduceAdd,reduceSub,reduceLeDiff,zz0,ynew,f1,f11,f12,decide_eq_false hlt]);try simp only[yback])
  have h0:=hj 0 (by omega)
  have h1:=hj 1 (by omega)
  have h2:=hj 2 (by omega)
  rw[←hP] at h0 h1 h2
  have:=hQ _ pp
  rw[if_pos ⟨h0,h1,h2⟩] at this
  exact this
def lfR (x:Sch) (a b c:Int):Int×Int:=if plC x a b c=0 then (lsX x a.toNat b.toNat c.toNat,0) else (0,plC x a b c)
def rtR (x:Sch) (a b c:Int):Int×Int:=if plC x a b c=0 then (wnX x a.toNat b.toNat c.toNat,0) else (0,plC x a b c)
theorem s_LeftSide {v:Value} {x:Sch} {a b c:Int} {h:AH} {Q:Value→AH→Prop} (hv:Prods h v x.ps) (hl:SmallX x.ps)
  (hQ:∀ h',h<+:h'→Q (.tuple #[I64 (lfR x a b c).1,I64 (lfR x a b c).2]) h'):WF S 77 [schV x v,I64 a,I64 b,I64 c] h Q:=by
 refine WF_fn (fn:=c77) rfl rfl ?_
 dsimp only[c77,oO,oM,oS,oG,oK,oE,oL,oF,oX,oN]
 have o1:=hv.one
 ((try simp (maxSteps:=3000000) (dsimp:=false) (disch:=first|omega|simp only[lnx];omega) only[↓ypre,ypost,↓reduceIte,reduceEqDiff,reduceAdd,reduceSub,reduceLeDiff,zz0,ynew,schV,o1]);try simp only[yback])
 generalize hH1:AH.new h _=H1
 obtain⟨hb1,p1,n1⟩:=new_facts hH1
 ((try simp (maxSteps:=3000000) (dsimp:=false) (disch:=first|omega|simp only[lnx];omega) only[↓ypre,ypost,↓reduceIte,reduceEqDiff,reduceAdd,reduceSub,reduceLeDiff,zz0,ynew,rdn_of hb1]);try simp only[yback])
 refine s_l01Places (x:=x) (hv.pre p1) hl fun H2 p2=>?_
 have g2:=pre_get p2 hb1
 by_cases hc:plC x a b c=0
 case neg=>
  ((try simp (maxSteps:=3000000) (dsimp:=false) (disch:=first|omega|simp only[lnx];omega) only[↓ypre,ypost,↓reduceIte,reduceEqDiff,reduceAdd,reduceSub,reduceLeDiff,zz0,ynew,decide_eq_true (show plC x a b c≠0 from hc)]);try simp only[yback])
  have e:lfR x a b c=(0,plC x a b c):=if_neg hc
  rw[e] at hQ
  exact hQ _ (p1.trans p2)
 obtain⟨hx,ha,hb,hcc⟩:=plC_0 hc
 obtain⟨z,hP,hl30,-⟩:=isX_facts hx
 have zn:=z.nm
 have zm:=z.mk2
 have zk:=z.nk
 have e:lfR x a b c=(lsX x a.toNat b.toNat c.toNat,0):=if_pos hc
 rw[e] at hQ
 ((try simp (maxSteps:=3000000) (dsimp:=false) (disch:=first|omega|simp only[lnx];omega) only[↓ypre,ypost,↓reduceIte,reduceEqDiff,reduceAdd,reduceSub,reduceLeDiff,zz0,ynew,decide_eq_false (show ¬ plC x a b c≠0 from fun h=>h hc),rdn_of g2]);try simp only[yback])
 have ea:a=(a.toNat:Int):=by omega
 have eb:b=(b.toNat:Int):=by omega
 have ec:c=(c.toNat:Int):=by omega
 rw[ea,eb,ec]
 refine s_l01Sum (x:=x) (hv.pre (p1.trans p2)) z hl30 (a:=a.toNat) (b:=b.toNat) (c:=c.toNat) (by omega) (by omega) (by omega) fun H4 p4=>?_
 ((try simp (maxSteps:=3000000) (dsimp:=false) (disch:=first|omega|simp only[lnx];omega) only[↓ypre,ypost,↓reduceIte,reduceEqDiff,reduceAdd,reduceSub,reduceLeDiff,zz0,ynew]);try simp only[yback])
 exact hQ _ (p1.trans (p2.trans p4))
theorem s_RightSide {v:Value} {x:Sch} {a b c:Int} {h:AH} {Q:Value→AH→Prop} (hv:Prods h v x.ps) (hl:SmallX x.ps)
  (hQ:∀ h',h<+:h'→Q (.tuple #[I64 (rtR x a b c).1,I64 (rtR x a b c).2]) h'):WF S 79 [schV x v,I64 a,I64 b,I64 c] h Q:=by
 refine WF_fn (fn:=c79) rfl rfl ?_
 dsimp only[c79,oO,oM,oS,oG,oK,oE,oL,oF,oX,oN]
 have o1:=hv.one
 ((try simp (maxSteps:=3000000) (dsimp:=false) (disch:=first|omega|simp only[lnx];omega) only[↓ypre,ypost,↓reduceIte,reduceEqDiff,reduceAdd,reduceSub,reduceLeDiff,zz0,ynew,schV,o1]);try simp only[yback])
 generalize hH1:AH.new h _=H1
 obtain⟨hb1,p1,n1⟩:=new_facts hH1
 ((try simp (maxSteps:=3000000) (dsimp:=false) (disch:=first|omega|simp only[lnx];omega) only[↓ypre,ypost,↓reduceIte,reduceEqDiff,reduceAdd,reduceSub,reduceLeDiff,zz0,ynew,rdn_of hb1]);try simp only[yback])
 refine s_l01Places (x:=x) (hv.pre p1) hl fun H2 p2=>?_
 have g2:=pre_get p2 hb1
 by_cases hc:plC x a b c=0
 case neg=>
  ((try simp (maxSteps:=3000000) (dsimp:=false) (disch:=first|omega|simp only[lnx];omega) only[↓ypre,ypost,↓reduceIte,reduceEqDiff,reduceAdd,reduceSub,reduceLeDiff,zz0,ynew,decide_eq_true (show plC x a b c≠0 from hc)]);try simp only[yback])
  have e:rtR x a b c=(0,plC x a b c):=if_neg hc
  rw[e] at hQ
  exact hQ _ (p1.trans p2)
 obtain⟨hx,ha,hb,hcc⟩:=plC_0 hc
 obtain⟨z,hP,hl30,-⟩:=isX_facts hx
 have zn:=z.nm
 have zm:=z.mk2
 have zk:=z.nk
 have e:rtR x a b c=(wnX x a.toNat b.toNat c.toNat,0):=if_pos hc
 rw[e] at hQ
 ((try simp (maxSteps:=3000000) (dsimp:=false) (disch:=first|omega|simp only[lnx];omega) only[↓ypre,ypost,↓reduceIte,reduceEqDiff,reduceAdd,reduceSub,reduceLeDiff,zz0,ynew,decide_eq_false (show ¬ plC x a b c≠0 from fun h=>h hc),rdn_of g2]);try simp only[yback])
 have ea:a=(a.toNat:Int):=by omega
 have eb:b=(b.toNat:Int):=by omega
 have ec:c=(c.toNat:Int):=by omega
 rw[ea,eb,ec]
 refine s_l01Want (x:=x) o1 z (a:=a.toNat) (b:=b.toNat) (c:=c.toNat) (by omega) (by omega) (by omega) fun H4 p4=>?_
 ((try simp (maxSteps:=3000000) (dsimp:=false) (disch:=first|omega|simp only[lnx];omega) only[↓ypre,ypost,↓reduceIte,reduceEqDiff,reduceAdd,reduceSub,reduceLeDiff,zz0,ynew]);try simp only[yback])
 exact hQ _ (p1.trans (p2.trans p4))
theorem i_LeftSide {v:Value} {x:Sch} {a b c:Int} {h:AH} {Q:Value→AH→Prop} (hv:Prods h v x.ps) (hl:SmallX x.ps)
  (hQ:∀ h',h<+:h'→Q (.tuple #[I64 (lfR x a b c).1,I64 (lfR x a b c).2]) h'):WF S 74 [schV x v,I64 a,I64 b,I64 c] h Q:=by
 refine WF_fn (fn:=c74) rfl rfl ?_
 dsimp only[c74,oO,oM,oS,oG,oK,oE,oL,oF,oX,oN]
 have o1:=hv.one
 ((try simp (maxSteps:=3000000) (dsimp:=false) (disch:=first|omega|simp only[lnx];omega) only[↓ypre,ypost,↓reduceIte,reduceEqDiff,reduceAdd,reduceSub,reduceLeDiff,zz0,ynew,schV,o1]);try simp only[yback])
 generalize hH1:AH.new h _=H1
 obtain⟨hb1,p1,n1⟩:=new_facts hH1
 ((try simp (maxSteps:=3000000) (dsimp:=false) (disch:=first|omega|simp only[lnx];omega) only[↓ypre,ypost,↓reduceIte,reduceEqDiff,reduceAdd,reduceSub,reduceLeDiff,zz0,ynew,rdn_of hb1,fillL,zrep]);try simp only[yback])
 generalize hH1b:AH.new H1 _=H1b
 obtain⟨gb,pb,nb⟩:=new_facts hH1b
 have iu:Ints H1b (.slice (some ⟨H1.length,0,none⟩) 3 1) [a,b,c]:=Ints.own gb rfl
 refine i_equationCode (x:=x) (hv.pre (p1.trans pb)) hl iu fun H2 p2=>?_
 have p2:=pb.trans p2
 have g2:=pre_get p2 hb1
 by_cases hc:plC x a b c=0
 case neg=>
  ((try simp (maxSteps:=3000000) (dsimp:=false) (disch:=first|omega|simp only[lnx];omega) only[↓ypre,ypost,↓reduceIte,reduceEqDiff,reduceAdd,reduceSub,reduceLeDiff,zz0,ynew,decide_eq_true (show plC x a b c≠0 from hc)]);try simp only[yback])
  have e:lfR x a b c=(0,plC x a b c):=if_neg hc
  rw[e] at hQ
  exact hQ _ (p1.trans p2)
 obtain⟨hx,ha,hb,hcc⟩:=plC_0 hc
 obtain⟨z,hP,hl30,-⟩:=isX_facts hx
 have zn:=z.nm
 have zm:=z.mk2
 have zk:=z.nk
 have e:lfR x a b c=(lsX x a.toNat b.toNat c.toNat,0):=if_pos hc
 rw[e] at hQ
 ((try simp (maxSteps:=3000000) (dsimp:=false) (disch:=first|omega|simp only[lnx];omega) only[↓ypre,ypost,↓reduceIte,reduceEqDiff,reduceAdd,reduceSub,reduceLeDiff,zz0,ynew,decide_eq_false (show ¬ plC x a b c≠0 from fun h=>h hc),rdn_of g2]);try simp only[yback])
 have ea:a=(a.toNat:Int):=by omega
 have eb:b=(b.toNat:Int):=by omega
 have ec:c=(c.toNat:Int):=by omega
 rw[ea,eb,ec]
 refine i_leftSide (x:=x) (hv.pre (p1.trans p2)) z hl30 (a:=a.toNat) (b:=b.toNat) (c:=c.toNat) (by omega) (by omega) (by omega) fun H4 p4=>?_
 ((try simp (maxSteps:=3000000) (dsimp:=false) (disch:=first|omega|simp only[lnx];omega) only[↓ypre,ypost,↓reduceIte,reduceEqDiff,reduceAdd,reduceSub,reduceLeDiff,zz0,ynew]);try simp only[yback])
 exact hQ _ (p1.trans (p2.trans p4))
theorem i_RightSide {v:Value} {x:Sch} {a b c:Int} {h:AH} {Q:Value→AH→Prop} (hv:Prods h v x.ps) (hl:SmallX x.ps)
  (hQ:∀ h',h<+:h'→Q (.tuple #[I64 (rtR x a b c).1,I64 (rtR x a b c).2]) h'):WF S 75 [schV x v,I64 a,I64 b,I64 c] h Q:=by
 refine WF_fn (fn:=c75) rfl rfl ?_
 dsimp only[c75,oO,oM,oS,oG,oK,oE,oL,oF,oX,oN]
 have o1:=hv.one
 ((try simp (maxSteps:=3000000) (dsimp:=false) (disch:=first|omega|simp only[lnx];omega) only[↓ypre,ypost,↓reduceIte,reduceEqDiff,reduceAdd,reduceSub,reduceLeDiff,zz0,ynew,schV,o1]);try simp only[yback])
 generalize hH1:AH.new h _=H1
 obtain⟨hb1,p1,n1⟩:=new_facts hH1
 ((try simp (maxSteps:=3000000) (dsimp:=false) (disch:=first|omega|simp only[lnx];omega) only[↓ypre,ypost,↓reduceIte,reduceEqDiff,reduceAdd,reduceSub,reduceLeDiff,zz0,ynew,rdn_of hb1,fillL,zrep]);try simp only[yback])
 generalize hH1b:AH.new H1 _=H1b
 obtain⟨gb,pb,nb⟩:=new_facts hH1b
 have iu:Ints H1b (.slice (some ⟨H1.length,0,none⟩) 3 1) [a,b,c]:=Ints.own gb rfl
 refine i_equationCode (x:=x) (hv.pre (p1.trans pb)) hl iu fun H2 p2=>?_
 have p2:=pb.trans p2
 have g2:=pre_get p2 hb1
 by_cases hc:plC x a b c=0
 case neg=>
  ((try simp (maxSteps:=3000000) (dsimp:=false) (disch:=first|omega|simp only[lnx];omega) only[↓ypre,ypost,↓reduceIte,reduceEqDiff,reduceAdd,reduceSub,reduceLeDiff,zz0,ynew,decide_eq_true (show plC x a b c≠0 from hc)]);try simp only[yback])
  have e:rtR x a b c=(0,plC x a b c):=if_neg hc
  rw[e] at hQ
  exact hQ _ (p1.trans p2)
 obtain⟨hx,ha,hb,hcc⟩:=plC_0 hc
 obtain⟨z,hP,hl30,-⟩:=isX_facts hx
 have zn:=z.nm
 have zm:=z.mk2
 have zk:=z.nk
 have e:rtR x a b c=(wnX x a.toNat b.toNat c.toNat,0):=if_pos hc
 rw[e] at hQ
 ((try simp (maxSteps:=3000000) (dsimp:=false) (disch:=first|omega|simp only[lnx];omega) only[↓ypre,ypost,↓reduceIte,reduceEqDiff,reduceAdd,reduceSub,reduceLeDiff,zz0,ynew,decide_eq_false (show ¬ plC x a b c≠0 from fun h=>h hc),rdn_of g2]);try simp only[yback])
 have ea:a=(a.toNat:Int):=by omega
 have eb:b=(b.toNat:Int):=by omega
 have ec:c=(c.toNat:Int):=by omega
 rw[ea,eb,ec]
 refine i_rightSide (x:=x) o1 z (a:=a.toNat) (b:=b.toNat) (c:=c.toNat) (by omega) (by omega) (by omega) fun H4 p4=>?_
 ((try simp (maxSteps:=3000000) (dsimp:=false) (disch:=first|omega|simp only[lnx];omega) only[↓ypre,ypost,↓reduceIte,reduceEqDiff,reduceAdd,reduceSub,reduceLeDiff,zz0,ynew]);try simp only[yback])
 exact hQ _ (p1.trans (p2.trans p4))
theorem WO_cut {S:XS} {ops:List XI} {f:Fr} {h:AH} {Q:Fr→AH→Prop} (I:Fr→Prop) (hI:I f) (step:∀ f,I f→WO S ops f h Q):WO S ops f h Q:=step f hI
def JnQ (I:Fr→AH→Prop):XE→Fr→AH→Prop
 | .normal,f,h=>I f h
 | _,_,_=>False
theorem JnQ_n {I:Fr→AH→Prop} {f:Fr} {h:AH}:JnQ I .normal f h=I f h:=rfl
theorem WO.mono {S:XS} {ops:List XI} {f:Fr} {h:AH} {Q Q':Fr→AH→Prop} (w:WO S ops f h Q) (hq:∀ f h,Q f h→Q' f h):WO S ops f h Q':=by
 obtain⟨k,f',h',h1,h2⟩:=w
 exact⟨k,f',h',h1,hq _ _ h2⟩
section
variable {n m:Nat} {h0 h h' h'':AH} {b:Blk}
theorem Kp.refl:Kp n h h:=⟨Nat.le_refl _,fun _ _ _=>rfl⟩
theorem Kp.trans (a:Kp n h h') (c:Kp n h' h''):Kp n h h'':=⟨Nat.le_trans a.1 c.1,fun m hm hn=>(c.2 m (Nat.lt_of_lt_of_le hm a.1) hn).trans (a.2 m hm hn)⟩
theorem Kp.of (p:h<+:h'):Kp n h h':=prefix_kp p
theorem Kp.get (k:Kp n h h') (hm:m≠n) (hg:h.get m=some b):h'.get m=some b:=by rw[k.2 m (get_lt hg) hm];exact hg
theorem Kp.put (k:Kp n h h'):Kp n h (h'.put n b):=⟨by rw[len_put];exact k.1,fun m hm hn=>by rw[get_put_ne (Ne.symm hn)];exact k.2 m hm hn⟩
theorem Kp.putb (k:Kp n h h') (hm:h.length≤m):Kp n h (h'.put m b):=⟨by rw[len_put];exact k.1,fun j hj hn=>by rw[get_put_ne (by omega)];exact k.2 j hj hn⟩
theorem Kp.new (k:Kp n h h'):Kp n h (h'.new b):=k.trans (Kp.of (pre_new (List.prefix_refl _)))
theorem get_none {m:Nat} (hm:m<h.length) (hn:h.get m=none):h[m]?=some none:=by
 unfold AH.get at hn
 rw[List.getElem?_eq_getElem hm] at hn ⊢
 cases e:h[m] with
 | none=>rfl
 | some b=>rw[e] at hn;cases hn
theorem get_some' {m:Nat} (hg:h.get m=some b):h[m]?=some (some b):=by
 have hl:=get_lt hg
 unfold AH.get at hg
 rw[List.getElem?_eq_getElem hl] at hg ⊢
 cases e:h[m] with
 | none=>rw[e] at hg;cases hg
 | some c=>rw[e] at hg;cases hg;rfl
theorem Kp.pre (k:Kp n h h') (p:h0<+:h) (hl:h0.length≤n):h0<+:h':=by
 have l0:=pre_len p
 rw[List.prefix_iff_getElem?] at p ⊢
 intro i hi
 have e:=k.2 i (by omega) (by omega)
 rw[←p i hi]
 cases hg:h.get i with
 | none=>
  rw[hg] at e
  rw[get_none (by omega) hg,get_none (Nat.lt_of_lt_of_le (by omega) k.1) e]
 | some b=>
  rw[hg] at e
  rw[get_some' hg,get_some' e]
end
theorem put_facts {h H:AH} {m:Nat} {b:Blk} (hH:h.put m b=H):(∀ k c,k≠m→h.get k=some c→H.get k=some c)∧H.length=h.length∧(m<h.length→H.get m=some b)∧∀ n h0,Kp n h0 h→h0.length≤m→Kp n h0 H:=by
 subst hH
 exact⟨fun k c hk g=>by rw[get_put_ne (Ne.symm hk)];exact g,len_put,fun hm=>get_put_same hm,fun n h0 k hm=>k.putb hm⟩
def KP (n:Nat) (h:AH) (p:AH→Prop):Prop:=∀ h',Kp n h h'→p h'
theorem KP.now {n:Nat} {h:AH} {p:AH→Prop} (k:KP n h p):p h:=k h Kp.refl
theorem KP.kp {n:Nat} {h h':AH} {p:AH→Prop} (k:KP n h p) (d:Kp n h h'):KP n h' p:=fun h2 d2=>k h2 (d.trans d2)
theorem KP.pre {n:Nat} {h h':AH} {p:AH→Prop} (k:KP n h p) (d:h<+:h'):KP n h' p:=k.kp (Kp.of d)
def KN (lo:Nat) (h:AH) (p:AH→Prop):Prop:=∀ h':AH,h.length≤h'.length→(∀ m,lo≤m→m<h.length→h'.get m=h.get m)→p h'
section
variable {lo lo' n m:Nat} {h h':AH} {p:AH→Prop} {b:Blk}
theorem KN.now (k:KN lo h p):p h:=k h (Nat.le_refl _) fun _ _ _=>rfl
theorem KN.kp (k:KN lo h p) (d:Kp n h h') (hn:n<lo):KN lo h' p:=fun h2 l2 g2=>k h2 (Nat.le_trans d.1 l2) fun m h1 h3=>(g2 m h1 (Nat.lt_of_lt_of_le h3 d.1)).trans (d.2 m h3 (by omega))
theorem KN.pre (k:KN lo h p) (d:h<+:h'):KN lo h' p:=fun h2 l2 g2=>k h2 (Nat.le_trans (pre_len d) l2) fun m h1 h3=>(g2 m h1 (Nat.lt_of_lt_of_le h3 (pre_len d))).trans (prefix_get d h3)
theorem KN.put (k:KN lo h p) (hm:m<lo):KN lo (h.put m b) p:=fun h2 l2 g2=>k h2 (by rw[len_put] at l2;exact l2) fun j h1 h3=>(g2 j h1 (by rw[len_put];exact h3)).trans (get_put_ne (by omega))
theorem KN.mono (k:KN lo h p) (hl:lo'≤lo):KN lo' h p:=fun h2 l2 g2=>k h2 l2 fun m h1 h3=>g2 m (by omega) h3
end
abbrev U64 (n:Int):Value:=.int .u64 n
abbrev srcP (n:Nat):Value:=.pointer (some ⟨n,0,none⟩)
structure Src (h0 h:AH) (n:Nat):Prop where
 p:h0<+:h
 lo:h0.length≤n
 ex:∃ (cv:Value) (code:List (List Int)) (a:Nat) (k:Int) (e:TypeId) (full:Bool),Els .u8 1 h0 cv code∧Byt 1 code∧code.length≤1000000∧a≤code.length∧h.get n=some ⟨[cv,I64 a,U64 k],e,false,full⟩
theorem Src.kp {h0 h h':AH} {n:Nat} (s:Src h0 h n) (p:h<+:h'):Src h0 h' n:=by
 obtain⟨cv,code,a,k,e,full,h1,h2,h3,h4,h5⟩:=s.ex
 exact⟨s.p.trans p,s.lo,cv,code,a,k,e,full,h1,h2,h3,h4,pre_get p h5⟩
theorem Src.keep {h0 h h':AH} {n:Nat} (s:Src h0 h n) (p:h0<+:h') (g:∀ b,h.get n=some b→h'.get n=some b):Src h0 h' n:=by
 obtain⟨cv,code,a,k,e,full,h1,h2,h3,h4,h5⟩:=s.ex
 exact⟨p,s.lo,cv,code,a,k,e,full,h1,h2,h3,h4,g _ h5⟩
theorem Src.lt {h0 h:AH} {n:Nat} (s:Src h0 h n):n<h.length:=by
 obtain⟨cv,code,a,k,e,full,h1,h2,h3,h4,h5⟩:=s.ex
 exact get_lt h5
theorem Src.putb {h0 h:AH} {n m:Nat} {b:Blk} (s:Src h0 h n) (hm:m≠n) (hl:h0.length≤m):Src h0 (h.put m b) n:=s.keep (pre_put s.p hl) fun c g=>by rw[get_put_ne hm];exact g
theorem Src.put {h0 h H:AH} {n m:Nat} {b:Blk} (s:Src h0 h n) (hH:h.put m b=H) (hm:m≠n) (hl:h0.length≤m):Src h0 H n:=by
 subst hH
 exact s.putb hm hl
theorem and24 (x:Int):xbin .and (U64 x) (U64 16777215)=some (U64 ((BitVec.ofInt 64 x &&& BitVec.ofInt 64 16777215).toNat:Nat))∧(BitVec.ofInt 64 x &&& BitVec.ofInt 64 16777215).toNat≤16777215:=by
 have hb:(BitVec.ofInt 64 x &&& BitVec.ofInt 64 16777215).toNat≤16777215:=by
  rw[BitVec.toNat_and]
  exact Nat.le_trans Nat.and_le_right (by decide)
 refine⟨?_,hb⟩
 simp only[xbin,if_true]
 congr 2
 show IntKind.wrap .u64 ((BitVec.ofInt 64 x &&& BitVec.ofInt 64 16777215).toNat:Nat)=_
 generalize (BitVec.ofInt 64 x &&& BitVec.ofInt 64 16777215).toNat=y at hb
 simp only[IntKind.wrap]
 have:IntKind.u64.bits=64:=rfl
 rw[this,show IntKind.u64.signed=false from rfl,Bool.false_and,if_neg (by decide)]
 omega
theorem bin_shr {k k':IntKind} {x:Int} {b:Int} (hb:0≤b):xbin .shr (.int k x) (.int k' b)=some (.int k (x.fdiv (2^(min b.toNat k.bits)))):=by simp[xbin,hb]
theorem s_l01Next {h0 h:AH} {n:Nat} {k:Int} {Q:Value→AH→Prop} (s:Src h0 h n) (hQ:∀ r h',Kp n h h'→h'.length=h.length→Src h0 h' n→(1≤k→0≤r∧r<k)→(k<1→r=0)→Q (I64 r) h'):WF S 148 [srcP n,I64 k] h Q:=by
 refine WF_fn (fn:=c148) rfl rfl ?_
 dsimp only[c148,oO,oM,oS,oG,oK,oE,oL,oF,oX,oN]
 obtain⟨cv,code,a,hs,e,full,h1,h2,h3,h4,h5⟩:=s.ex
 unfold srcP
 by_cases hk:k<1
 ·((try simp (maxSteps:=3000000) (dsimp:=false) (disch:=first|omega|simp only[lnx];omega) only[↓ypre,ypost,↓reduceIte,reduceEqDiff,reduceAdd,reduceSub,reduceLeDiff,zz0,ynew,decide_eq_true hk]);try simp only[yback])
  exact hQ 0 _ Kp.refl rfl s (by omega) (fun _=>rfl)
 ·((try simp (maxSteps:=3000000) (dsimp:=false) (disch:=first|omega|simp only[lnx];omega) only[↓ypre,ypost,↓reduceIte,reduceEqDiff,reduceAdd,reduceSub,reduceLeDiff,zz0,ynew,decide_eq_false hk,nchkV_p,rd1_of h5,wr_of h5,splice_eq]);try simp only[yback])
  generalize hx:IntKind.u64.wrap (IntKind.u64.wrap (hs*6364136223846793005)+1442695040888963407)=x
  generalize hH:h.put n ⟨[cv,I64 a,U64 x],e,false,full⟩=H
  have gH:H.get n=some ⟨[cv,I64 a,U64 x],e,false,full⟩:=by rw[←hH];exact get_put_same (get_lt h5)
  have lH:H.length=h.length:=by rw[←hH,len_put]
  have kH:Kp n h H:=by rw[←hH];exact Kp.refl.put
  have pH:=kH.pre s.p s.lo
  obtain⟨a1,a2⟩:=and24 (x.fdiv (2^(min (33:Int).toNat IntKind.u64.bits)))
  generalize hN:(BitVec.ofInt 64 (x.fdiv (2^(min (33:Int).toNat IntKind.u64.bits))) &&& BitVec.ofInt 64 16777215).toNat=N at a1 a2
  have e1:=h1.pre pH
  have fin:∀ (y:Int) (h':AH),0≤y→Kp n h h'→h'.length=h.length→Src h0 h' n→Q (I64 (y.tmod k)) h':=fun y h' hy kp hl ss=>
   hQ _ h' kp hl ss (fun _=>⟨Int.tmod_nonneg _ hy,Int.tmod_lt_of_pos _ (by omega)⟩) (fun hk'=>absurd hk' hk)
  ((try simp (maxSteps:=3000000) (dsimp:=false) (disch:=first|omega|simp only[lnx];omega) only[↓ypre,ypost,↓reduceIte,reduceEqDiff,reduceAdd,reduceSub,reduceLeDiff,zz0,ynew,rd1_of gH,bin_shr,a1,e1.len,wrap64_in,Int.reduceLE]);try simp only[yback])
  by_cases hlt:(a:Int)<code.length
  ·have hi':a<code.length:=by omega
   obtain⟨n2,off,hix,hrn,hr1⟩:=e1.at hi'
   have rb:=hr1 0 (by omega)
   have bb:=h2 a hi' 0 (by omega)
   rw[Nat.add_zero] at rb
   generalize (code.getD a []).getD 0 0=y at rb bb
   ((try simp (maxSteps:=3000000) (dsimp:=false) (disch:=first|omega|simp only[lnx];omega) only[↓ypre,ypost,↓reduceIte,reduceEqDiff,reduceAdd,reduceSub,reduceLeDiff,zz0,ynew,decide_eq_true hlt,hix,rb,rd1_of gH,wr_of gH,splice_eq,wrap64_in,bin_rem (show k≠0 by omega)]);try simp only[yback])
   exact fin (N+y) _ (by omega) kH.put (by rw[len_put,lH]) ⟨pre_put pH s.lo,s.lo,cv,code,a+1,x,e,full,h1,h2,h3,by omega,get_put_same (get_lt gH)⟩
  ·((try simp (maxSteps:=3000000) (dsimp:=false) (disch:=first|omega|simp only[lnx];omega) only[↓ypre,ypost,↓reduceIte,reduceEqDiff,reduceAdd,reduceSub,reduceLeDiff,zz0,ynew,decide_eq_false hlt,bin_rem (show k≠0 by omega)]);try simp only[yback])
   exact fin N H (by omega) kH lH ⟨pH,s.lo,cv,code,a,x,e,full,h1,h2,h3,h4,gH⟩
theorem s_l01From {h:AH} {cv:Value} {code:List (List Int)} {Q:Value→AH→Prop} (hv:Els .u8 1 h cv code) (hb:Byt 1 code) (hl:code.length≤1000000)
  (hQ:∀ h',h<+:h'→h'.length=h.length+1→Src h h' h.length→Q (srcP h.length) h'):WF S 145 [cv] h Q:=by
 refine WF_fn (fn:=c145) rfl rfl ?_
 dsimp only[c145,oO,oM,oS,oG,oK,oE,oL,oF,oX,oN]
 ((try simp (maxSteps:=3000000) (dsimp:=false) (disch:=first|omega|simp only[lnx];omega) only[↓ypre,ypost,↓reduceIte,reduceEqDiff,reduceAdd,reduceSub,reduceLeDiff,zz0,ynew,hv.len,hv.one,hv.cells]);try simp only[yback])
 generalize hx:IntKind.u64.wrap (12619+IntKind.u64.wrap (code.length:Int))=x0
 ((try simp (maxSteps:=3000000) (dsimp:=false) (disch:=first|omega|simp only[lnx];omega) only[↓ypre,ypost,↓reduceIte,reduceEqDiff,reduceAdd,reduceSub,reduceLeDiff,zz0,ynew,fillL,hv.one,hv.cells]);try simp only[yback])
 generalize hH1:AH.new h _=H1
 obtain⟨hb1,p1,n1⟩:=new_facts hH1
 refine WC_loop_inv (fun m f K1=>∃ (i:Nat) (x:Int),m=code.length-i∧i≤code.length∧f 0=cv∧f 3=srcP h.length∧f 4=I64 i∧(h<+:K1)∧(K1.length=h.length+1)∧(K1.get h.length=some ⟨[cv,I64 0,U64 x],220,false,true⟩)) ?_ (code.length-0) _ _ ⟨0,x0,rfl,by omega,(by first|rfl|simp[upd_apply]),(by first|rfl|simp[upd_apply]),(by first|rfl|simp[upd_apply]),p1,n1,hb1⟩
 rintro m f K1 ⟨i,x,rfl,hi,f0,f3,f4,pp,hl1,hg⟩
 have e1:=hv.pre pp
 unfold srcP at f3
 by_cases hlt:(i:Int)<code.length
 ·by_cases h4:(i:Int)<4096
  ·have hi':i<code.length:=by omega
   obtain⟨n2,off,hix,hrn,hr1⟩:=e1.at hi'
   have rb:=hr1 0 (by omega)
   rw[Nat.add_zero] at rb
   ((try simp (maxSteps:=3000000) (dsimp:=false) (disch:=first|omega|simp only[lnx];omega) only[↓ypre,ypost,↓reduceIte,reduceEqDiff,reduceAdd,reduceSub,reduceLeDiff,zz0,ynew,f0,f3,f4,e1.len,decide_eq_true hlt,decide_eq_true h4,nchkV_p,rd1_of hg,hix,rb,wr_of hg,splice_eq,wrap64_in]);try simp only[yback])
   refine InvQ_go (code.length-(i+1)) (by omega) ⟨(i+1),(_),rfl,by omega,(by first|rfl|exact f0|(simp only[upd_apply];rfl)|(show I64 _=_;congr 1;omega)),(by first|rfl|exact f3|(simp only[upd_apply];rfl)|(show I64 _=_;congr 1;omega)),(by first|rfl|exact f4|(simp only[upd_apply];rfl)|(show I64 _=_;congr 1;omega)),(pre_put pp (by omega)),(by rw[len_put];exact hl1),(get_put_same (get_lt hg))⟩
  ·((try simp (maxSteps:=3000000) (dsimp:=false) (disch:=first|omega|simp only[lnx];omega) only[↓ypre,ypost,↓reduceIte,reduceEqDiff,reduceAdd,reduceSub,reduceLeDiff,zz0,ynew,f0,f3,f4,e1.len,decide_eq_true hlt,decide_eq_false h4]);try simp only[yback])
   exact hQ _ pp hl1 ⟨pp,Nat.le_refl _,cv,code,0,x,_,_,hv,hb,hl,Nat.zero_le _,hg⟩
 ·((try simp (maxSteps:=3000000) (dsimp:=false) (disch:=first|omega|simp only[lnx];omega) only[↓ypre,ypost,↓reduceIte,reduceEqDiff,reduceAdd,reduceSub,reduceLeDiff,zz0,ynew,f0,f3,f4,e1.len,decide_eq_false hlt,WG_un]);try simp only[yback])
  exact hQ _ pp hl1 ⟨pp,Nat.le_refl _,cv,code,0,x,_,_,hv,hb,hl,Nat.zero_le _,hg⟩
theorem s_l01Pick {h0 h:AH} {n:Nat} {v:Value} {ns:List Int} {Q:Value→AH→Prop} (s:Src h0 h n) (hv:KP n h fun h'=>Ints h' v ns) (h1:1≤ns.length) (h2:ns.length≤1000)
  (hQ:∀ j h',Kp n h h'→h'.length=h.length→Src h0 h' n→j<ns.length→Q (I64 (ns.getD j 0)) h'):WF S 147 [srcP n,v] h Q:=by
 refine WF_fn (fn:=c147) rfl rfl ?_
 dsimp only[c147,oO,oM,oS,oG,oK,oE,oL,oF,oX,oN]
 ((try simp (maxSteps:=3000000) (dsimp:=false) (disch:=first|omega|simp only[lnx];omega) only[↓ypre,ypost,↓reduceIte,reduceEqDiff,reduceAdd,reduceSub,reduceLeDiff,zz0,ynew,hv.now.len]);try simp only[yback])
 refine s_l01Next s fun r h' kp hl ss hr _=>?_
 obtain⟨r0,r1⟩:=hr (by omega)
 have iv:=hv h' kp
 ((try simp (maxSteps:=3000000) (dsimp:=false) (disch:=first|omega|simp only[lnx];omega) only[↓ypre,ypost,↓reduceIte,reduceEqDiff,reduceAdd,reduceSub,reduceLeDiff,zz0,ynew,iv.ix r0 r1,iv.rd r0 r1]);try simp only[yback])
 have:=hQ r.toNat h' kp hl ss (by omega)
 exact this
theorem kp_new {h H:AH} {n:Nat} {ns:List Int} {e:TypeId} (hH:h.new ⟨ns.map (Value.int .i64),e,false,true⟩=H) (hn:n<h.length):KP n H fun h'=>Ints h' (.slice (some ⟨h.length,0,none⟩) ns.length 1) ns:=by
 obtain⟨g1,p1,n1⟩:=new_facts hH
 intro h' k
 exact Ints.own (k.get (by omega) g1) rfl
theorem s_l01Near {h0 h:AH} {n:Nat} {m:Int} {Q:Value→AH→Prop} (s:Src h0 h n) (hm:-1000000000≤m∧m≤1000000000)
  (hQ:∀ r h',Kp n h h'→Src h0 h' n → -4611686018427387904≤r∧r≤1099511627776→Q (I64 r) h'):WF S 175 [srcP n,I64 m] h Q:=by
 refine WF_fn (fn:=c175) rfl rfl ?_
 dsimp only[c175,oO,oM,oS,oG,oK,oE,oL,oF,oX,oN]
 have s0:=s
 ((try simp (maxSteps:=3000000) (dsimp:=false) (disch:=first|omega|simp only[lnx];omega) only[↓ypre,ypost,↓reduceIte,reduceEqDiff,reduceAdd,reduceSub,reduceLeDiff,zz0,ynew]);try simp only[yback])
 refine s_l01Next s fun r h1 k1 l1 s1 hr _=>?_
 by_cases h0':r=0
 ·((try simp (maxSteps:=3000000) (dsimp:=false) (disch:=first|omega|simp only[lnx];omega) only[↓ypre,ypost,↓reduceIte,reduceEqDiff,reduceAdd,reduceSub,reduceLeDiff,zz0,ynew,decide_eq_true h0',wrap64_in,fillL,zrep]);try simp only[yback])
  generalize hH:AH.new h1 _=H
  have lt:=s1.lt
  have kv:=kp_new (ns:=[-1,m+1,1099511627776,-4611686018427387904]) hH lt
  obtain⟨g1,p1,n1⟩:=new_facts hH
  refine s_l01Pick (s1.kp p1) kv (by simp) (by simp) fun j h2 k2 l2 s2 hj=>?_
  ((try simp (maxSteps:=3000000) (dsimp:=false) (disch:=first|omega|simp only[lnx];omega) only[↓ypre,ypost,↓reduceIte,reduceEqDiff,reduceAdd,reduceSub,reduceLeDiff,zz0,ynew]);try simp only[yback])
  refine hQ _ _ ((k1.trans (Kp.of p1)).trans k2) s2 ?_
  have:j=0∨j=1∨j=2∨j=3:=by simp at hj;omega
  rcases this with rfl|rfl|rfl|rfl<;>simp<;>omega
 ·((try simp (maxSteps:=3000000) (dsimp:=false) (disch:=first|omega|simp only[lnx];omega) only[↓ypre,ypost,↓reduceIte,reduceEqDiff,reduceAdd,reduceSub,reduceLeDiff,zz0,ynew,decide_eq_false h0',wrap64_in]);try simp only[yback])
  refine s_l01Next s1 fun r2 h2 k2 l2 s2 hr2 hr3=>?_
  ((try simp (maxSteps:=3000000) (dsimp:=false) (disch:=first|omega|simp only[lnx];omega) only[↓ypre,ypost,↓reduceIte,reduceEqDiff,reduceAdd,reduceSub,reduceLeDiff,zz0,ynew]);try simp only[yback])
  refine hQ _ _ (k1.trans k2) s2 ?_
  by_cases h:m+1<1
  ·have:=hr3 h
   omega
  ·have:=hr2 (by omega)
   omega
theorem wrap8_in {x:Int} (h0:0≤x) (h1:x≤255):IntKind.u8.wrap x=x:=by
 simp only[IntKind.wrap]
 have:IntKind.u8.bits=8:=rfl
 rw[this,show IntKind.u8.signed=false from rfl,Bool.false_and,if_neg (by decide)]
 omega
theorem By.set {w:Nat} {q:List Int} {j:Nat} {x:Int} (hq:By w q) (hx:0≤x∧x≤255) (hj:j<w):By w (q.set j x):=by
 refine⟨by rw[List.length_set];exact hq.1,fun i hi=>?_⟩
 rw[set_getD (by rw[hq.1];exact hj)]
 split
 ·exact hx
 ·exact hq.2 i hi
def FQ (p m:Int) (q:List Int):Prop:=By 9 q∧okForm p m q=true
theorem okForm_at {p m:Int} {q:List Int} (h:okForm p m q=true) {j:Nat} (hj:j<9):q.getD j 0<p∧(m≤(j:Int)→q.getD j 0=0):=by
 unfold okForm at h
 have:=List.all_eq_true.1 h j (List.mem_range.2 hj)
 exact of_decide_eq_true this
theorem FQ.set {p m:Int} {q:List Int} {j:Nat} {x:Int} (f:FQ p m q) (hp:p≤255) (hx:0≤x∧x<p) (hj:j<9) (hm:(j:Int)<m):FQ p m (q.set j x):=by
 refine⟨f.1.set ⟨hx.1,by omega⟩ hj,okForm_t fun i hi=>?_⟩
 have:=okForm_at f.2 hi
 refine decide_eq_true ?_
 rw[set_getD (by rw[f.1.1];exact hj)]
 split
 ·exact⟨hx.2,fun h=>by omega⟩
 ·exact this
theorem FQ.zero {p m:Int} (hp:1≤p):FQ p m z9:=by
 have hz:∀ j,z9.getD j 0=0:=fun j=>by
  show (List.replicate 9 (0:Int)).getD j 0=0
  rw[List.getD_eq_getElem?_getD,List.getElem?_replicate]
  split<;>rfl
 refine⟨⟨rfl,fun j _=>by rw[hz];omega⟩,okForm_t fun j hj=>decide_eq_true ?_⟩
 rw[hz]
 omega
theorem isZ_set {q:List Int} {j:Nat} {x:Int} (hq:q.length=9) (hj:j<9) (hx:x≠0):isZ (q.set j x)=false:=by
 cases e:isZ (q.set j x) with
 | false=>rfl
 | true=>
  exfalso
  have h1:q.set j x=z9:=by simpa [isZ] using e
  have h2:(q.set j x).getD j 0=x:=by rw[set_getD (by omega),if_pos rfl]
  rw[h1] at h2
  have:z9.getD j 0=0:=by
   show (List.replicate 9 (0:Int)).getD j 0=0
   rw[List.getD_eq_getElem?_getD,List.getElem?_replicate]
   split<;>rfl
  omega
theorem Kp.len {n:Nat} {h h':AH} (k:Kp n h h'):h.length≤h'.length:=k.1
theorem sp9:splice (cel .u8 (List.replicate 9 0)) 0 (cel .u8 (List.replicate 9 0))=cel .u8 z9:=rfl
theorem s_l01DrawForm {h0 h:AH} {n w:Nat} {p:Int} {Q:Value→AH→Prop} (s:Src h0 h n) (hp:2≤p∧p≤5) (hw:1≤w∧w≤9)
  (hQ:∀ q h',Kp n h h'→Src h0 h' n→FQ p w q→isZ q=false→Q (aggV .u8 q) h'):WF S 334 [srcP n,I64 p,I64 w] h Q:=by
 refine WF_fn (fn:=c334) rfl rfl ?_
 dsimp only[c334,oO,oM,oS,oG,oK,oE,oL,oF,oX,oN]
 have lt:=s.lt
 ((try simp (maxSteps:=3000000) (dsimp:=false) (disch:=first|omega|simp only[lnx];omega) only[↓ypre,ypost,↓reduceIte,reduceEqDiff,reduceAdd,reduceSub,reduceLeDiff,zz0,ynew,zeros9,fillL]);try simp only[yback])
 generalize hH1:AH.new h _=H1
 obtain⟨hb1,p1,n1⟩:=new_facts hH1
 ((try simp (maxSteps:=3000000) (dsimp:=false) (disch:=first|omega|simp only[lnx];omega) only[↓ypre,ypost,↓reduceIte,reduceEqDiff,reduceAdd,reduceSub,reduceLeDiff,zz0,ynew,zeros9,cel_len,List.length_replicate,cel_all,sp9]);try simp only[yback])
 generalize hH2:AH.new H1 _=H2
 obtain⟨hb2,p2,n2⟩:=new_facts hH2
 refine WC_loop_inv (fun m f K1=>∃ (i:Nat) (q:List Int),m=w-i∧i≤w∧f 0=srcP n∧f 1=I64 p∧f 2=I64 w∧f 6=.pointer (some ⟨h.length,0,none⟩)∧f 7=.pointer (some ⟨H1.length,0,none⟩)∧f 8=I64 i∧(Kp n h K1)∧(Src h0 K1 n)∧(FQ p w q)∧(K1.get h.length=some ⟨cel .u8 (List.replicate 9 0),136,false,true⟩)∧(K1.get H1.length=some ⟨cel .u8 q,136,false,true⟩)) ?_ (w-0) _ _ ⟨0,z9,rfl,by omega,(by first|rfl|simp[upd_apply]),(by first|rfl|simp[upd_apply]),(by first|rfl|simp[upd_apply]),(by first|rfl|simp[upd_apply]),(by first|rfl|simp[upd_apply]),(by first|rfl|simp[upd_apply]),Kp.of (p1.trans p2),s.kp (p1.trans p2),FQ.zero (by omega),pre_get p2 hb1,hb2⟩
 rintro m f K1 ⟨i,q,rfl,hi,f0,f1,f2,f6,f7,f8,kk,ss,fq,hg1,hg2⟩
 have q9:=fq.1.1
 by_cases hlt:(i:Int)<w
 ·((try simp (maxSteps:=3000000) (dsimp:=false) (disch:=first|omega|simp only[lnx];omega) only[↓ypre,ypost,↓reduceIte,reduceEqDiff,reduceAdd,reduceSub,reduceLeDiff,zz0,ynew,f0,f1,f2,f6,f7,f8,decide_eq_true hlt]);try simp only[yback])
  refine s_l01Next ss fun r h1 k1 l1 s1 hr _=>?_
  have g1:=k1.get (by omega) hg1
  have g2:=k1.get (by omega) hg2
  by_cases h0':r=0
  ·((try simp (maxSteps:=3000000) (dsimp:=false) (disch:=first|omega|simp only[lnx];omega) only[↓ypre,ypost,↓reduceIte,reduceEqDiff,reduceAdd,reduceSub,reduceLeDiff,zz0,ynew,f0,f1,f2,f6,f7,f8,decide_eq_true h0']);try simp only[yback])
   refine s_l01Next s1 fun r2 h2 k2 l2 s2 hr2 _=>?_
   have g1:=k2.get (by omega) g1
   have g2:=k2.get (by omega) g2
   have hr2:=hr2 (by omega)
   have st:=cel_set (k:=.u8) (q:=q) (j:=i) (x:=r2) (by omega)
   ((try simp (maxSteps:=3000000) (dsimp:=false) (disch:=first|omega|simp only[lnx];omega) only[↓ypre,ypost,↓reduceIte,reduceEqDiff,reduceAdd,reduceSub,reduceLeDiff,zz0,ynew,f0,f1,f2,f6,f7,f8,wrap8_in,↓WX_ixa,ixaV_ptr,Int.toNat_natCast,Nat.mul_one,wr_of g2,st,cel_len,q9]);try simp only[yback])
   refine⟨by omega,?_⟩
   ((try simp (maxSteps:=3000000) (dsimp:=false) (disch:=first|omega|simp only[lnx];omega) only[↓ypre,ypost,↓reduceIte,reduceEqDiff,reduceAdd,reduceSub,reduceLeDiff,zz0,ynew,f0,f1,f2,f6,f7,f8,wrap64_in]);try simp only[yback])
   refine InvQ_go (w-(i+1)) (by omega) ⟨(i+1),(_),rfl,by omega,(by first|rfl|exact f0|(simp only[upd_apply];rfl)|(show I64 _=_;congr 1;omega)),(by first|rfl|exact f1|(simp only[upd_apply];rfl)|(show I64 _=_;congr 1;omega)),(by first|rfl|exact f2|(simp only[upd_apply];rfl)|(show I64 _=_;congr 1;omega)),(by first|rfl|exact f6|(simp only[upd_apply];rfl)|(show I64 _=_;congr 1;omega)),(by first|rfl|exact f7|(simp only[upd_apply];rfl)|(show I64 _=_;congr 1;omega)),(by first|rfl|exact f8|(simp only[upd_apply];rfl)|(show I64 _=_;congr 1;omega)),((kk.trans (k1.trans k2)).putb (by omega)),(s2.putb (by omega) (by have:=pre_len s.p;omega)),(fq.set (by omega) hr2 (by omega) (by omega)),(by rw[get_put_ne (by omega)];exact g1),(get_put_same (get_lt g2))⟩
  ·((try simp (maxSteps:=3000000) (dsimp:=false) (disch:=first|omega|simp only[lnx];omega) only[↓ypre,ypost,↓reduceIte,reduceEqDiff,reduceAdd,reduceSub,reduceLeDiff,zz0,ynew,f0,f1,f2,f6,f7,f8,decide_eq_false h0',wrap64_in]);try simp only[yback])
   refine InvQ_go (w-(i+1)) (by omega) ⟨(i+1),(_),rfl,by omega,(by first|rfl|exact f0|(simp only[upd_apply];rfl)|(show I64 _=_;congr 1;omega)),(by first|rfl|exact f1|(simp only[upd_apply];rfl)|(show I64 _=_;congr 1;omega)),(by first|rfl|exact f2|(simp only[upd_apply];rfl)|(show I64 _=_;congr 1;omega)),(by first|rfl|exact f6|(simp only[upd_apply];rfl)|(show I64 _=_;congr 1;omega)),(by first|rfl|exact f7|(simp only[upd_apply];rfl)|(show I64 _=_;congr 1;omega)),(by first|rfl|exact f8|(simp only[upd_apply];rfl)|(show I64 _=_;congr 1;omega)),(kk.trans k1),s1,fq,g1,g2⟩
 ·((try simp (maxSteps:=3000000) (dsimp:=false) (disch:=first|omega|simp only[lnx];omega) only[↓ypre,ypost,↓reduceIte,reduceEqDiff,reduceAdd,reduceSub,reduceLeDiff,zz0,ynew,f0,f1,f2,f6,f7,f8,decide_eq_false hlt]);try simp only[yback])
  have t9:∀ q:List Int,q.length=9→(cel .u8 q).take 9=cel .u8 q:=fun q h=>List.take_of_length_le (by rw[cel_len,h];exact Nat.le_refl _)
  have fin:∀ (q':List Int) (h':AH),FQ p w q'→isZ q'=false→Kp n h h'→Src h0 h' n→h'.get h.length=some ⟨cel .u8 (List.replicate 9 0),136,false,true⟩ →
    Q (aggV .u8 q') (h'.put h.length ⟨cel .u8 q',136,false,true⟩):=fun q' h' fq' z kp' ss' g=>
   hQ q' _ (kp'.putb (Nat.le_refl _)) (ss'.putb (by omega) (pre_len s.p)) fq' z
  ((try simp (maxSteps:=3000000) (dsimp:=false) (disch:=first|omega|simp only[lnx];omega) only[↓ypre,ypost,↓reduceIte,reduceEqDiff,reduceAdd,reduceSub,reduceLeDiff,zz0,ynew,f0,f1,f2,f6,f7,f8,rdn_of hg2,cel_len,q9,t9]);try simp only[yback])
  refine s_l01Zero q9 fun h1 p1'=>?_
  have g1:=pre_get p1' hg1
  have g2:=pre_get p1' hg2
  cases z:isZ q with
  | true=>
   ((try simp (maxSteps:=3000000) (dsimp:=false) (disch:=first|omega|simp only[lnx];omega) only[↓ypre,ypost,↓reduceIte,reduceEqDiff,reduceAdd,reduceSub,reduceLeDiff,zz0,ynew,f0,f1,f2,f6,f7,f8]);try simp only[yback])
   refine s_l01Next (ss.kp p1') fun r h2 k2 l2 s2 hr _=>?_
   ((try simp (maxSteps:=3000000) (dsimp:=false) (disch:=first|omega|simp only[lnx];omega) only[↓ypre,ypost,↓reduceIte,reduceEqDiff,reduceAdd,reduceSub,reduceLeDiff,zz0,ynew,f0,f1,f2,f6,f7,f8,wrap64_in]);try simp only[yback])
   refine s_l01Next s2 fun r2 h3 k3 l3 s3 hr2 _=>?_
   have g1:=(k2.trans k3).get (by omega) g1
   have g2:=(k2.trans k3).get (by omega) g2
   have hr:=hr (by omega)
   have hr2:=hr2 (by omega)
   obtain⟨j,rfl⟩:∃ j:Nat,r=j:=⟨r.toNat,by omega⟩
   have st:=cel_set (k:=.u8) (q:=q) (j:=j) (x:=1+r2) (by omega)
   ((try simp (maxSteps:=3000000) (dsimp:=false) (disch:=first|omega|simp only[lnx];omega) only[↓ypre,ypost,↓reduceIte,reduceEqDiff,reduceAdd,reduceSub,reduceLeDiff,zz0,ynew,f0,f1,f2,f6,f7,f8,wrap64_in,wrap8_in,↓WX_ixa,ixaV_ptr,Int.toNat_natCast,Nat.mul_one,wr_of g2,st,cel_len,q9]);try simp only[yback])
   refine⟨by omega,?_⟩
   have fq':FQ p w (q.set j (1+r2)):=fq.set (by omega) (by omega) (by omega) (by omega)
   generalize hP:AH.put h3 _ _=H5
   have g5:H5.get H1.length=some ⟨cel .u8 (q.set j (1+r2)),136,false,true⟩:=by rw[←hP];exact get_put_same (get_lt g2)
   have g51:H5.get h.length=some ⟨cel .u8 (List.replicate 9 0),136,false,true⟩:=by rw[←hP,get_put_ne (by omega)];exact g1
   have w5:=wr_full (vs:=cel .u8 (q.set j (1+r2))) g51 (by rw[cel_len,cel_len,fq'.1.1];rfl)
   have s5:Src h0 H5 n:=by rw[←hP];exact s3.putb (by omega) (by have:=pre_len s.p;omega)
   have k5:Kp n h H5:=by rw[←hP];exact (((kk.trans (Kp.of p1')).trans k2).trans k3).putb (by omega)
   have lg:=get_lt g51
   have l9:=fq'.1.1
   ((try simp (maxSteps:=3000000) (dsimp:=false) (disch:=first|omega|simp only[lnx];omega) only[↓ypre,ypost,↓reduceIte,reduceEqDiff,reduceAdd,reduceSub,reduceLeDiff,zz0,ynew,f0,f1,f2,f6,f7,f8,rdn_of g5,cel_len,l9,t9,cel_all,w5,rdn_put_same]);try simp only[yback])
   exact fin _ _ fq' (isZ_set q9 (by omega) (by omega)) k5 s5 g51
  | false=>
   have w5:=wr_full (vs:=cel .u8 q) g1 (by rw[cel_len,cel_len,q9];rfl)
   have lg:=get_lt g1
   ((try simp (maxSteps:=3000000) (dsimp:=false) (disch:=first|omega|simp only[lnx];omega) only[↓ypre,ypost,↓reduceIte,reduceEqDiff,reduceAdd,reduceSub,reduceLeDiff,zz0,ynew,f0,f1,f2,f6,f7,f8,rdn_of g2,cel_len,q9,t9,cel_all,w5,rdn_put_same]);try simp only[yback])
   exact fin _ _ fq z (kk.trans (Kp.of p1')) (ss.kp p1') g1
end Go.Proofs.Ytapafdpnmakekaa.X

set_option linter.unusedVariables false
set_option linter.unusedSimpArgs false
set_option maxRecDepth 20000
set_option maxHeartbeats 4000000
namespace Go.Proofs.Ytapafdpnmakekaa.X
open Go Go.RowKit
end Go.Proofs.Ytapafdpnmakekaa.X

set_option linter.unusedVariables false
set_option linter.unusedSimpArgs false
set_option maxRecDepth 20000
set_option maxHeartbeats 4000000
namespace Go.Proofs.Ytapafdpnmakekaa.X
open Go Go.RowKit
open Nat (reduceEqDiff reduceAdd reduceSub reduceLeDiff)
def o9:List Int:=List.replicate 9 0
def un9 (a:Nat):List Int:=o9.set a 1
def un27 (a b c:Nat):List Int:=un9 a++(un9 b++un9 c)
theorem un9_len {a:Nat}:(un9 a).length=9:=by simp[un9,o9]
theorem un27_len {a b c:Nat}:(un27 a b c).length=27:=by simp[un27,un9_len]
theorem un27_set {a b c:Nat} (ha:a<9) (hb:b<9) (hc:c<9):(((List.replicate 27 0).set a 1).set (9+b) 1).set (18+c) 1=un27 a b c:=by
 have e:List.replicate 27 (0:Int)=o9++(o9++o9):=rfl
 have lz:o9.length=9:=rfl
 have l1:(o9.set a 1).length=9:=by rw[List.length_set,lz]
 have l2:(o9.set b 1).length=9:=by rw[List.length_set,lz]
 rw[e,List.set_append_left _ _ (by rw[lz];exact ha),List.set_append_right _ _ (by rw[l1];omega),List.set_append_right _ _ (by rw[l1];omega),l1,Nat.add_sub_cancel_left,
  List.set_append_left _ _ (by rw[lz];exact hb),List.set_append_right _ _ (by rw[l2];omega),l2]
 rw[show 18+c-9-9=c by omega]
 rfl
theorem un9_in {a j:Nat}:0≤(un9 a).getD j 0∧(un9 a).getD j 0≤1:=by
 unfold un9
 rw[List.getD_eq_getElem?_getD,List.getElem?_set]
 split
 ·split<;>simp
 ·unfold o9
  rw[List.getElem?_replicate]
  split<;>simp
theorem un27_in {a b c j:Nat}:0≤(un27 a b c).getD j 0∧(un27 a b c).getD j 0≤255:=by
 unfold un27
 by_cases h:j<9
 ·rw[getD_app_l (by rw[un9_len];exact h)]
  have:=un9_in (a:=a) (j:=j)
  omega
 ·rw[getD_app_r (by rw[un9_len];omega),un9_len]
  by_cases h2:j-9<9
  ·rw[getD_app_l (by rw[un9_len];exact h2)]
   have:=un9_in (a:=b) (j:=j-9)
   omega
  ·rw[getD_app_r (by rw[un9_len];omega),un9_len]
   have:=un9_in (a:=c) (j:=j-9-9)
   omega
def stdG (m k t:Nat):List Int:=un27 (t / k / m*m+t / k%m) (t / k%m*k+t%k) (t / k / m*k+t%k)
def stdL (m k:Nat):Nat→List (List Int)
 | 0=>[]
 | t+1=>stdL m k t++[stdG m k t]
theorem stdL_len {m k:Nat}:∀ {t:Nat},(stdL m k t).length=t
 | 0=>rfl
 | t+1=>by simp[stdL,stdL_len (t:=t)]
theorem stdL_byt {m k:Nat}:∀ {t:Nat},Byt 27 (stdL m k t)
 | 0=>fun i hi=>by simp[stdL] at hi
 | t+1=>fun i hi j hj=>by
  rw[stdL_len] at hi
  unfold stdL
  by_cases h:i<t
  ·rw[getD_app_l (by rw[stdL_len];exact h)]
   exact stdL_byt (t:=t) i (by rw[stdL_len];exact h) j hj
  ·rw[getD_app_r (by rw[stdL_len];omega),stdL_len,show i-t=0 by omega]
   exact un27_in
theorem stdG_at {m k i j l:Nat} (hj:j<m) (hl:l<k):stdG m k ((i*m+j)*k+l)=un27 (i*m+j) (j*k+l) (i*k+l):=by
 unfold stdG
 have e1:((i*m+j)*k+l) / k=i*m+j:=by
  rw[Nat.mul_comm,Nat.mul_add_div (by omega),Nat.div_eq_of_lt hl,Nat.add_zero]
 have e2:((i*m+j)*k+l)%k=l:=by
  rw[Nat.mul_comm,Nat.mul_add_mod,Nat.mod_eq_of_lt hl]
 have e3:(i*m+j) / m=i:=by
  rw[Nat.mul_comm,Nat.mul_add_div (by omega),Nat.div_eq_of_lt hj,Nat.add_zero]
 have e4:(i*m+j)%m=j:=by
  rw[Nat.mul_comm,Nat.mul_add_mod,Nat.mod_eq_of_lt hj]
 rw[e1,e2,e3,e4]
def stdX (p n m k:Int):Sch:=⟨p,n,m,k,stdL m.toNat k.toNat (n*m*k).toNat⟩
theorem splice_27 {q:List Int} (hq:q.length=27):splice [.int .u8 0,.int .u8 0,.int .u8 0,.int .u8 0,.int .u8 0,.int .u8 0,.int .u8 0,.int .u8 0,.int .u8 0,.int .u8 0,.int .u8 0,.int .u8 0,.int .u8 0,.int .u8 0,.int .u8 0,.int .u8 0,.int .u8 0,.int .u8 0,.int .u8 0,.int .u8 0,.int .u8 0,.int .u8 0,.int .u8 0,.int .u8 0,.int .u8 0,.int .u8 0,.int .u8 0] 0 (cel .u8 q)=cel .u8 q:=by
 rw[splice_eq,cel_len,hq]
 simp
theorem splice_lenW {c vs:List Value} {off:Nat} (h:off+vs.length≤c.length):(splice c off vs).length=c.length:=by
 rw[splice_eq]
 simp
 omega
theorem wr_27 {h1:AH} {e:TypeId}:(h1.new ⟨[.int .u8 0,.int .u8 0,.int .u8 0,.int .u8 0,.int .u8 0,.int .u8 0,.int .u8 0,.int .u8 0,.int .u8 0,.int .u8 0,.int .u8 0,.int .u8 0,.int .u8 0,.int .u8 0,.int .u8 0,.int .u8 0,.int .u8 0,.int .u8 0,.int .u8 0,.int .u8 0,.int .u8 0,.int .u8 0,.int .u8 0,.int .u8 0,.int .u8 0,.int .u8 0,.int .u8 0],e,false,true⟩).wr h1.length 0 [.int .u8 0,.int .u8 0,.int .u8 0,.int .u8 0,.int .u8 0,.int .u8 0,.int .u8 0,.int .u8 0,.int .u8 0,.int .u8 0,.int .u8 0,.int .u8 0,.int .u8 0,.int .u8 0,.int .u8 0,.int .u8 0,.int .u8 0,.int .u8 0,.int .u8 0,.int .u8 0,.int .u8 0,.int .u8 0,.int .u8 0,.int .u8 0,.int .u8 0,.int .u8 0,.int .u8 0]=some (h1.new ⟨cel .u8 (List.replicate 27 0),e,false,true⟩):=wr_all rfl
theorem wr_set1 {h1:AH} {e:TypeId} {q:List Int} {j:Nat} {x:Int} (hj:j<q.length):(h1.new ⟨cel .u8 q,e,false,true⟩).wr h1.length j [.int .u8 x]=some (h1.new ⟨cel .u8 (q.set j x),e,false,true⟩):=by
 rw[wr_new_same,if_pos ⟨rfl,by rw[cel_len];simp only[List.length_singleton];omega⟩,cel_set hj]
theorem s_l01Standard {p n m k:Int} {h:AH} {Q:Value→AH→Prop} (z:SZ (stdX p n m k)) (hQ:∀ v' h',h<+:h'→InX h.length h'.length h' v' (stdX p n m k).ps→Q (schV (stdX p n m k) v') h'):WF S 303 [I64 p,I64 n,I64 m,I64 k] h Q:=by
 obtain⟨zp,zn,zm,zk,znm,zmk,znk⟩:=z
 simp only[stdX] at zp zn zm zk znm zmk znk
 unfold stdX at hQ
 obtain⟨N,rfl⟩:∃ N:Nat,n=N:=⟨n.toNat,by omega⟩
 obtain⟨M,rfl⟩:∃ N:Nat,m=N:=⟨m.toNat,by omega⟩
 obtain⟨K,rfl⟩:∃ N:Nat,k=N:=⟨k.toNat,by omega⟩
 rw[Int.toNat_natCast,Int.toNat_natCast,show (N:Int)*(M:Int)*(K:Int)=((N*M*K:Nat):Int) by push_cast;rfl,Int.toNat_natCast] at hQ
 have enm:(N:Int)*(M:Int)=((N*M:Nat):Int):=by push_cast;rfl
 have emk:(M:Int)*(K:Int)=((M*K:Nat):Int):=by push_cast;rfl
 have enk:(N:Int)*(K:Int)=((N*K:Nat):Int):=by push_cast;rfl
 have zijk:N*M*K≤27:=by
  have:=mul_in1 (A:=9) (B:=3) znm zk
  rw[enm,←Int.natCast_mul] at this
  omega
 rw[enm] at znm
 rw[emk] at zmk
 rw[enk] at znk
 refine WF_fn (fn:=c303) rfl rfl ?_
 dsimp only[c303,oO,oM,oS,oG,oK,oE,oL,oF,oX,oN]
 try simp (maxSteps:=3000000) (disch:=first|omega|simp only[lnx];omega) only[↓xpre,xpost,↓reduceIte,reduceEqDiff,reduceAdd,reduceSub,reduceLeDiff,zz0]
 generalize hH1:AH.new h _=H1
 obtain⟨hb1,p1,n1⟩:=new_facts hH1
 try simp (maxSteps:=3000000) (disch:=first|omega|simp only[lnx];omega) only[↓xpre,xpost,↓reduceIte,reduceEqDiff,reduceAdd,reduceSub,reduceLeDiff,zz0,zrep,fillL]
 generalize hH2:AH.new H1 _=H2
 obtain⟨hb2,p2,n2⟩:=new_facts hH2
 try simp (maxSteps:=3000000) (disch:=first|omega|simp only[lnx];omega) only[↓xpre,xpost,↓reduceIte,reduceEqDiff,reduceAdd,reduceSub,reduceLeDiff,zz0,zrep,fillL,wr_all]
 generalize hH3:AH.new H2 _=H3
 obtain⟨hb3,p3,n3⟩:=new_facts hH3
 have w0:WayE (138) .u8 27 H3 H1.length H2.length (.slice (some ⟨H1.length,0,none⟩) 0 27) (stdL M K 0):=⟨fun r hr=>by simp[stdL] at hr,.inr ⟨H1.length,true,rfl,Nat.le_refl _,by omega,pre_get p3 hb2⟩⟩
 refine WC_loop_inv (fun m f K1=>∃ (i:Nat) (sv:Value),m=N-i∧i≤N∧f 1=I64 N∧f 2=I64 M∧f 3=I64 K∧f 8=.pointer (some ⟨h.length,0,none⟩)∧f 9=.pointer (some ⟨H2.length,0,none⟩)∧f 10=I64 i∧(H1<+:K1)∧(H3.length≤K1.length)∧(OwnB K1 H2.length [I64 p,I64 N,I64 M,I64 K,sv] true)∧(WayE (138) .u8 27 K1 H1.length H2.length sv (stdL M K (i*M*K)))) ?_ (N-0) _ _ ⟨0,.slice (some ⟨H1.length,0,none⟩) 0 27,rfl,by omega,(by first|rfl|simp[upd_apply]),(by first|rfl|simp[upd_apply]),(by first|rfl|simp[upd_apply]),(by first|rfl|simp[upd_apply]),(by first|rfl|simp[upd_apply]),(by first|rfl|simp[upd_apply]),p2.trans p3,Nat.le_refl _,⟨_,hb3⟩,(by rw[Nat.zero_mul,Nat.zero_mul];exact w0)⟩
 rintro m f K1 ⟨i,sv,rfl,hi,f1,f2,f3,f8,f9,f10,pp,l1,g,w⟩
 by_cases hla:(i:Int)<N
 ·try simp (maxSteps:=3000000) (disch:=first|omega|simp only[lnx];omega) only[↓xpre,xpost,↓reduceIte,reduceEqDiff,reduceAdd,reduceSub,reduceLeDiff,zz0,f1,f2,f3,f8,f9,f10,decide_eq_true hla]
  refine WC_loop_inv (fun m f K2=>∃ (j:Nat) (sv:Value),m=M-j∧j≤M∧f 1=I64 N∧f 2=I64 M∧f 3=I64 K∧f 8=.pointer (some ⟨h.length,0,none⟩)∧f 9=.pointer (some ⟨H2.length,0,none⟩)∧f 10=I64 i∧f 11=I64 j∧(H1<+:K2)∧(H3.length≤K2.length)∧(OwnB K2 H2.length [I64 p,I64 N,I64 M,I64 K,sv] true)∧(WayE (138) .u8 27 K2 H1.length H2.length sv (stdL M K ((i*M+j)*K)))) ?_ (M-0) _ _ ⟨0,sv,rfl,by omega,(by first|rfl|exact f1|(simp[upd_apply];done)),(by first|rfl|exact f2|(simp[upd_apply];done)),(by first|rfl|exact f3|(simp[upd_apply];done)),(by first|rfl|exact f8|(simp[upd_apply];done)),(by first|rfl|exact f9|(simp[upd_apply];done)),(by first|rfl|exact f10|(simp[upd_apply];done)),(by first|rfl|simp[upd_apply]),pp,l1,g,(by rw[Nat.add_zero];exact w)⟩
  rintro m f K2 ⟨j,sv,rfl,hj,f1,f2,f3,f8,f9,f10,f11,pp,l1,g,w⟩
  by_cases hlb:(j:Int)<M
  ·try simp (maxSteps:=3000000) (disch:=first|omega|simp only[lnx];omega) only[↓xpre,xpost,↓reduceIte,reduceEqDiff,reduceAdd,reduceSub,reduceLeDiff,zz0,f1,f2,f3,f8,f9,f10,f11,decide_eq_true hlb]
   refine WC_loop_inv (fun m f K3=>∃ (l:Nat) (sv:Value),m=K-l∧l≤K∧f 1=I64 N∧f 2=I64 M∧f 3=I64 K∧f 8=.pointer (some ⟨h.length,0,none⟩)∧f 9=.pointer (some ⟨H2.length,0,none⟩)∧f 10=I64 i∧f 11=I64 j∧f 12=I64 l∧(H1<+:K3)∧(H3.length≤K3.length)∧(OwnB K3 H2.length [I64 p,I64 N,I64 M,I64 K,sv] true)∧(WayE (138) .u8 27 K3 H1.length H2.length sv (stdL M K ((i*M+j)*K+l)))) ?_ (K-0) _ _ ⟨0,sv,rfl,by omega,(by first|rfl|exact f1|(simp[upd_apply];done)),(by first|rfl|exact f2|(simp[upd_apply];done)),(by first|rfl|exact f3|(simp[upd_apply];done)),(by first|rfl|exact f8|(simp[upd_apply];done)),(by first|rfl|exact f9|(simp[upd_apply];done)),(by first|rfl|exact f10|(simp[upd_apply];done)),(by first|rfl|exact f11|(simp[upd_apply];done)),(by first|rfl|simp[upd_apply]),pp,l1,g,w⟩
   rintro m f K3 ⟨l,sv,rfl,hl,f1,f2,f3,f8,f9,f10,f11,f12,pp,l1,g,w⟩
   by_cases hlc:(l:Int)<K
   ·have m1:i*M+M≤N*M:=mul_row (by omega)
    have m2:(i*M+j)*K+K≤N*M*K:=mul_row (by omega)
    have m3:j*K+K≤M*K:=mul_row (by omega)
    have m4:i*K+K≤N*K:=mul_row (by omega)
    have e1:(i:Int)*(M:Int)=((i*M:Nat):Int):=by push_cast;rfl
    have e2:((i*M:Nat):Int)+(j:Int)=((i*M+j:Nat):Int):=by push_cast;rfl
    have e3:(j:Int)*(K:Int)=((j*K:Nat):Int):=by push_cast;rfl
    have e4:((j*K:Nat):Int)+(l:Int)=((j*K+l:Nat):Int):=by push_cast;rfl
    have e5:(i:Int)*(K:Int)=((i*K:Nat):Int):=by push_cast;rfl
    have e6:((i*K:Nat):Int)+(l:Int)=((i*K+l:Nat):Int):=by push_cast;rfl
    have lt27:(i*M+j)*K+l<27:=by omega
    obtain⟨eg,hg⟩:=g
    have hgn:∀ b,(AH.new K3 b).get H2.length=some ⟨[I64 p,I64 N,I64 M,I64 K,sv],eg,false,true⟩:=fun b=>get_new_any hg
    have w2:∀ e:TypeId,(K3.new ⟨cel .u8 (List.replicate 27 0),e,false,true⟩).wr K3.length (i*M+j) [.int .u8 1]=_:=fun e=>wr_set1 (by rw[List.length_replicate];omega)
    have w3:∀ e:TypeId,(K3.new ⟨cel .u8 ((List.replicate 27 0).set (i*M+j) 1),e,false,true⟩).wr K3.length (9+(j*K+l)) [.int .u8 1]=_:=fun e=>wr_set1 (by rw[List.length_set,List.length_replicate];omega)
    have w4:∀ e:TypeId,(K3.new ⟨cel .u8 (((List.replicate 27 0).set (i*M+j) 1).set (9+(j*K+l)) 1),e,false,true⟩).wr K3.length (18+(i*K+l)) [.int .u8 1]=_:=fun e=>wr_set1 (by rw[List.length_set,List.length_set,List.length_replicate];omega)
    rw[un27_set (by omega) (by omega) (by omega)] at w4
    have r1:∀ e:TypeId,(K3.new ⟨cel .u8 (un27 (i*M+j) (j*K+l) (i*K+l)),e,false,true⟩).rdn K3.length 0 27=some (cel .u8 (un27 (i*M+j) (j*K+l) (i*K+l))):=fun e=>by
     rw[rdn_new_same,if_pos (by simp only[cel_len,un27_len];omega),List.drop_zero,List.take_of_length_le (by rw[cel_len,un27_len];omega)]
    have sp1:=splice_27 (q:=un27 (i*M+j) (j*K+l) (i*K+l)) un27_len
    ((try simp (maxSteps:=3000000) (dsimp:=false) (disch:=first|omega|simp only[lnx];omega) only[↓ypre,ypost,↓reduceIte,reduceEqDiff,reduceAdd,reduceSub,reduceLeDiff,zz0,f1,f2,f3,f8,f9,f10,f11,f12,decide_eq_true hlc,wr_27,e1,e2,e3,e4,e5,e6,wrap64_in,ixaV_ptr,Int.toNat_natCast,Nat.mul_one,w2,w3,w4,r1,sp1,cel_all,cel_len,un27_len,rd1_of (hgn _)]);try simp only[yback])
    generalize hK4:AH.new K3 _=K4
    obtain⟨hb4,p4,n4⟩:=new_facts hK4
    refine (w.pre p4).app un27_len (by rw[stdL_len];omega) (by rw[stdL_len];omega) (by omega) (by omega) fun sv' H' l' pre' _ own' w'=>?_
    obtain⟨e5,g5⟩:=own' _ _ ⟨eg,pre_get p4 hg⟩
    have lt5:=get_lt g5
    ((try simp (maxSteps:=3000000) (dsimp:=false) (disch:=first|omega|simp only[lnx];omega) only[↓ypre,ypost,↓reduceIte,reduceEqDiff,reduceAdd,reduceSub,reduceLeDiff,zz0,ynew,f1,f2,f3,f8,f9,f10,f11,f12,w'.one,w'.cells,wr_of g5,wrap64_in]);try simp only[yback])
    have lts:=lt27
    refine InvQ_go (K-(l+1)) (by omega) ⟨(l+1),sv',rfl,by omega,(by first|rfl|exact f1|(simp only[upd_apply];rfl)|(show I64 _=_;congr 1;omega)),(by first|rfl|exact f2|(simp only[upd_apply];rfl)|(show I64 _=_;congr 1;omega)),(by first|rfl|exact f3|(simp only[upd_apply];rfl)|(show I64 _=_;congr 1;omega)),(by first|rfl|exact f8|(simp only[upd_apply];rfl)|(show I64 _=_;congr 1;omega)),(by first|rfl|exact f9|(simp only[upd_apply];rfl)|(show I64 _=_;congr 1;omega)),(by first|rfl|exact f10|(simp only[upd_apply];rfl)|(show I64 _=_;congr 1;omega)),(by first|rfl|exact f11|(simp only[upd_apply];rfl)|(show I64 _=_;congr 1;omega)),(by first|rfl|exact f12|(simp only[upd_apply];rfl)|(show I64 _=_;congr 1;omega)),(pre_put (pre' _ (Nat.le_refl _) (pp.trans p4)) (by omega)),(by rw[len_put];omega),⟨_,get_put_same lt5⟩,(by have:=w'.put (b:=⟨[I64 p,I64 N,I64 M,I64 K,sv'],e5,false,true⟩);rw[←stdG_at (by omega) (by omega)] at this;exact this)⟩
   ·have ec:l=K:=by omega
    subst ec
    try simp (maxSteps:=3000000) (disch:=first|omega|simp only[lnx];omega) only[↓xpre,xpost,↓reduceIte,reduceEqDiff,reduceAdd,reduceSub,reduceLeDiff,zz0,f1,f2,f3,f8,f9,f10,f11,f12,decide_eq_false hlc,wrap64_in]
    refine InvQ_go (M-(j+1)) (by omega) ⟨(j+1),sv,rfl,by omega,(by first|rfl|exact f1|(simp only[upd_apply];rfl)|(show I64 _=_;congr 1;omega)),(by first|rfl|exact f2|(simp only[upd_apply];rfl)|(show I64 _=_;congr 1;omega)),(by first|rfl|exact f3|(simp only[upd_apply];rfl)|(show I64 _=_;congr 1;omega)),(by first|rfl|exact f8|(simp only[upd_apply];rfl)|(show I64 _=_;congr 1;omega)),(by first|rfl|exact f9|(simp only[upd_apply];rfl)|(show I64 _=_;congr 1;omega)),(by first|rfl|exact f10|(simp only[upd_apply];rfl)|(show I64 _=_;congr 1;omega)),(by first|rfl|exact f11|(simp only[upd_apply];rfl)|(show I64 _=_;congr 1;omega)),pp,l1,g,(by rw[show (i*M+(j+1))*l=(i*M+j)*l+l by rw[←Nat.add_assoc,Nat.succ_mul]];exact w)⟩
  ·have eb:j=M:=by omega
   subst eb
   try simp (maxSteps:=3000000) (disch:=first|omega|simp only[lnx];omega) only[↓xpre,xpost,↓reduceIte,reduceEqDiff,reduceAdd,reduceSub,reduceLeDiff,zz0,f1,f2,f3,f8,f9,f10,f11,decide_eq_false hlb,wrap64_in]
   refine InvQ_go (N-(i+1)) (by omega) ⟨(i+1),sv,rfl,by omega,(by first|rfl|exact f1|(simp only[upd_apply];rfl)|(show I64 _=_;congr 1;omega)),(by first|rfl|exact f2|(simp only[upd_apply];rfl)|(show I64 _=_;congr 1;omega)),(by first|rfl|exact f3|(simp only[upd_apply];rfl)|(show I64 _=_;congr 1;omega)),(by first|rfl|exact f8|(simp only[upd_apply];rfl)|(show I64 _=_;congr 1;omega)),(by first|rfl|exact f9|(simp only[upd_apply];rfl)|(show I64 _=_;congr 1;omega)),(by first|rfl|exact f10|(simp only[upd_apply];rfl)|(show I64 _=_;congr 1;omega)),pp,l1,g,(by rw[Nat.succ_mul];exact w)⟩
 ·have ea:i=N:=by omega
  subst ea
  obtain⟨e6,g6⟩:=g
  have hb1K:=pre_get pp hb1
  have lt2:=get_lt hb1K
  try simp (maxSteps:=3000000) (disch:=first|omega|simp only[lnx];omega) only[↓xpre,xpost,↓reduceIte,reduceEqDiff,reduceAdd,reduceSub,reduceLeDiff,zz0,f1,f2,f3,f8,f9,f10,decide_eq_false hla,rdn_of g6,wr_of hb1K]
  exact⟨w.one,hQ sv _ (pre_put (p1.trans pp) (Nat.le_refl _)) ⟨(w.putb (by omega)).inE.mono (by omega) (Nat.le_refl _),stdL_byt⟩⟩
theorem sp27 {a b c:List Int} (ha:a.length=9) (hb:b.length=9) (hc:c.length=9) :
  (splice (cel .u8 (List.replicate 27 0)) 0 (cel .u8 a)).length=27∧(splice (splice (cel .u8 (List.replicate 27 0)) 0 (cel .u8 a)) 9 (cel .u8 b)).length=27 ∧
  splice (splice (splice (cel .u8 (List.replicate 27 0)) 0 (cel .u8 a)) 9 (cel .u8 b)) 18 (cel .u8 c)=cel .u8 (a++b++c):=by
 have l27:(cel .u8 (List.replicate 27 0)).length=27:=rfl
 have s1:(splice (cel .u8 (List.replicate 27 0)) 0 (cel .u8 a)).length=27:=by rw[splice_lenW (by rw[cel_len,ha,l27];omega),l27]
 have s2:(splice (splice (cel .u8 (List.replicate 27 0)) 0 (cel .u8 a)) 9 (cel .u8 b)).length=27:=by rw[splice_lenW (by rw[cel_len,hb,s1];omega),s1]
 refine⟨s1,s2,?_⟩
 rw[cel_splice,cel_splice,cel_splice]
 congr 1
 have h0:(List.replicate 27 (0:Int)).length=27:=rfl
 generalize List.replicate 27 (0:Int)=o at h0
 simp[List.take_append,List.drop_append,ha,hb,hc,h0,List.take_of_length_le,List.drop_of_length_le]
section
variable {a b c:List Int}
theorem seg_0 (ha:a.length=9):seg (a++b++c) 0=a:=by simp[seg,ha,List.append_assoc]
theorem seg_1 (ha:a.length=9) (hb:b.length=9):seg (a++b++c) 1=b:=by
 unfold seg
 rw[List.append_assoc,List.drop_append,List.drop_of_length_le (by omega),ha]
 simp[hb]
theorem seg_2 (ha:a.length=9) (hb:b.length=9) (hc:c.length=9):seg (a++b++c) 2=c:=by
 unfold seg
 rw[List.drop_append,List.drop_of_length_le (by simp[ha,hb]),List.length_append,ha,hb]
 simp[hc,List.take_of_length_le]
theorem by_27 (ha:By 9 a) (hb:By 9 b) (hc:By 9 c):By 27 (a++b++c):=by
 refine⟨by simp[ha.1,hb.1,hc.1],fun j hj=>?_⟩
 by_cases h1:j<9
 ·rw[List.append_assoc,getD_app_l (by rw[ha.1];exact h1)]
  exact ha.2 j h1
 ·by_cases h2:j<18
  ·rw[getD_app_l (by simp[ha.1,hb.1];omega),getD_app_r (by rw[ha.1];omega),ha.1]
   exact hb.2 _ (by omega)
  ·rw[getD_app_r (by simp[ha.1,hb.1];omega)]
   simp only[List.length_append,ha.1,hb.1]
   exact hc.2 _ (by omega)
end
theorem okProd_of {x:Sch} {a b c:List Int} (fa:FQ x.p (pl x 0) a) (fb:FQ x.p (pl x 1) b) (fc:FQ x.p (pl x 2) c) (za:isZ a=false) (zb:isZ b=false) (zc:isZ c=false):okProd x (a++b++c)=true:=by
 unfold okProd hasZ
 rw[seg_0 fa.1.1,seg_1 fa.1.1 fb.1.1,seg_2 fa.1.1 fb.1.1 fc.1.1,fa.2,fb.2,fc.2,za,zb,zc]
 rfl
theorem s_l01DrawOf {h0 h:AH} {n:Nat} {x:Sch} {v:Value} {Q:Value→AH→Prop} (s:Src h0 h n) (z:SZ x) (hv:isOne v=true)
  (hQ:∀ q h',Kp n h h'→Src h0 h' n→By 27 q→okProd x q=true→Q (aggV .u8 q) h'):WF S 305 [srcP n,schV x v] h Q:=by
 refine WF_fn (fn:=c305) rfl rfl ?_
 dsimp only[c305,oO,oM,oS,oG,oK,oE,oL,oF,oX,oN]
 have lt:=s.lt
 have l0:=pre_len s.p
 have znm:=z.nm
 have zmk:=z.mk2
 have znk:=z.nk
 obtain⟨A,hA⟩:∃ A:Nat,x.n*x.m=A:=⟨(x.n*x.m).toNat,by omega⟩
 obtain⟨B,hB⟩:∃ B:Nat,x.m*x.k=B:=⟨(x.m*x.k).toNat,by omega⟩
 obtain⟨C,hC⟩:∃ C:Nat,x.n*x.k=C:=⟨(x.n*x.k).toNat,by omega⟩
 ((try simp (maxSteps:=3000000) (dsimp:=false) (disch:=first|omega|simp only[lnx];omega) only[↓ypre,ypost,↓reduceIte,reduceEqDiff,reduceAdd,reduceSub,reduceLeDiff,zz0,ynew,schV,hv,zeros27]);try simp only[yback])
 generalize hH1:AH.new h _=H1
 obtain⟨hb1,p1,n1⟩:=new_facts hH1
 generalize hH2:AH.new H1 _=H2
 obtain⟨hb2,p2,n2⟩:=new_facts hH2
 have hb1:=pre_get p2 hb1
 ((try simp (maxSteps:=3000000) (dsimp:=false) (disch:=first|omega|simp only[lnx];omega) only[↓ypre,ypost,↓reduceIte,reduceEqDiff,reduceAdd,reduceSub,reduceLeDiff,zz0,ynew,rdn_of hb1,List.length_cons,List.length_nil,List.drop_zero,List.take_succ_cons,List.take_nil]);try simp only[yback])
 refine s_l01Lengths hv z fun H3 p3=>?_
 have k3:Kp n h H3:=Kp.of ((p1.trans p2).trans p3)
 have s3:Src h0 H3 n:=s.kp ((p1.trans p2).trans p3)
 have g1:=pre_get p3 hb1
 have g2:=pre_get p3 hb2
 rw[hA,hB,hC]
 ((try simp (maxSteps:=3000000) (dsimp:=false) (disch:=first|omega|simp only[lnx];omega) only[↓ypre,ypost,↓reduceIte,reduceEqDiff,reduceAdd,reduceSub,reduceLeDiff,zz0,ynew,rd1_of g1]);try simp only[yback])
 refine s_l01DrawForm s3 z.p (by omega) fun a H4 k4 s4 fa za=>?_
 have g1:=k4.get (by omega) g1
 have g2:=k4.get (by omega) g2
 ((try simp (maxSteps:=3000000) (dsimp:=false) (disch:=first|omega|simp only[lnx];omega) only[↓ypre,ypost,↓reduceIte,reduceEqDiff,reduceAdd,reduceSub,reduceLeDiff,zz0,ynew,rd1_of g1]);try simp only[yback])
 refine⟨k4,by omega,?_⟩
 refine s_l01DrawForm s4 z.p (by omega) fun b H5 k5 s5 fb zb=>?_
 have g1:=k5.get (by omega) g1
 have g2:=k5.get (by omega) g2
 ((try simp (maxSteps:=3000000) (dsimp:=false) (disch:=first|omega|simp only[lnx];omega) only[↓ypre,ypost,↓reduceIte,reduceEqDiff,reduceAdd,reduceSub,reduceLeDiff,zz0,ynew,rd1_of g1]);try simp only[yback])
 refine⟨k5,by omega,?_⟩
 refine s_l01DrawForm s5 z.p (by omega) fun c H6 k6 s6 fc zc=>?_
 have g2:=k6.get (by omega) g2
 have ha:=fa.1.1
 have hb:=fb.1.1
 have hc:=fc.1.1
 have lf:(a++b++c).length=27:=by simp[ha,hb,hc]
 have w5:=wr_full (vs:=cel .u8 (a++b++c)) g2 (by rw[cel_len,lf];rfl)
 have tk:(cel .u8 (a++b++c)).take 27=cel .u8 (a++b++c):=List.take_of_length_le (by rw[cel_len,lf];exact Nat.le_refl _)
 have lg:=get_lt g2
 obtain⟨sp1,sp2,sp3⟩:=sp27 ha hb hc
 ((try simp (maxSteps:=3000000) (dsimp:=false) (disch:=first|omega|simp only[lnx];omega) only[↓ypre,ypost,↓reduceIte,reduceEqDiff,reduceAdd,reduceSub,reduceLeDiff,zz0,ynew,aggV,zeros27,ha,hb,hc,List.length_replicate,sp1,sp2,sp3,cel_all,cel_len,lf,w5,rdn_put_same,tk]);try simp only[yback])
 refine hQ _ _ (Kp.putb (m:=H1.length) ((k3.trans (k4.trans k5)).trans k6) (by omega)) (Src.putb (m:=H1.length) s6 (by omega) (by omega)) (by_27 fa.1 fb.1 fc.1) (okProd_of ?_ ?_ ?_ za zb zc)
 ·show FQ x.p (x.n*x.m) a
  rw[hA];exact fa
 ·show FQ x.p (x.m*x.k) b
  rw[hB];exact fb
 ·show FQ x.p (x.n*x.k) c
  rw[hC];exact fc
theorem sz_of {n:Int} (h:n=1∨n=2∨n=3):sz n=true:=by
 rcases h with rfl|rfl|rfl<;>rfl
theorem isP_of {p:Int} (h:p=2∨p=3∨p=5):isP p=true:=by
 rcases h with rfl|rfl|rfl<;>rfl
theorem s_l01DrawSizes {h0 h:AH} {n:Nat} {Q:Value→AH→Prop} (s:Src h0 h n)
  (hQ:∀ (p a b c:Int) (nb:Nat) h',Kp n h h'→Src h0 h' n→h.length≤nb→h'.get nb=some ⟨[],138,false,true⟩→(p=2∨p=3∨p=5)→(a=1∨a=2∨a=3)→(b=1∨b=2∨b=3)→(c=1∨c=2∨c=3) →
   Q (schV ⟨p,a,b,c,[]⟩ (.slice (some ⟨nb,0,none⟩) 0 27)) h'):WF S 320 [srcP n] h Q:=by
 refine WF_fn (fn:=c320) rfl rfl ?_
 dsimp only[c320,oO,oM,oS,oG,oK,oE,oL,oF,oX,oN]
 have lt:=s.lt
 have l0:=pre_len s.p
 ((try simp (maxSteps:=3000000) (dsimp:=false) (disch:=first|omega|simp only[lnx];omega) only[↓ypre,ypost,↓reduceIte,reduceEqDiff,reduceAdd,reduceSub,reduceLeDiff,zz0,ynew]);try simp only[yback])
 generalize hH1:AH.new h _=H1
 obtain⟨hb1,p1,n1⟩:=new_facts hH1
 ((try simp (maxSteps:=3000000) (dsimp:=false) (disch:=first|omega|simp only[lnx];omega) only[↓ypre,ypost,↓reduceIte,reduceEqDiff,reduceAdd,reduceSub,reduceLeDiff,zz0,ynew,fillL,zrep]);try simp only[yback])
 generalize hH2:AH.new H1 _=H2
 obtain⟨hb2,p2,n2⟩:=new_facts hH2
 have kv:=kp_new (n:=n) (ns:=[2,2,2,3,5]) hH2 (by omega)
 refine s_l01Pick (s.kp (p1.trans p2)) kv (by simp) (by simp) fun j H3 k3 l3 s3 hj=>?_
 have hp:([2,2,2,3,5]:List Int).getD j 0=2∨([2,2,2,3,5]:List Int).getD j 0=3∨([2,2,2,3,5]:List Int).getD j 0=5:=by
  simp at hj
  have:j=0∨j=1∨j=2∨j=3∨j=4:=by omega
  rcases this with rfl|rfl|rfl|rfl|rfl<;>simp
 generalize ([2,2,2,3,5]:List Int).getD j 0=p at hp
 have g1:=k3.get (by omega) (pre_get p2 hb1)
 ((try simp (maxSteps:=3000000) (dsimp:=false) (disch:=first|omega|simp only[lnx];omega) only[↓ypre,ypost,↓reduceIte,reduceEqDiff,reduceAdd,reduceSub,reduceLeDiff,zz0,ynew,fillL,zrep]);try simp only[yback])
 generalize hH4:AH.new H3 _=H4
 obtain⟨hb4,p4,n4⟩:=new_facts hH4
 ((try simp (maxSteps:=3000000) (dsimp:=false) (disch:=first|omega|simp only[lnx];omega) only[↓ypre,ypost,↓reduceIte,reduceEqDiff,reduceAdd,reduceSub,reduceLeDiff,zz0,ynew,fillL,zrep]);try simp only[yback])
 generalize hH5:AH.new H4 _=H5
 obtain⟨hb5,p5,n5⟩:=new_facts hH5
 have k5:Kp n h H5:=(Kp.of (p1.trans p2)).trans (k3.trans (Kp.of (p4.trans p5)))
 have s5:Src h0 H5 n:=s3.kp (p4.trans p5)
 have g1:=pre_get (p4.trans p5) g1
 have g4:=pre_get p5 hb4
 have g5:=hb5
 have fin:∀ (a b c:Int) (h':AH),Kp n h h'→Src h0 h' n→h'.get h.length=some ⟨[.int .i64 0,.int .i64 0,.int .i64 0,.int .i64 0,.slice none 0 0],26,false,true⟩→h'.get H3.length=some ⟨[],138,false,true⟩ →
   (a=1∨a=2∨a=3)→(b=1∨b=2∨b=3)→(c=1∨c=2∨c=3) →
   Q (schV ⟨p,a,b,c,[]⟩ (.slice (some ⟨H3.length,0,none⟩) 0 27)) (h'.put h.length ⟨[I64 p,I64 a,I64 b,I64 c,.slice (some ⟨H3.length,0,none⟩) 0 27],26,false,true⟩):=fun a b c h' kk ss gg g4 ha hb hc=>
  hQ p a b c H3.length _ (kk.putb (Nat.le_refl _)) (ss.putb (by omega) (by omega)) (by omega) (by rw[get_put_ne (by omega)];exact g4) hp ha hb hc
 have pick3:∀ j,j<([1,2,3]:List Int).length→(([1,2,3]:List Int).getD j 0=1∨([1,2,3]:List Int).getD j 0=2∨([1,2,3]:List Int).getD j 0=3):=fun j hj=>by
  simp at hj
  have:j=0∨j=1∨j=2:=by omega
  rcases this with rfl|rfl|rfl<;>simp
 ((try simp (maxSteps:=3000000) (dsimp:=false) (disch:=first|omega|simp only[lnx];omega) only[↓ypre,ypost,↓reduceIte,reduceEqDiff,reduceAdd,reduceSub,reduceLeDiff,zz0,ynew]);try simp only[yback])
 refine s_l01Next s5 fun r H6 k6 l6 s6 hr _=>?_
 have g1:=k6.get (by omega) g1
 have g4:=k6.get (by omega) g4
 have g5:=k6.get (by omega) g5
 by_cases h0':r=0
 case neg=>
  have lg:=get_lt g1
  ((try simp (maxSteps:=3000000) (dsimp:=false) (disch:=first|omega|simp only[lnx];omega) only[↓ypre,ypost,↓reduceIte,reduceEqDiff,reduceAdd,reduceSub,reduceLeDiff,zz0,ynew,decide_eq_false h0',rdn_of g5,wr_of g1,splice_eq,rdn_put_same]);try simp only[yback])
  exact fin 2 2 2 H6 (k5.trans k6) s6 g1 g4 (by omega) (by omega) (by omega)
 ((try simp (maxSteps:=3000000) (dsimp:=false) (disch:=first|omega|simp only[lnx];omega) only[↓ypre,ypost,↓reduceIte,reduceEqDiff,reduceAdd,reduceSub,reduceLeDiff,zz0,ynew,decide_eq_true h0',fillL,zrep]);try simp only[yback])
 generalize hH7:AH.new H6 _=H7
 obtain⟨hb7,p7,n7⟩:=new_facts hH7
 have kv:=kp_new (n:=n) (ns:=[1,2,3]) hH7 (by omega)
 refine s_l01Pick (s6.kp p7) kv (by simp) (by simp) fun j1 H8 k8 l8 s8 hj1=>?_
 have ha:=pick3 j1 hj1
 generalize ([1,2,3]:List Int).getD j1 0=a at ha
 have g1:=k8.get (by omega) (pre_get p7 g1)
 have g4:=k8.get (by omega) (pre_get p7 g4)
 have g5:=k8.get (by omega) (pre_get p7 g5)
 have k8':Kp n h H8:=(k5.trans k6).trans ((Kp.of p7).trans k8)
 ((try simp (maxSteps:=3000000) (dsimp:=false) (disch:=first|omega|simp only[lnx];omega) only[↓ypre,ypost,↓reduceIte,reduceEqDiff,reduceAdd,reduceSub,reduceLeDiff,zz0,ynew,wr_of g5,splice_eq]);try simp only[yback])
 generalize hH9:AH.put H8 _ _=H9
 obtain⟨q9,l9,o9,u9⟩:=put_facts hH9
 have k9:=u9 _ _ k8' (by omega)
 have s9:=s8.put hH9 (by omega) (by omega)
 have g1:=q9 _ _ (by omega) g1
 have g4:=q9 _ _ (by omega) g4
 have g5':=o9 (get_lt g5)
 ((try simp (maxSteps:=3000000) (dsimp:=false) (disch:=first|omega|simp only[lnx];omega) only[↓ypre,ypost,↓reduceIte,reduceEqDiff,reduceAdd,reduceSub,reduceLeDiff,zz0,ynew,fillL,zrep]);try simp only[yback])
 generalize hH7:AH.new H9 _=HA
 obtain⟨hbA,pA,nA⟩:=new_facts hH7
 have kv:=kp_new (n:=n) (ns:=[1,2,3]) hH7 (by have:=s9.lt;omega)
 refine s_l01Pick (s9.kp pA) kv (by simp) (by simp) fun j2 HB kB lB sB hj2=>?_
 have hb:=pick3 j2 hj2
 generalize ([1,2,3]:List Int).getD j2 0=b at hb
 have g1:=kB.get (by omega) (pre_get pA g1)
 have g4:=kB.get (by omega) (pre_get pA g4)
 have g5:=kB.get (by omega) (pre_get pA g5')
 have kB':Kp n h HB:=k9.trans ((Kp.of pA).trans kB)
 ((try simp (maxSteps:=3000000) (dsimp:=false) (disch:=first|omega|simp only[lnx];omega) only[↓ypre,ypost,↓reduceIte,reduceEqDiff,reduceAdd,reduceSub,reduceLeDiff,zz0,ynew,wr_of g5,splice_eq]);try simp only[yback])
 generalize hHC:AH.put HB _ _=HC
 obtain⟨qC,lC,oC,uC⟩:=put_facts hHC
 have kC:=uC _ _ kB' (by omega)
 have sC:=sB.put hHC (by omega) (by omega)
 have g1:=qC _ _ (by omega) g1
 have g4:=qC _ _ (by omega) g4
 have g5':=oC (get_lt g5)
 ((try simp (maxSteps:=3000000) (dsimp:=false) (disch:=first|omega|simp only[lnx];omega) only[↓ypre,ypost,↓reduceIte,reduceEqDiff,reduceAdd,reduceSub,reduceLeDiff,zz0,ynew,fillL,zrep]);try simp only[yback])
 generalize hH7:AH.new HC _=HD
 obtain⟨hbD,pD,nD⟩:=new_facts hH7
 have kv:=kp_new (n:=n) (ns:=[1,2,3]) hH7 (by have:=sC.lt;omega)
 refine s_l01Pick (sC.kp pD) kv (by simp) (by simp) fun j3 HE kE lE sE hj3=>?_
 have hc:=pick3 j3 hj3
 generalize ([1,2,3]:List Int).getD j3 0=c at hc
 have g1:=kE.get (by omega) (pre_get pD g1)
 have g4:=kE.get (by omega) (pre_get pD g4)
 have g5:=kE.get (by omega) (pre_get pD g5')
 have kE':Kp n h HE:=kC.trans ((Kp.of pD).trans kE)
 have lg:=get_lt g1
 have lg5:=get_lt g5
 ((try simp (maxSteps:=3000000) (dsimp:=false) (disch:=first|omega|simp only[lnx];omega) only[↓ypre,ypost,↓reduceIte,reduceEqDiff,reduceAdd,reduceSub,reduceLeDiff,zz0,ynew,wr_of g5,wr_of g1,splice_eq,rdn_put_same]);try simp only[yback])
 exact hQ p a b c H3.length _ ((kE'.putb (m:=h.length) (Nat.le_refl _)).putb (m:=H4.length) (by omega)) ((sE.putb (m:=h.length) (by omega) (by omega)).putb (m:=H4.length) (by omega) (by omega)) (by omega) (by rw[get_put_ne (by omega),get_put_ne (by omega)];exact g4) hp ha hb hc
def stra (m:Int):List (List Int):=[[1,0,0,1,0,0,0,0,0,1,0,0,1,0,0,0,0,0,1,0,0,1,0,0,0,0,0],
 [0,0,1,1,0,0,0,0,0,1,0,0,0,0,0,0,0,0,0,0,1,m,0,0,0,0,0],
 [1,0,0,0,0,0,0,0,0,0,1,0,m,0,0,0,0,0,0,1,0,1,0,0,0,0,0],
 [0,0,0,1,0,0,0,0,0,m,0,1,0,0,0,0,0,0,1,0,1,0,0,0,0,0,0],
 [1,1,0,0,0,0,0,0,0,0,0,0,1,0,0,0,0,0,m,1,0,0,0,0,0,0,0],
 [m,0,1,0,0,0,0,0,0,1,1,0,0,0,0,0,0,0,0,0,0,1,0,0,0,0,0],
 [0,1,0,m,0,0,0,0,0,0,0,1,1,0,0,0,0,0,1,0,0,0,0,0,0,0,0]]
theorem app_zeroW {e:TypeId} {w bytes:Nat} {h:AH} {k n' off m:Nat} {news:List Value} {full:Bool} (hk:h.get k=some ⟨[],e,false,full⟩) (hn:h.rdn n' off (m*w)=some news) (hm:0<m)
  (hs:(m:Int)*bytes≤140737488355328∧(m:Int)≤9223372036854775807) :
  appV e w bytes (.slice (some ⟨k,0,none⟩) 0 w) (.slice (some ⟨n',off,none⟩) m w) h=some (.slice (some ⟨h.length,0,none⟩) m w,(h.kill k).new ⟨news,e,false,false⟩):=by
 simp only[appV,xop,ev,if_true,hn,hk]
 rw[if_pos (by simpa using hs),if_neg (by omega)]
 simp
theorem s_l01Strassen {h:AH} {p:Int} {Q:Value→AH→Prop} (hp:2≤p∧p≤5)
  (hQ:∀ (nb:Nat) (h':AH),h<+:h'→h.length≤nb→h'.get nb=some ⟨cel .u8 (stra (p-1)).flatten,138,false,false⟩→Q (schV ⟨p,2,2,2,stra (p-1)⟩ (.slice (some ⟨nb,0,none⟩) 7 27)) h'):WF S 321 [I64 p] h Q:=by
 refine WF_fn (fn:=c321) rfl rfl ?_
 dsimp only[c321,oO,oM,oS,oG,oK,oE,oL,oF,oX,oN]
 ((try simp (maxSteps:=3000000) (dsimp:=false) (disch:=first|omega|simp only[lnx];omega) only[↓ypre,ypost,↓reduceIte,reduceEqDiff,reduceAdd,reduceSub,reduceLeDiff,zz0,ynew]);try simp only[yback])
 generalize hH1:AH.new h _=H1
 obtain⟨hb1,p1,n1⟩:=new_facts hH1
 ((try simp (maxSteps:=3000000) (dsimp:=false) (disch:=first|omega|simp only[lnx];omega) only[↓ypre,ypost,↓reduceIte,reduceEqDiff,reduceAdd,reduceSub,reduceLeDiff,zz0,ynew,fillL,zrep]);try simp only[yback])
 generalize hH2:AH.new H1 _=H2
 obtain⟨hb2,p2,n2⟩:=new_facts hH2
 ((try simp (maxSteps:=3000000) (dsimp:=false) (disch:=first|omega|simp only[lnx];omega) only[↓ypre,ypost,↓reduceIte,reduceEqDiff,reduceAdd,reduceSub,reduceLeDiff,zz0,ynew,fillL,zrep]);try simp only[yback])
 generalize hH3:AH.new H2 _=H3
 obtain⟨hb3,p3,n3⟩:=new_facts hH3
 ((try simp (maxSteps:=3000000) (dsimp:=false) (disch:=first|omega|simp only[lnx];omega) only[↓ypre,ypost,↓reduceIte,reduceEqDiff,reduceAdd,reduceSub,reduceLeDiff,zz0,ynew,wrap64_in,wrap8_in,rd1_of hb3,zrep,fillL]);try simp only[yback])
 generalize hH4:AH.new H3 _=H4
 obtain⟨hb4,p4,n4⟩:=new_facts hH4
 have hb4:H4.get H3.length=some ⟨cel .u8 (stra (p-1)).flatten,138,false,true⟩:=hb4
 have g2:=pre_get (p3.trans p4) hb2
 have g3:=pre_get p4 hb3
 have g1:=pre_get (p2.trans (p3.trans p4)) hb1
 have l189:(cel .u8 (stra (p-1)).flatten).length=189:=rfl
 have rd:H4.rdn H3.length 0 (7*27)=some (cel .u8 (stra (p-1)).flatten):=by
  rw[rdn_of hb4]
  rfl
 rw[app_zeroW g2 rd (by omega) (by omega),OQ_some]
 generalize hH5:AH.new _ _=H5
 have k5:∀ m b,m≠H1.length→H4.get m=some b→H5.get m=some b:=fun m b hm g=>by
  rw[←hH5]
  exact get_new_any (by rw[get_kill_ne (Ne.symm hm)];exact g)
 have g5:H5.get H4.length=some ⟨cel .u8 (stra (p-1)).flatten,138,false,false⟩:=by
  rw[←hH5]
  exact get_new_eq (by rw[len_kill])
 have l5:H5.length=H4.length+1:=by rw[←hH5,len_new,len_kill]
 have q5:h<+:H5:=by
  rw[←hH5]
  exact pre_new (pre_kill (p1.trans (p2.trans (p3.trans p4))) (by omega))
 have g3:=k5 _ _ (by omega) g3
 have g1:=k5 _ _ (by omega) g1
 have lg:=get_lt g1
 have lg3:=get_lt g3
 ((try simp (maxSteps:=3000000) (dsimp:=false) (disch:=first|omega|simp only[lnx];omega) only[↓ypre,ypost,↓reduceIte,reduceEqDiff,reduceAdd,reduceSub,reduceLeDiff,zz0,ynew,wr_of g3,wr_of g1,splice_eq,rdn_put_same]);try simp only[yback])
 exact hQ H4.length _ (pre_put (pre_put q5 (Nat.le_refl _)) (by omega)) (by omega) (by rw[get_put_ne (by omega),get_put_ne (by omega)];exact g5)
end Go.Proofs.Ytapafdpnmakekaa.X

set_option linter.unusedVariables false
set_option linter.unusedSimpArgs false
set_option maxRecDepth 20000
set_option maxHeartbeats 4000000
namespace Go.Proofs.Ytapafdpnmakekaa.X
open Go Go.RowKit
section
variable {n m:Nat} {h0 h h' h'':AH}
theorem Kp.over (k:Kp n h h') (d:Kp m h' h'') (hm:h.length≤m):Kp n h h'':=⟨Nat.le_trans k.1 d.1,fun j hj hn=>(d.2 j (Nat.lt_of_lt_of_le hj k.1) (by omega)).trans (k.2 j hj hn)⟩
theorem Src.over (s:Src h0 h' n) (d:Kp m h' h'') (hm:m≠n) (hl:h0.length≤m):Src h0 h'' n:=s.keep (d.pre s.p hl) fun _ g=>d.get (Ne.symm hm) g
end
theorem app_kp {e:TypeId} {k:IntKind} {w bytes nb:Nat} {L:List (List Int)} {q:List Int} {full ro fu:Bool} {H:AH} {e':TypeId} (hk:H.get nb=some ⟨cel k L.flatten,e,false,full⟩) (hw:Wid w L) (hq:q.length=w)
  (hl:((L.length:Int)+1)*bytes≤140737488355328) (hn:(L.length:Int)<1048576) {Q:Value→AH→Prop}
  (hQ:∀ H':AH,H'.length=H.length+2→Kp nb H H'→H'.get (H.length+1)=some ⟨cel k (L++[q]).flatten,e,false,false⟩→Wid w (L++[q])→Q (.slice (some ⟨H.length+1,0,none⟩) (L.length+1) w) H') :
  OQ (appV e w bytes (.slice (some ⟨nb,0,none⟩) L.length w) (.slice (some ⟨H.length,0,none⟩) 1 w) (H.new ⟨cel k q,e',ro,fu⟩)) Q:=by
 have hr:(H.new ⟨cel k q,e',ro,fu⟩).rdn H.length 0 w=some (cel k q):=by
  rw[rdn_of get_new_same]
  simp only
  rw[if_pos (by rw[cel_len,hq];omega),List.drop_zero,List.take_of_length_le (by rw[cel_len,hq];omega)]
 have hk':(H.new ⟨cel k q,e',ro,fu⟩).get nb=some ⟨cel k L.flatten,e,false,full⟩:=get_new_any hk
 have hkb:=get_lt hk
 rw[app_ownW hk' (by rw[cel_len,flat_len hw]) hr ⟨hl,by omega⟩,OQ_some,len_new]
 refine hQ _ (by rw[len_new,len_kill,len_new]) ⟨by rw[len_new,len_kill,len_new];omega,fun j hj hne=>?_⟩ ?_ ?_
 ·have e1:(((H.new ⟨cel k q,e',ro,fu⟩).kill nb).new ⟨cel k L.flatten++cel k q,e,false,false⟩).get j=((H.new ⟨cel k q,e',ro,fu⟩).kill nb).get j:=prefix_get (pre_new (List.prefix_refl _)) (by rw[len_kill,len_new];omega)
  rw[e1,get_kill_ne (Ne.symm hne)]
  exact prefix_get (pre_new (List.prefix_refl _)) hj
 ·rw[get_new_eq (by rw[len_kill,len_new])]
  simp[cel_app]
 ·intro r hr
  rcases List.mem_append.1 hr with hr|hr
  ·exact hw r hr
  ·rw[List.mem_singleton.1 hr,hq]
theorem InE.kN {k:IntKind} {w a b lo:Nat} {h:AH} {v:Value} {L:List (List Int)} (o:InE k w a b h v L) (hn:lo≤a):KN lo h fun h'=>Els k w h' v L:=by
 intro h' l g
 rcases o with⟨rfl,rfl⟩|⟨m,e,full,h1,rfl,h2,h3⟩
 ·exact .inl ⟨rfl,0,by omega,rfl⟩
 ·exact InE.rd (.inr ⟨m,e,full,h1,rfl,by rw[g m (by omega) (get_lt h2)];exact h2,h3⟩)
theorem blk_kN {k:IntKind} {w lo m:Nat} {h:AH} {L:List (List Int)} {e:TypeId} {full:Bool} (hg:h.get m=some ⟨cel k L.flatten,e,false,full⟩) (hw:Wid w L) (hn:lo≤m):KN lo h fun h'=>Els k w h' (.slice (some ⟨m,0,none⟩) L.length w) L:=
 fun h' l g=>InE.rd (.inr ⟨m,e,full,⟨Nat.le_refl _,Nat.lt_succ_self _⟩,rfl,by rw[g m hn (get_lt hg)];exact hg,hw⟩)
theorem stra_wid {m:Int}:Wid 27 (stra m):=by
 intro q hq
 simp only[stra,List.mem_cons,List.not_mem_nil,or_false] at hq
 rcases hq with rfl|rfl|rfl|rfl|rfl|rfl|rfl<;>rfl
theorem stra_isX {p:Int} (hp:p=2∨p=3∨p=5):isX ⟨p,2,2,2,stra (p-1)⟩=true:=by
 rcases hp with rfl|rfl|rfl<;>decide
theorem byt_isX {x:Sch} (hx:isX x=true) (hw:Wid 27 x.ps) (hb:∀ q∈x.ps,∀ j,j<27→0≤q.getD j 0):Byt 27 x.ps:=by
 obtain⟨z,hp,_,ho⟩:=isX_facts hx
 have zp:=z.p
 intro i hi j hj
 have hm:x.ps.getD i []∈x.ps:=by
  rw[List.getD_eq_getElem?_getD,List.getElem?_eq_getElem hi]
  exact List.getElem_mem _
 refine⟨hb _ hm j hj,?_⟩
 have h1:=ho i hi
 unfold okProd at h1
 simp only[Bool.and_eq_true] at h1
 have at9:∀ s,s<3→∀ l,l<9→(seg (x.ps.getD i []) s).getD l 0<x.p:=fun s hs l hl=>by
  have:s=0∨s=1∨s=2:=by omega
  rcases this with rfl|rfl|rfl
  ·exact (okForm_at h1.1.1.1 hl).1
  ·exact (okForm_at h1.1.1.2 hl).1
  ·exact (okForm_at h1.1.2 hl).1
 have h2:=at9 (j / 9) (by omega) (j%9) (by omega)
 have e:(seg (x.ps.getD i []) (j / 9)).getD (j%9) 0=(x.ps.getD i []).getD j 0:=by
  unfold seg
  rw[cut_get (by omega)]
  congr 1
  omega
 rw[e] at h2
 omega
theorem std_isX {p n m k:Int} (hp:p=2∨p=3∨p=5) (hn:n=1∨n=2∨n=3) (hm:m=1∨m=2∨m=3) (hk:k=1∨k=2∨k=3):isX (stdX p n m k)=true:=by
 rcases hp with rfl|rfl|rfl<;>rcases hn with rfl|rfl|rfl<;>rcases hm with rfl|rfl|rfl<;>rcases hk with rfl|rfl|rfl<;>decide +kernel
end Go.Proofs.Ytapafdpnmakekaa.X

set_option linter.unusedVariables false
set_option linter.unusedSimpArgs false
set_option maxRecDepth 20000
set_option maxHeartbeats 4000000
namespace Go.Proofs.Ytapafdpnmakekaa.X
open Go Go.RowKit
open Nat (reduceEqDiff reduceAdd reduceSub reduceLeDiff)
theorem By.nn {w:Nat} {q:List Int} (h:By w q):∀ j,j<w→0≤q.getD j 0:=fun j hj=>(h.2 j hj).1
structure DL (x:Sch) (L:List (List Int)):Prop where
 w:Wid 27 L
 by':∀ q∈L,By 27 q
 ok:∀ q∈L,okProd x q=true
theorem DL.nil {x:Sch}:DL x []:=⟨fun q h=>by simp at h,fun q h=>by simp at h,fun q h=>by simp at h⟩
theorem DL.snoc {x:Sch} {L:List (List Int)} {q:List Int} (d:DL x L) (hb:By 27 q) (ho:okProd x q=true):DL x (L++[q]):=by
 refine⟨fun r h=>?_,fun r h=>?_,fun r h=>?_⟩<;>rcases List.mem_append.1 h with h|h
 ·exact d.w r h
 ·rw[List.mem_singleton.1 h];exact hb.1
 ·exact d.by' r h
 ·rw[List.mem_singleton.1 h];exact hb
 ·exact d.ok r h
 ·rw[List.mem_singleton.1 h];exact ho
theorem DL.byt {x:Sch} {L:List (List Int)} (d:DL x L):Byt 27 L:=fun i hi j hj=>by
 have hm:L.getD i []∈L:=by
  rw[List.getD_eq_getElem?_getD,List.getElem?_eq_getElem hi]
  exact List.getElem_mem _
 exact (d.by' _ hm).2 j hj
theorem DL.isX {x:Sch} (d:DL x x.ps) (hs:szX x=true) (hl:x.ps.length≤30):isX x=true:=by
 unfold X.isX
 rw[hs,decide_eq_true hl]
 simp only[Bool.true_and]
 exact List.all_eq_true.2 d.ok
def SchD (lo:Nat) (h:AH) (v:Value) (x:Sch):Prop:=KN lo h fun h'=>Prods h' v x.ps
theorem zrep27:zrep 1 [.int .u8 0,.int .u8 0,.int .u8 0,.int .u8 0,.int .u8 0,.int .u8 0,.int .u8 0,.int .u8 0,.int .u8 0,.int .u8 0,.int .u8 0,.int .u8 0,.int .u8 0,.int .u8 0,.int .u8 0,.int .u8 0,.int .u8 0,.int .u8 0,.int .u8 0,.int .u8 0,.int .u8 0,.int .u8 0,.int .u8 0,.int .u8 0,.int .u8 0,.int .u8 0,.int .u8 0]=cel .u8 (List.replicate 27 0):=rfl
theorem sp27z {q:List Int} (hq:q.length=27):splice (cel .u8 (List.replicate 27 0)) 0 (cel .u8 q)=cel .u8 q:=splice_27 hq
theorem s_l01Draw {h0 h:AH} {n:Nat} {Q:Value→AH→Prop} (s:Src h0 h n)
  (hQ:∀ x v h',Kp n h h'→Src h0 h' n→SchD h.length h' v x→X.isX x=true→Q (schV x v) h'):WF S 266 [srcP n] h Q:=by
 refine WF_fn (fn:=c266) rfl rfl ?_
 dsimp only[c266,oO,oM,oS,oG,oK,oE,oL,oF,oX,oN]
 have lt:=s.lt
 have l0:=pre_len s.p
 ((try simp (maxSteps:=3000000) (dsimp:=false) (disch:=first|omega|simp only[lnx];omega) only[↓ypre,ypost,↓reduceIte,reduceEqDiff,reduceAdd,reduceSub,reduceLeDiff,zz0,ynew]);try simp only[yback])
 generalize hH1:AH.new h _=H1
 obtain⟨hb1,p1,n1⟩:=new_facts hH1
 refine s_l01DrawSizes (s.kp p1) fun p a b c nb H2 k2 s2 hnb gnb hp ha hb hc=>?_
 have g1:=k2.get (by omega) hb1
 ((try simp (maxSteps:=3000000) (dsimp:=false) (disch:=first|omega|simp only[lnx];omega) only[↓ypre,ypost,↓reduceIte,reduceEqDiff,reduceAdd,reduceSub,reduceLeDiff,zz0,ynew,schV,one_slice]);try simp only[yback])
 generalize hH3:AH.new H2 _=H3
 obtain⟨hb3,p3,n3⟩:=new_facts hH3
 have k3:Kp n h H3:=(Kp.of p1).trans (k2.trans (Kp.of p3))
 have l2:=k2.len
 have szx:szX ⟨p,a,b,c,[]⟩=true:=by
  unfold szX
  rw[isP_of hp,sz_of ha,sz_of hb,sz_of hc]
  rfl
 have z:=szX_facts szx
 have zp:=z.p
 ((try simp (maxSteps:=3000000) (dsimp:=false) (disch:=first|omega|simp only[lnx];omega) only[↓ypre,ypost,↓reduceIte,reduceEqDiff,reduceAdd,reduceSub,reduceLeDiff,zz0,ynew]);try simp only[yback])
 refine s_l01Next (s2.kp p3) fun r H4 k4 l4 s4 hr _=>?_
 have g1:=k4.get (by omega) (pre_get p3 g1)
 have g3:=k4.get (by omega) hb3
 have gn:=k4.get (by omega) (pre_get p3 gnb)
 have fin:∀ (x:Sch) (v:Value) (h':AH),Kp n h h'→Src h0 h' n→SchD h.length (h'.put h.length ⟨[I64 x.p,I64 x.n,I64 x.m,I64 x.k,v],26,false,true⟩) v x→X.isX x=true →
   Q (schV x v) (h'.put h.length ⟨[I64 x.p,I64 x.n,I64 x.m,I64 x.k,v],26,false,true⟩):=fun x v h' kk ss sd hx=>
  hQ x v _ (kk.putb (Nat.le_refl _)) (ss.putb (by omega) (by omega)) sd hx
 have k4':=k3.trans k4
 by_cases r0:r=0
 ·((try simp (maxSteps:=3000000) (dsimp:=false) (disch:=first|omega|simp only[lnx];omega) only[↓ypre,ypost,↓reduceIte,reduceEqDiff,reduceAdd,reduceSub,reduceLeDiff,zz0,ynew,decide_eq_true r0,rd1_of g3]);try simp only[yback])
  refine s_l01Strassen zp fun m H5 p5 hm gm=>?_
  have g1:=pre_get p5 g1
  have lg:=get_lt g1
  ((try simp (maxSteps:=3000000) (dsimp:=false) (disch:=first|omega|simp only[lnx];omega) only[↓ypre,ypost,↓reduceIte,reduceEqDiff,reduceAdd,reduceSub,reduceLeDiff,zz0,ynew,schV,wr_of g1,splice_eq,rdn_put_same]);try simp only[yback])
  have l5:=pre_len p5
  exact fin ⟨p,2,2,2,stra (p-1)⟩ _ H5 (k4'.trans (Kp.of p5)) (s4.kp p5) (fun h' d d'=>⟨blk_kN (L:=stra (p-1)) (by rw[get_put_ne (by omega)];exact gm) stra_wid (by omega) h' d d',
   byt_isX (x:=⟨p,2,2,2,stra (p-1)⟩) (stra_isX hp) stra_wid (fun q hq j hj=>by
    simp only[stra,List.mem_cons,List.not_mem_nil,or_false] at hq
    have:∀ l:List Int,(∀ x∈l,0≤x)→0≤l.getD j 0:=fun l hl=>by
     by_cases hj:j<l.length
     ·rw[List.getD_eq_getElem?_getD,List.getElem?_eq_getElem hj]
      exact hl _ (List.getElem_mem _)
     ·rw[List.getD_eq_getElem?_getD,List.getElem?_eq_none (by omega)]
      exact Int.le_refl _
    refine this q ?_
    rcases hq with rfl|rfl|rfl|rfl|rfl|rfl|rfl<;>intro x hx<;>simp only[List.mem_cons,List.not_mem_nil,or_false] at hx<;>omega)⟩) (stra_isX hp)
 by_cases r1:r=1
 ·((try simp (maxSteps:=3000000) (dsimp:=false) (disch:=first|omega|simp only[lnx];omega) only[↓ypre,ypost,↓reduceIte,reduceEqDiff,reduceAdd,reduceSub,reduceLeDiff,zz0,ynew,decide_eq_false r0,decide_eq_true r1,rd1_of g3]);try simp only[yback])
  refine s_l01Standard (szX_facts (x:=stdX p a b c) szx) fun v H5 p5 o5=>?_
  have g1:=pre_get p5 g1
  have lg:=get_lt g1
  have l5:=pre_len p5
  ((try simp (maxSteps:=3000000) (dsimp:=false) (disch:=first|omega|simp only[lnx];omega) only[↓ypre,ypost,↓reduceIte,reduceEqDiff,reduceAdd,reduceSub,reduceLeDiff,zz0,ynew,schV,o5.rd.one,wr_of g1,splice_eq,rdn_put_same]);try simp only[yback])
  have o6:InX H4.length H5.length (AH.put H5 h.length ⟨[I64 p,I64 a,I64 b,I64 c,v],26,false,true⟩) v (stdX p a b c).ps:=⟨o5.1.putb (by omega),o5.2⟩
  exact fin (stdX p a b c) v H5 (k4'.trans (Kp.of p5)) (s4.kp p5) (fun h' d d'=>⟨o6.1.kN (by omega) h' d d',o6.2⟩) (std_isX hp ha hb hc)
 ((try simp (maxSteps:=3000000) (dsimp:=false) (disch:=first|omega|simp only[lnx];omega) only[↓ypre,ypost,↓reduceIte,reduceEqDiff,reduceAdd,reduceSub,reduceLeDiff,zz0,ynew,decide_eq_false r0,decide_eq_false r1]);try simp only[yback])
 refine s_l01Next s4 fun N H5 k5 l5 s5 hN _=>?_
 have hN:=hN (by omega)
 have g1:=k5.get (by omega) g1
 have g3:=k5.get (by omega) g3
 have gn:=k5.get (by omega) gn
 obtain⟨M,rfl⟩:∃ M:Nat,N=M:=⟨N.toNat,by omega⟩
 ((try simp (maxSteps:=3000000) (dsimp:=false) (disch:=first|omega|simp only[lnx];omega) only[↓ypre,ypost,↓reduceIte,reduceEqDiff,reduceAdd,reduceSub,reduceLeDiff,zz0,ynew]);try simp only[yback])
 refine WC_loop_inv (fun m f K1=>∃ (i:Nat) (L:List (List Int)) (b2:Nat) (fu:Bool),m=M-i∧i≤M∧f 0=srcP n∧f 2=.pointer (some ⟨h.length,0,none⟩)∧f 3=.pointer (some ⟨H2.length,0,none⟩)∧f 4=I64 ((M-i:Nat):Int)∧(Kp n h K1)∧(Src h0 K1 n)∧(L.length=i)∧(DL ⟨p,a,b,c,[]⟩ L)∧(h.length<b2∧b2≠H2.length∧b2≠n)∧(K1.get h.length=some ⟨[.int .i64 0,.int .i64 0,.int .i64 0,.int .i64 0,.slice none 0 0],26,false,true⟩)∧(K1.get H2.length=some ⟨[I64 p,I64 a,I64 b,I64 c,.slice (some ⟨b2,0,none⟩) L.length 27],26,false,true⟩)∧(K1.get b2=some ⟨cel .u8 L.flatten,138,false,fu⟩)) ?_ (M-0) _ _ ⟨0,[],nb,true,rfl,by omega,(by first|rfl|simp[upd_apply]),(by first|rfl|simp[upd_apply]),(by first|rfl|simp[upd_apply]),(by first|rfl|simp[upd_apply]),k4'.trans k5,s5,rfl,DL.nil,(by have:=get_lt gnb;omega),g1,g3,gn⟩
 rintro m f K1 ⟨i,L,b2,fu,rfl,hi,f0,f2,f3,f4,kk,ss,li,dl,hb2,q1,q3,qn⟩
 by_cases hlt:(0:Int)<((M-i:Nat):Int)
 ·((try simp (maxSteps:=3000000) (dsimp:=false) (disch:=first|omega|simp only[lnx];omega) only[↓ypre,ypost,↓reduceIte,reduceEqDiff,reduceAdd,reduceSub,reduceLeDiff,zz0,ynew,f0,f2,f3,f4,decide_eq_true hlt,rd1_of q3,rdn_of q3,List.length_cons,List.length_nil,List.drop_zero,List.take_succ_cons,List.take_nil]);try simp only[yback])
  refine⟨by omega,?_⟩
  refine s_l01DrawOf ss (x:=⟨p,a,b,c,[]⟩) z rfl fun q H6 k6 s6 hq oq=>?_
  have q1:=k6.get (by omega) q1
  have q3:=k6.get (by omega) q3
  have qn:=k6.get (by omega) qn
  have lq6:=get_lt q3
  have ln6:=s6.lt
  have lh6:=get_lt q1
  refine⟨⟨n,rfl,k6⟩,?_⟩
  ((try simp (maxSteps:=3000000) (dsimp:=false) (disch:=first|omega|simp only[lnx];omega) only[↓ypre,ypost,↓reduceIte,reduceEqDiff,reduceAdd,reduceSub,reduceLeDiff,zz0,ynew,f0,f2,f3,f4,aggV,zrep27,hq.1,cel_len,sp27z,List.append_nil,cel_all]);try simp only[yback])
  refine app_kp (bytes:=27) qn dl.w hq.1 (by omega) (by omega) fun H7 l7 k7 q7 w7=>?_
  have q1:=k7.get (by omega) q1
  have q3:=k7.get (by omega) q3
  ((try simp (maxSteps:=3000000) (dsimp:=false) (disch:=first|omega|simp only[lnx];omega) only[↓ypre,ypost,↓reduceIte,reduceEqDiff,reduceAdd,reduceSub,reduceLeDiff,zz0,ynew,f0,f2,f3,f4,wr_of q3,splice_eq,wrap64_in]);try simp only[yback])
  have lt6:=s6.lt
  have lq3:=get_lt q3
  refine InvQ_go (M-(i+1)) (by omega) ⟨(i+1),(L++[q]),(H6.length+1),false,rfl,by omega,(by first|rfl|exact f0|(simp only[upd_apply];rfl)|(show I64 _=_;congr 1;omega)),(by first|rfl|exact f2|(simp only[upd_apply];rfl)|(show I64 _=_;congr 1;omega)),(by first|rfl|exact f3|(simp only[upd_apply];rfl)|(show I64 _=_;congr 1;omega)),(by first|rfl|exact f4|(simp only[upd_apply];rfl)|(show I64 _=_;congr 1;omega)),(Kp.putb (m:=H2.length) ((kk.trans k6).over k7 (by omega)) (by omega)),(Src.putb (m:=H2.length) (s6.over k7 (by omega) (by omega)) (by omega) (by omega)),(by rw[List.length_append,li];rfl),(dl.snoc hq oq),(by have:=k6.len;have:=kk.len;omega),(by rw[get_put_ne (by omega)];exact q1),(by rw[get_put_same (by omega),List.length_append];rfl),(by rw[get_put_ne (by omega)];exact q7)⟩
 ·((try simp (maxSteps:=3000000) (dsimp:=false) (disch:=first|omega|simp only[lnx];omega) only[↓ypre,ypost,↓reduceIte,reduceEqDiff,reduceAdd,reduceSub,reduceLeDiff,zz0,ynew,f0,f2,f3,f4,decide_eq_false hlt]);try simp only[yback])
  have lg:=get_lt q1
  ((try simp (maxSteps:=3000000) (dsimp:=false) (disch:=first|omega|simp only[lnx];omega) only[↓ypre,ypost,↓reduceIte,reduceEqDiff,reduceAdd,reduceSub,reduceLeDiff,zz0,ynew,f0,f2,f3,f4,rdn_of q3,wr_of q1,splice_eq,rdn_put_same]);try simp only[yback])
  exact fin ⟨p,a,b,c,L⟩ _ K1 kk ss (fun h' d d'=>⟨blk_kN (L:=L) (by rw[get_put_ne (by omega)];exact qn) dl.w (by omega) h' d d',dl.byt⟩) (DL.isX (x:=⟨p,a,b,c,L⟩) ⟨dl.w,dl.by',dl.ok⟩ szx (by show L.length≤30;omega))
end Go.Proofs.Ytapafdpnmakekaa.X

set_option linter.unusedVariables false
set_option linter.unusedSimpArgs false
set_option maxRecDepth 20000
set_option maxHeartbeats 4000000
namespace Go.Proofs.Ytapafdpnmakekaa.X
end Go.Proofs.Ytapafdpnmakekaa.X

set_option linter.unusedVariables false
set_option linter.unusedSimpArgs false
set_option maxRecDepth 20000
set_option maxHeartbeats 4000000
namespace Go.Proofs.Ytapafdpnmakekaa.X
open Go Go.RowKit
section
variable (t:Ten) (f e:Int)
end
def mmV (isMax:Bool) (x:Value) (l:List Value):Option Value:=match x with
 | .int k a=>(xmm isMax a l).map fun b=>.int k b
 | _=>none
theorem WX_mm {S:XS} {f:Fr} {h:AH} {Q:Value→AH→Prop} {b:Bool} {x:Operand} {l:List Operand}:WX S (.mm b x l) f h Q=WV (mmV b (ev f x) (l.map (ev f))) fun v=>Q v h:=by
 rw[WX_op (fun _=>rfl)]
 have:xop (.mm b x l) f h=(mmV b (ev f x) (l.map (ev f))).map (·,h):=by
  simp only[xop,mmV]
  generalize ev f x=vx
  cases vx<;>try rfl
  simp only
  generalize xmm b _ _=r
  cases r<;>rfl
 rw[this]
 cases mmV b (ev f x) (l.map (ev f))<;>simp[OQ_some,WV_some,OQ_none,WV_none]
def DoneS (N:Nat) (g:Nat→Int) (l:List Int) (m:Int):Prop:=l.length=N∧∀ n:Nat,(n:Int)<m→l.getD n 0=g n
theorem DoneS.step {N:Nat} {g:Nat→Int} {l:List Int} {m:Int} (d:DoneS N g l m) (hm:0≤m∧m<N) {x:Int} (hx:x=g m.toNat):DoneS N g (l.set m.toNat x) (m+1):=by
 refine⟨by rw[List.length_set];exact d.1,fun n hn=>?_⟩
 rw[set_getD (by rw[d.1];omega)]
 split
 ·rename_i e
  rw[e,hx]
 ·exact d.2 n (by omega)
theorem DoneS.all {N:Nat} {g:Nat→Int} {l:List Int} {m:Int} (d:DoneS N g l m) (hm:m=N):l=gen N g:=gen_ext d.1 fun n hn=>d.2 n (by omega)
structure KrS (t u s:Ten) (v w:Value) (h0 h:AH) (b5 nb:Nat) (l:List Int):Prop where
 hp:h0<+:h
 lo:h0.length+3≤nb∧nb<b5
 g1:OwnB h h0.length [I64 t.p,I64 t.i,I64 t.j,I64 t.k,v] true
 g2:OwnB h (h0.length+1) [I64 u.p,I64 u.i,I64 u.j,I64 u.k,w] true
 g3:∃ c,c.length=5∧OwnB h (h0.length+2) c true
 g5:OwnB h b5 [I64 s.p,I64 s.i,I64 s.j,I64 s.k,.slice (some ⟨nb,0,none⟩) (s.i*s.j*s.k).toNat 1] true
 gn:OwnB h nb (l.map (Value.int .i64)) true
theorem KrS.pre {t u s:Ten} {v w:Value} {h0 h h':AH} {b5 nb:Nat} {l:List Int} (a:KrS t u s v w h0 h b5 nb l) (p:h<+:h'):KrS t u s v w h0 h' b5 nb l:=by
 obtain⟨c,c1,c2⟩:=a.g3
 exact⟨a.hp.trans p,a.lo,a.g1.pre p,a.g2.pre p,⟨c,c1,c2.pre p⟩,a.g5.pre p,a.gn.pre p⟩
def DoneZ (N:Nat) (g:Nat→Int) (l:List Int) (m:Int):Prop:=DoneS N g l m∧∀ n:Nat,m≤(n:Int)→l.getD n 0=0
theorem DoneZ.step {N:Nat} {g:Nat→Int} {l:List Int} {m:Int} (d:DoneZ N g l m) (hm:0≤m∧m<N) {x:Int} (hx:x=g m.toNat):DoneZ N g (l.set m.toNat x) (m+1):=by
 refine⟨d.1.step hm hx,fun n hn=>?_⟩
 rw[set_getD (by rw[d.1.1];omega),if_neg (by omega)]
 exact d.2 n (by omega)
theorem DoneZ.skip {N:Nat} {g:Nat→Int} {l:List Int} {m:Int} (d:DoneZ N g l m) (hm:0≤m∧m<N) (hx:g m.toNat=0):DoneZ N g l (m+1):=by
 refine⟨⟨d.1.1,fun n hn=>?_⟩,fun n hn=>d.2 n (by omega)⟩
 by_cases h:(n:Int)<m
 ·exact d.1.2 n h
 ·have:n=m.toNat:=by omega
  rw[d.2 n (by omega),this,hx]
section
variable {t u:Ten}
end
theorem lst_app {n:Nat} {l:List Int} {full:Bool} {H:AH} {x:Int} {e':TypeId} {ro fu:Bool} (o:Lst H n l full) (hl:(l.length:Int)≤1048576) {Q:Value→AH→Prop}
  (hQ:∀ H':AH,H'.length=H.length+2→Kp n H H'→Lst H' (H.length+1) (l++[x]) false→Q (sl (H.length+1) (l++[x]).length) H') :
  OQ (appV 2 1 8 (sl n l.length) (.slice (some ⟨H.length,0,none⟩) 1 1) (H.new ⟨[I64 x],e',ro,fu⟩)) Q:=by
 have hn:(H.new ⟨[I64 x],e',ro,fu⟩).rdn H.length 0 1=some [I64 x]:=by rw[rdn_new_same];rfl
 have hk:(H.new ⟨[I64 x],e',ro,fu⟩).get n=some ⟨l.map (Value.int .i64),2,false,full⟩:=get_new_any o
 have hkb:=o.lt
 unfold sl
 rw[app_own hk (by simp) hn (by omega),OQ_some,len_new]
 have:=hQ (((H.new ⟨[I64 x],e',ro,fu⟩).kill n).new ⟨l.map (Value.int .i64)++[I64 x],2,false,false⟩) (by rw[len_new,len_kill,len_new]) ⟨by rw[len_new,len_kill,len_new];omega,fun j hj hne=>by
   rw[show (((H.new ⟨[I64 x],e',ro,fu⟩).kill n).new ⟨l.map (Value.int .i64)++[I64 x],2,false,false⟩).get j=((H.new ⟨[I64 x],e',ro,fu⟩).kill n).get j from prefix_get (pre_new (List.prefix_refl _)) (by rw[len_kill,len_new];omega),get_kill_ne (Ne.symm hne)]
   exact prefix_get (pre_new (List.prefix_refl _)) hj⟩ (by unfold Lst;rw[get_new_eq (by rw[len_kill,len_new])];simp)
 unfold sl at this
 rw[List.length_append,List.length_singleton] at this
 exact this
structure TenB (t:Ten):Prop where
 p:-1000≤t.p∧t.p≤1000
 i:-1000≤t.i∧t.i≤1000
 j:-1000≤t.j∧t.j≤1000
 k:-1000≤t.k∧t.k≤1000
 ns:t.ns.length≤1000
theorem OwnI.blk {h h':AH} {v:Value} {ns:List Int} (o:OwnI h h' v ns):∃ m e,h.length≤m∧v=sl m ns.length∧h'.get m=some ⟨ns.map (Value.int .i64),e,false,true⟩:=by
 obtain⟨m,e,h1,rfl,h3⟩:=o
 exact⟨m,e,h1,rfl,h3⟩
theorem pick_in {l:List Int} {a b:Int} (hl:∀ x∈l,a≤x∧x≤b) {j:Nat} (hj:j<l.length):a≤l.getD j 0∧l.getD j 0≤b:=by
 rw[List.getD_eq_getElem?_getD,List.getElem?_eq_getElem hj]
 exact hl _ (List.getElem_mem _)
structure Cod (h:AH) (cv:Value) (code:List (List Int)):Prop where
 els:Els .u8 1 h cv code
 byt:Byt 1 code
 len:code.length≤1000000
theorem Cod.pre {h h':AH} {cv:Value} {code:List (List Int)} (c:Cod h cv code) (p:h<+:h'):Cod h' cv code:=⟨c.els.pre p,c.byt,c.len⟩
theorem xres_3 {f:Fr} {h:AH} {r r' r'':XRes} {a b c:Value} (ha:xres1 f h r=some a) (hb:xres1 f h r'=some b) (hc:xres1 f h r''=some c):xres f h [r,r',r'']=some (.tuple #[a,b,c]):=by
 unfold xres xresl xresl xresl xresl
 rw[ha,hb,hc]
theorem xresn {f:Fr} {h:AH} {t n m e:Nat} {c:List Value} {ro fl:Bool} (hf:f t=.pointer (some ⟨n,0,none⟩)) (hb:h.get n=some ⟨c,e,ro,fl⟩) (hc:c.length=m):xres1 f h (.celln t m)=some (.agg c.toArray):=by
 rw[xres1_cells,hf,rdnV_ptr]
 simp only[rdn_of hb]
 subst hc
 simp
theorem mmT {a b:Int}:mmV true (.int .i64 a) [.int .i64 b]=some (I64 (max a b)):=by
 simp only[mmV,xmm]
 by_cases h:a≤b
 ·simp[h,Int.max_def]
  try omega
 ·simp[h,Int.max_def]
  try omega
theorem mmF {a b:Int}:mmV false (.int .i64 a) [.int .i64 b]=some (I64 (min a b)):=by
 simp only[mmV,xmm]
 by_cases h:a≤b
 ·simp[h,Int.min_def]
  try omega
 ·simp[h,Int.min_def]
  try omega
theorem getq {l:List Value} {i:Nat} (hi:i<l.length):l[i]?=some (l.getD i undef):=by
 rw[List.getD_eq_getElem?_getD,List.getElem?_eq_getElem hi]
 rfl
theorem cellsL_sl {b n:Nat}:cellsL (sl b n)=[sl b n]:=rfl
theorem isOne_sl {b n:Nat}:isOne (sl b n)=true:=rfl
structure RowD (lo:Nat) (H:AH) (kb:Nat) (fu:Bool) (rows:List (List Int)) (B:Nat→Nat) (cs:List Value):Prop where
 get:H.get kb=some ⟨cs,27,false,fu⟩
 len:cs.length=rows.length
 low:lo≤kb
 row:∀ i,i<rows.length→lo≤B i∧cs.getD i undef=sl (B i) (rows.getD i []).length∧(∃ f,Lst H (B i) (rows.getD i []) f)∧B i≠kb
 inc:∀ i j,i<j→j<rows.length→B i<B j
theorem RowD.kp {lo kb n:Nat} {H H':AH} {fu:Bool} {rows:List (List Int)} {B:Nat→Nat} {cs:List Value} (r:RowD lo H kb fu rows B cs) (k:Kp n H H') (hn:n<lo):RowD lo H' kb fu rows B cs:=
 ⟨k.get (by have:=r.low;omega) r.get,r.len,r.low,fun i hi=>by
  obtain⟨h1,h2,⟨f,h3⟩,h4⟩:=r.row i hi
  exact⟨h1,h2,⟨f,k.get (by omega) h3⟩,h4⟩,r.inc⟩
theorem RowD.rows {lo kb:Nat} {H:AH} {fu:Bool} {rows:List (List Int)} {B:Nat→Nat} {cs:List Value} (r:RowD lo H kb fu rows B cs):Rows H (sl kb rows.length) rows:=by
 refine⟨cs,.inr ⟨kb,0,_,by rw[r.len];rfl,r.get,by simp,fun i hi=>?_⟩,r.len,fun i hi=>?_⟩
 ·show cs[0+i]?=_
  rw[Nat.zero_add]
  exact getq hi
 ·obtain⟨h1,h2,⟨f,h3⟩,h4⟩:=r.row i hi
  rw[h2]
  exact h3.ints
theorem getD_snocD {α:Type} {l:List α} {x d:α} {j:Nat}:(l++[x]).getD j d=if j<l.length then l.getD j d else if j=l.length then x else d:=by
 rw[List.getD_eq_getElem?_getD,List.getD_eq_getElem?_getD]
 by_cases h:j<l.length
 ·rw[List.getElem?_append_left h,if_pos h]
 ·rw[List.getElem?_append_right (by omega),if_neg h]
  split
  ·rename_i e
   simp[e]
  ·rw[List.getElem?_eq_none (by simp;omega)]
   rfl
theorem rowd_app {lo kb b:Nat} {H:AH} {fu f ro fz:Bool} {e':TypeId} {rows:List (List Int)} {l:List Int} {B:Nat→Nat} {cs:List Value} (r:RowD lo H kb fu rows B cs) (hl:rows.length≤1000) (hb:lo≤b) (hkb:b≠kb)
  (hB:∀ i,i<rows.length→B i<b) (hx:Lst H b l f) {Q:Value→AH→Prop}
  (hQ:∀ H':AH,H'.length=H.length+2→Kp kb H H'→RowD lo H' (H.length+1) false (rows++[l]) (fun i=>if i<rows.length then B i else b) (cs++[sl b l.length])→Q (sl (H.length+1) (rows++[l]).length) H') :
  OQ (appV 27 1 24 (sl kb rows.length) (.slice (some ⟨H.length,0,none⟩) 1 1) (H.new ⟨[sl b l.length],e',ro,fz⟩)) Q:=by
 have hn:(H.new ⟨[sl b l.length],e',ro,fz⟩).rdn H.length 0 1=some [sl b l.length]:=by rw[rdn_new_same];rfl
 have hk:(H.new ⟨[sl b l.length],e',ro,fz⟩).get kb=some ⟨cs,27,false,fu⟩:=get_new_any r.get
 have hkl:=get_lt r.get
 have hbl:=get_lt hx
 unfold sl
 unfold sl at hn hk
 rw[app_ownW (n:=rows.length) hk (by rw[r.len,Nat.mul_one]) hn (by omega),OQ_some,len_new]
 have kk:Kp kb H (((H.new ⟨[sl b l.length],e',ro,fz⟩).kill kb).new ⟨cs++[sl b l.length],27,false,false⟩):=⟨by rw[len_new,len_kill,len_new];omega,fun j hj hne=>by
   rw[show (((H.new ⟨[sl b l.length],e',ro,fz⟩).kill kb).new ⟨cs++[sl b l.length],27,false,false⟩).get j=((H.new ⟨[sl b l.length],e',ro,fz⟩).kill kb).get j from prefix_get (pre_new (List.prefix_refl _)) (by rw[len_kill,len_new];omega),get_kill_ne (Ne.symm hne)]
   exact prefix_get (pre_new (List.prefix_refl _)) hj⟩
 have:=hQ _ (by rw[len_new,len_kill,len_new]) kk ⟨get_new_eq (by rw[len_kill,len_new]),by simp[r.len],by have:=r.low;omega,fun i hi=>?_,fun i j hij hj=>?_⟩
 ·unfold sl at this
  rw[List.length_append,List.length_singleton] at this
  exact this
 ·by_cases h:i<rows.length
  ·obtain⟨h1,h2,⟨g,h3⟩,h4⟩:=r.row i h
   have lb:=get_lt h3
   simp only[if_pos h]
   refine⟨h1,?_,⟨g,?_⟩,by omega⟩
   ·rw[getD_snocD,if_pos (by rw[r.len];exact h),h2,getD_snocD,if_pos h]
   ·rw[getD_snocD,if_pos h]
    exact kk.get h4 h3
  ·have e:i=rows.length:=by simp at hi;omega
   subst e
   simp only[if_neg h]
   refine⟨hb,?_,⟨f,?_⟩,by omega⟩
   ·rw[getD_snocD,if_neg (by rw[r.len];omega),if_pos r.len.symm,getD_snocD,if_neg (by omega),if_pos rfl]
   ·rw[getD_snocD,if_neg (by omega),if_pos rfl]
    exact kk.get hkb hx
 ·simp only[List.length_append,List.length_singleton] at hj
  by_cases h:j<rows.length
  ·simp only[if_pos h,if_pos (show i<rows.length by omega)]
   exact r.inc i j hij h
  ·simp only[if_neg h,if_pos (show i<rows.length by omega)]
   exact hB i (by omega)
end Go.Proofs.Ytapafdpnmakekaa.X
