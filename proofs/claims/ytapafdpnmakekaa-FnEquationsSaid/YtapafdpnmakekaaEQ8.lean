/- Texts of one claim, put together by merge.py: XQ1, XY, XT1, XE2, XP1, XP2, XP3, XP8, XP4, XP6, XP12, XP13, XT2, XT3, XT4, XT5, XT6, XT7, XT8, XT9, XU1, XU2, XU3, XU4, XU5, XV1, XV2, XV3, XV4, XR1. -/
import Derived.Test.YtapafdpnmakekaaEQ7
set_option linter.unusedVariables false
set_option linter.unusedSimpArgs false
set_option maxRecDepth 20000
set_option maxHeartbeats 4000000
namespace Go.Proofs.Ytapafdpnmakekaa.X
def sm:Nat→(Nat→Int)→Int
 | 0,_=>0
 | n+1,f=>sm n f+f n
theorem sm_ext {f g:Nat→Int}:∀ {n:Nat},(∀ i,i<n→f i=g i)→sm n f=sm n g
 | 0,_=>rfl
 | n+1,h=>by rw[sm,sm,sm_ext (fun i hi=>h i (by omega)),h n (by omega)]
theorem sm_zero {n:Nat}:sm n (fun _=>0)=0:=by
 induction n with
 | zero=>rfl
 | succ n ih=>rw[sm,ih];rfl
theorem sm_zero' {f:Nat→Int} {n:Nat} (h:∀ i,i<n→f i=0):sm n f=0:=by rw[sm_ext h,sm_zero]
theorem sm_add {f g:Nat→Int} {n:Nat}:sm n (fun i=>f i+g i)=sm n f+sm n g:=by
 induction n with
 | zero=>rfl
 | succ n ih=>simp only[sm,ih];omega
theorem sm_mul {f:Nat→Int} {c:Int} {n:Nat}:sm n (fun i=>c*f i)=c*sm n f:=by
 induction n with
 | zero=>simp[sm]
 | succ n ih=>simp only[sm,ih,Int.mul_add]
theorem sm_mulr {f:Nat→Int} {c:Int} {n:Nat}:sm n (fun i=>f i*c)=sm n f*c:=by
 induction n with
 | zero=>simp[sm]
 | succ n ih=>simp only[sm,ih,Int.add_mul]
theorem sm_comm {f:Nat→Nat→Int} {n m:Nat}:sm n (fun i=>sm m (fun j=>f i j))=sm m (fun j=>sm n (fun i=>f i j)):=by
 induction n with
 | zero=>simp only[sm];exact sm_zero.symm
 | succ n ih=>simp only[sm,ih];rw[←sm_add]
theorem sm_left {f:Nat→Int} {n:Nat}:sm (n+1) f=f 0+sm n (fun i=>f (i+1)):=by
 induction n with
 | zero=>simp[sm]
 | succ n ih=>rw[sm,ih,sm];omega
theorem sm_split {f:Nat→Int} {n m:Nat}:sm (n+m) f=sm n f+sm m (fun i=>f (n+i)):=by
 induction m with
 | zero=>simp[sm]
 | succ m ih=>rw[←Nat.add_assoc,sm,ih,sm];omega
theorem sm_rows {f:Nat→Int} {n m:Nat}:sm (n*m) f=sm n (fun a=>sm m (fun b=>f (a*m+b))):=by
 induction n with
 | zero=>simp[sm]
 | succ n ih=>rw[Nat.succ_mul,sm_split,ih,sm]
theorem sm_delta {f:Nat→Int} {n a:Nat} (h:a<n):sm n (fun i=>if i=a then f i else 0)=f a:=by
 induction n with
 | zero=>omega
 | succ n ih=>
  rw[sm]
  by_cases e:a=n
  ·subst e
   rw[if_pos rfl,sm_zero' (fun i hi=>if_neg (by omega))]
   omega
  ·rw[ih (by omega),if_neg (by omega)]
   omega
def Cg (p a b:Int):Prop:=p∣a-b
theorem Cg.rfl' {p a:Int}:Cg p a a:=⟨0,by omega⟩
theorem Cg.of {p a b:Int} (h:a=b):Cg p a b:=by subst h;exact .rfl'
theorem Cg.symm {p a b:Int} (h:Cg p a b):Cg p b a:=by
 obtain⟨k,h⟩:=h
 exact⟨-k,by rw[Int.mul_neg];omega⟩
theorem Cg.trans {p a b c:Int} (h:Cg p a b) (g:Cg p b c):Cg p a c:=by
 obtain⟨k,h⟩:=h
 obtain⟨l,g⟩:=g
 exact⟨k+l,by rw[Int.mul_add];omega⟩
theorem Cg.add {p a b c d:Int} (h:Cg p a b) (g:Cg p c d):Cg p (a+c) (b+d):=by
 obtain⟨k,h⟩:=h
 obtain⟨l,g⟩:=g
 exact⟨k+l,by rw[Int.mul_add];omega⟩
theorem Cg.mul {p a b c d:Int} (h:Cg p a b) (g:Cg p c d):Cg p (a*c) (b*d):=by
 obtain⟨k,h⟩:=h
 obtain⟨l,g⟩:=g
 exact⟨k*c+b*l,by grind⟩
theorem Cg.sm {p:Int} {f g:Nat→Int}:∀ {n:Nat},(∀ i,i<n→Cg p (f i) (g i))→Cg p (sm n f) (sm n g)
 | 0,_=>.rfl'
 | n+1,h=>(Cg.sm fun i hi=>h i (by omega)).add (h n (by omega))
def Fld (p:Int):Prop:=2≤p∧∀ x,¬ p∣x→∃ w,Cg p (w*x) 1
def dl (a b:Nat):Int:=if a=b then 1 else 0
theorem dim_le {p:Int} (hp:Fld p):∀ (r s:Nat) (U V:Nat→Nat→Int),(∀ i j,i<s→j<s→Cg p (sm r fun k=>U i k*V k j) (dl i j))→s≤r
 | 0,0,U,V,h=>Nat.le_refl _
 | 0,s+1,U,V,h=>by
  have:=h 0 0 (by omega) (by omega)
  obtain⟨k,hk⟩:=this
  simp only[sm,dl,if_true] at hk
  have:p∣1:=⟨-k,by rw[Int.mul_neg];omega⟩
  have:=Int.le_of_dvd (by omega) this
  have:=hp.1
  omega
 | r+1,0,U,V,h=>by omega
 | r+1,s+1,U,V,h=>by
  -- a place where the last row is not 0
  have h1:∃ k,k<r+1∧¬ p∣U s k:=by
   refine Classical.byContradiction fun hn=>?_
   have hz:∀ k,k<r+1→p∣U s k:=fun k hk=>Classical.byContradiction fun hd=>hn ⟨k,hk,hd⟩
   have h2:=h s s (by omega) (by omega)
   have h3:Cg p (sm (r+1) fun k=>U s k*V k s) (sm (r+1) fun _=>0):=Cg.sm fun k hk=>by
    obtain⟨q,hq⟩:=hz k hk
    exact⟨q*V k s,by rw[hq,←Int.mul_assoc];omega⟩
   rw[sm_zero] at h3
   have h4:=h3.symm.trans h2
   obtain⟨k,hk⟩:=h4
   simp only[dl,if_true] at hk
   have h5:p∣1:=⟨-k,by rw[Int.mul_neg];omega⟩
   have:=Int.le_of_dvd (by omega) h5
   have:=hp.1
   omega
  obtain⟨k0,hk0,hd⟩:=h1
  obtain⟨w,hw⟩:=hp.2 _ hd
  -- the places without k0
  let nx:Nat→Nat:=fun k=>if k=k0 then r else k
  have hsum:∀ (f:Nat→Int),sm (r+1) f=sm r (fun k=>f (nx k))+f k0:=fun f=>by
   by_cases e:k0=r
   ·subst e
    rw[sm,sm_ext (f:=fun k=>f (nx k)) (g:=f) fun i hi=>by show f (if i=k0 then k0 else i)=f i;rw[if_neg (by omega)]]
   ·have e1:sm r (fun k=>f (nx k))=sm r f+sm r (fun k=>if k=k0 then f r-f k else 0):=by
     rw[←sm_add]
     refine sm_ext fun i hi=>?_
     show f (if i=k0 then r else i)=_
     by_cases e2:i=k0
     ·rw[if_pos e2,if_pos e2];omega
     ·rw[if_neg e2,if_neg e2];omega
    rw[e1,sm_delta (f:=fun k=>f r-f k) (by omega),sm]
    show _+f r=_+(f r-f k0)+f k0
    omega
  refine Nat.succ_le_succ (dim_le hp r s (fun i k=>U i (nx k)-U i k0*w*U s (nx k)) (fun k j=>V (nx k) j) fun i j hi hj=>?_)
  have a1:=h i j (by omega) (by omega)
  have a2:=h s j (by omega) (by omega)
  rw[hsum] at a1 a2
  have a3:sm r (fun k=>(U i (nx k)-U i k0*w*U s (nx k))*V (nx k) j)=sm r (fun k=>U i (nx k)*V (nx k) j)+(- (U i k0*w))*sm r (fun k=>U s (nx k)*V (nx k) j):=by
   rw[←sm_mul,←sm_add]
   exact sm_ext fun k hk=>by grind
  rw[a3]
  have e0:dl s j=0:=if_neg (by omega)
  rw[e0] at a2
  generalize sm r (fun k=>U i (nx k)*V (nx k) j)=x1 at *
  generalize sm r (fun k=>U s (nx k)*V (nx k) j)=x2 at *
  obtain⟨q1,a1⟩:=a1
  obtain⟨q2,a2⟩:=a2
  obtain⟨q3,hw⟩:=hw
  exact⟨q1-U i k0*w*q2+U i k0*V k0 j*q3,by grind⟩
structure Rk (p:Int) (A:Nat→Nat→Int) (n w R:Nat):Prop where
 up:∃ X Y:Nat→Nat→Int,∀ i j,i<n→j<w→Cg p (A i j) (sm R fun r=>X i r*Y r j)
 lo:∃ P Q:Nat→Nat→Int,∀ a b,a<R→b<R→Cg p (sm n fun i=>sm w fun j=>P a i*A i j*Q j b) (dl a b)
theorem Rk.nil {p:Int} {A:Nat→Nat→Int} {n:Nat}:Rk p A n 0 0:=
 ⟨⟨fun _ _=>0,fun _ _=>0,fun _ _ _ h=>by omega⟩,⟨fun _ _=>0,fun _ _=>0,fun _ _ h=>by omega⟩⟩
theorem Rk.none {p:Int} {A:Nat→Nat→Int} {w:Nat}:Rk p A 0 w 0:=
 ⟨⟨fun _ _=>0,fun _ _=>0,fun _ _ h=>by omega⟩,⟨fun _ _=>0,fun _ _=>0,fun _ _ h=>by omega⟩⟩
theorem Rk.pivot {p:Int} {A B:Nat→Nat→Int} {n w R:Nat} (hp:Fld p) (h:Rk p B n w R) (hs:¬ p∣A 0 0) (hz:∀ i,i<n→Cg p (A (i+1) 0) 0) (hB:∀ i j,i<n→j<w→B i j=A (i+1) (j+1)):Rk p A (n+1) (w+1) (R+1):=by
 obtain⟨⟨X,Y,hu⟩,⟨P,Q,hl⟩⟩:=h
 obtain⟨s',hw⟩:=hp.2 _ hs
 refine⟨⟨fun i r=>if r=0 then (if i=0 then 1 else 0) else (if i=0 then 0 else X (i-1) (r-1)),fun r j=>if r=0 then A 0 j else if j=0 then 0 else Y (r-1) (j-1),fun i j hi hj=>?_⟩,
  ⟨fun a i=>if a=0 then (if i=0 then s' else 0) else (if i=0 then 0 else P (a-1) (i-1)),
   fun j b=>if b=0 then (if j=0 then 1 else 0) else (if j=0 then-(s'*sm w fun l=>A 0 (l+1)*Q l (b-1)) else Q (j-1) (b-1)),fun a b ha hb=>?_⟩⟩
 ·rw[sm_left]
  simp only[if_true,Nat.add_sub_cancel,Nat.succ_ne_zero,if_false,Nat.add_one_ne_zero]
  cases i with
  | zero=>
   simp only[if_true]
   rw[sm_zero' fun r _=>by simp]
   exact .of (by omega)
  | succ i=>
   simp only[Nat.succ_ne_zero,if_false,Nat.add_sub_cancel,Nat.add_one_ne_zero]
   cases j with
   | zero=>
    refine (hz i (by omega)).trans (.of ?_)
    rw[sm_zero' fun r _=>by simp]
    omega
   | succ j=>
    have:=hu i j (by omega) (by omega)
    rw[hB i j (by omega) (by omega)] at this
    refine this.trans (.of ?_)
    simp only[Nat.succ_ne_zero,if_false,Nat.add_sub_cancel,Nat.add_one_ne_zero,Int.zero_mul,Int.zero_add]
 ·rw[sm_left]
  simp only[if_true,Nat.add_sub_cancel,Nat.succ_ne_zero,if_false,Nat.add_one_ne_zero]
  cases a with
  | zero=>
   simp only[if_true,Int.zero_mul,sm_zero,Int.add_zero]
   rw[sm_left]
   simp only[if_true,Nat.add_sub_cancel,Nat.succ_ne_zero,if_false,Nat.add_one_ne_zero]
   cases b with
   | zero=>
    simp only[if_true,Int.mul_zero,sm_zero,Int.add_zero,Int.mul_one]
    exact hw
   | succ b=>
    simp only[Nat.succ_ne_zero,if_false,Nat.add_sub_cancel,Nat.add_one_ne_zero]
    have e:(sm w fun i=>s'*A 0 (i+1)*Q i b)=s'*sm w fun l=>A 0 (l+1)*Q l b:=by
     rw[←sm_mul]
     exact sm_ext fun l _=>Int.mul_assoc _ _ _
    rw[e]
    have e0:dl 0 (b+1)=0:=if_neg (by omega)
    rw[e0]
    generalize (sm w fun l=>A 0 (l+1)*Q l b)=z
    obtain⟨q,hq⟩:=hw
    exact⟨- (s'*z)*q,by grind⟩
  | succ a=>
   simp only[Nat.succ_ne_zero,if_false,Nat.add_sub_cancel,Nat.add_one_ne_zero,Int.zero_mul,sm_zero,Int.zero_add]
   cases b with
   | zero=>
    have e0:dl (a+1) 0=0:=if_neg (by omega)
    rw[e0]
    have:Cg p (sm n fun i=>sm (w+1) fun j=>P a i*A (i+1) j*if j=0 then 1 else 0) (sm n fun i=>0):=Cg.sm fun i hi=>by
     rw[sm_left]
     simp only[if_true,Nat.succ_ne_zero,if_false,Nat.add_one_ne_zero,Int.mul_zero,sm_zero,Int.add_zero,Int.mul_one]
     have:=(Cg.rfl' (a:=P a i)).mul (hz i hi)
     rwa [Int.mul_zero] at this
    rw[sm_zero] at this
    simpa using this
   | succ b=>
    have e0:dl (a+1) (b+1)=dl a b:=by simp[dl]
    rw[e0]
    simp only[Nat.succ_ne_zero,if_false,Nat.add_sub_cancel,Nat.add_one_ne_zero]
    refine Cg.trans ?_ (hl a b (by omega) (by omega))
    refine Cg.sm fun i hi=>?_
    rw[sm_left]
    simp only[if_true,Nat.succ_ne_zero,if_false,Nat.add_sub_cancel,Nat.add_one_ne_zero]
    have e1:(sm w fun j=>P a i*B i j*Q j b)=sm w fun j=>P a i*A (i+1) (j+1)*Q j b:=sm_ext fun j hj=>by rw[hB i j hi hj]
    rw[e1]
    have z:=hz i hi
    generalize (sm w fun j=>P a i*A (i+1) (j+1)*Q j b)=y
    generalize (sm w fun l=>A 0 (l+1)*Q l b)=x
    obtain⟨q,hq⟩:=z
    exact⟨- (P a i*s'*x)*q,by grind⟩
theorem Rk.rows {p:Int} {A B:Nat→Nat→Int} {n w R:Nat} (h:Rk p B n w R) (G H:Nat→Nat→Int) (hG:∀ l j,l<n→j<w→Cg p (B l j) (sm n fun i=>G l i*A i j)) (hH:∀ i j,i<n→j<w→Cg p (A i j) (sm n fun l=>H i l*B l j)):Rk p A n w R:=by
 obtain⟨⟨X,Y,hu⟩,⟨P,Q,hl⟩⟩:=h
 refine⟨⟨fun i r=>sm n fun l=>H i l*X l r,Y,fun i j hi hj=>?_⟩,⟨fun a i=>sm n fun l=>P a l*G l i,Q,fun a b ha hb=>?_⟩⟩
 ·refine (hH i j hi hj).trans ?_
  have h1:Cg p (sm n fun l=>H i l*B l j) (sm n fun l=>H i l*sm R fun r=>X l r*Y r j):=Cg.sm fun l hl'=>Cg.rfl'.mul (hu l j hl' hj)
  refine h1.trans (.of ?_)
  have h2:(sm n fun l=>H i l*sm R fun r=>X l r*Y r j)=sm n fun l=>sm R fun r=>H i l*X l r*Y r j:=sm_ext fun l _=>by
   rw[←sm_mul]
   exact sm_ext fun r _=>(Int.mul_assoc _ _ _).symm
  rw[h2,sm_comm]
  exact sm_ext fun r _=>sm_mulr
 ·refine Cg.trans ?_ (hl a b ha hb)
  have h1:Cg p (sm n fun l=>sm w fun j=>P a l*B l j*Q j b) (sm n fun l=>sm w fun j=>P a l*(sm n fun i=>G l i*A i j)*Q j b):=
   Cg.sm fun l hl'=>Cg.sm fun j hj=>(Cg.rfl'.mul (hG l j hl' hj)).mul .rfl'
  refine Cg.trans (.of ?_) h1.symm
  have h2:(sm n fun i=>sm w fun j=>(sm n fun l=>P a l*G l i)*A i j*Q j b)=sm n fun i=>sm w fun j=>sm n fun l=>P a l*G l i*A i j*Q j b:=sm_ext fun i _=>sm_ext fun j _=>by
   rw[←sm_mulr,←sm_mulr]
  have h3:(sm n fun l=>sm w fun j=>P a l*(sm n fun i=>G l i*A i j)*Q j b)=sm n fun l=>sm w fun j=>sm n fun i=>P a l*G l i*A i j*Q j b:=sm_ext fun l _=>sm_ext fun j _=>by
   rw[←sm_mul,←sm_mulr]
   exact sm_ext fun i _=>by grind
  rw[h2,h3]
  have h4:(sm n fun i=>sm w fun j=>sm n fun l=>P a l*G l i*A i j*Q j b)=sm n fun i=>sm n fun l=>sm w fun j=>P a l*G l i*A i j*Q j b:=sm_ext fun i _=>sm_comm
  have h5:(sm n fun l=>sm w fun j=>sm n fun i=>P a l*G l i*A i j*Q j b)=sm n fun l=>sm n fun i=>sm w fun j=>P a l*G l i*A i j*Q j b:=sm_ext fun l _=>sm_comm
  rw[h4,h5]
  exact sm_comm
structure Rk3 (p:Int) (T:Nat→Nat→Nat→Int) (I J K R:Nat):Prop where
 up:∃ (X:Nat→Nat→Int) (Y:Nat→Nat→Nat→Int),∀ i j k,i<I→j<J→k<K→Cg p (T i j k) (sm R fun r=>X i r*Y r j k)
 lo:∃ (P:Nat→Nat→Int) (Q:Nat→Nat→Nat→Int),∀ a b,a<R→b<R→Cg p (sm I fun i=>sm J fun j=>sm K fun k=>P a i*T i j k*Q j k b) (dl a b)
theorem lin_lt {j k J K:Nat} (hj:j<J) (hk:k<K):j*K+k<J*K:=by
 have:=Nat.mul_le_mul_right K (show j+1≤J from hj)
 rw[Nat.succ_mul] at this
 omega
theorem Rk.three {p:Int} {A:Nat→Nat→Int} {T:Nat→Nat→Nat→Int} {I J K R:Nat} (h:Rk p A I (J*K) R) (hT:∀ i j k,i<I→j<J→k<K→T i j k=A i (j*K+k)):Rk3 p T I J K R:=by
 obtain⟨⟨X,Y,hu⟩,⟨P,Q,hl⟩⟩:=h
 refine⟨⟨X,fun r j k=>Y r (j*K+k),fun i j k hi hj hk=>?_⟩,⟨P,fun j k b=>Q (j*K+k) b,fun a b ha hb=>?_⟩⟩
 ·rw[hT i j k hi hj hk]
  exact hu i _ hi (lin_lt hj hk)
 ·refine Cg.trans (.of ?_) (hl a b ha hb)
  refine sm_ext fun i hi=>?_
  rw[sm_rows]
  exact sm_ext fun j hj=>sm_ext fun k hk=>by rw[hT i j k hi hj hk]
theorem Rk3.le {p:Int} {T:Nat→Nat→Nat→Int} {I J K R S:Nat} (hp:Fld p) (h:Rk3 p T I J K R) {X:Nat→Nat→Int} {Y:Nat→Nat→Nat→Int} (hu:∀ i j k,i<I→j<J→k<K→Cg p (T i j k) (sm S fun r=>X i r*Y r j k)):R≤S:=by
 obtain⟨_,⟨P,Q,hl⟩⟩:=h
 refine dim_le hp S R (fun a r=>sm I fun i=>P a i*X i r) (fun r b=>sm J fun j=>sm K fun k=>Y r j k*Q j k b) fun a b ha hb=>?_
 refine Cg.trans ?_ (hl a b ha hb)
 have h1:Cg p (sm I fun i=>sm J fun j=>sm K fun k=>P a i*T i j k*Q j k b) (sm I fun i=>sm J fun j=>sm K fun k=>P a i*(sm S fun r=>X i r*Y r j k)*Q j k b):=
  Cg.sm fun i hi=>Cg.sm fun j hj=>Cg.sm fun k hk=>(Cg.rfl'.mul (hu i j k hi hj hk)).mul .rfl'
 refine Cg.trans (.of ?_) h1.symm
 have h2:(sm I fun i=>sm J fun j=>sm K fun k=>P a i*(sm S fun r=>X i r*Y r j k)*Q j k b)=sm I fun i=>sm S fun r=>sm J fun j=>sm K fun k=>P a i*X i r*(Y r j k*Q j k b):=sm_ext fun i _=>by
  rw[sm_comm (n:=S)]
  refine sm_ext fun j _=>?_
  rw[sm_comm (n:=S)]
  refine sm_ext fun k _=>?_
  rw[←sm_mul,←sm_mulr]
  exact sm_ext fun r _=>by grind
 rw[h2,sm_comm (n:=I)]
 refine sm_ext fun r _=>?_
 rw[←sm_mulr]
 refine sm_ext fun i _=>?_
 rw[←sm_mul]
 refine sm_ext fun j _=>?_
 rw[←sm_mul]
theorem Rk3.eq {p:Int} {T:Nat→Nat→Nat→Int} {I J K R S:Nat} (hp:Fld p) (h:Rk3 p T I J K R) (g:Rk3 p T I J K S):R=S:=by
 obtain⟨X,Y,hu⟩:=h.up
 obtain⟨X',Y',hu'⟩:=g.up
 exact Nat.le_antisymm (h.le hp hu') (g.le hp hu)
theorem Rk3.add {p:Int} {T A B:Nat→Nat→Nat→Int} {c:Int} {I J K R a b:Nat} (hp:Fld p) (h:Rk3 p T I J K R) (hA:Rk3 p A I J K a) (hB:Rk3 p B I J K b) (e:∀ i j k,i<I→j<J→k<K→Cg p (T i j k) (A i j k+c*B i j k)):R≤a+b:=by
 obtain⟨X,Y,hu⟩:=hA.up
 obtain⟨X',Y',hu'⟩:=hB.up
 refine h.le hp (X:=fun i r=>if r<a then X i r else X' i (r-a)) (Y:=fun r j k=>if r<a then Y r j k else c*Y' (r-a) j k) fun i j k hi hj hk=>?_
 refine (e i j k hi hj hk).trans (((hu i j k hi hj hk).add (Cg.rfl'.mul (hu' i j k hi hj hk))).trans (.of ?_))
 rw[sm_split,←sm_mul]
 congr 1
 ·exact sm_ext fun r hr=>by rw[if_pos hr,if_pos hr]
 ·exact sm_ext fun r hr=>by rw[if_neg (by omega),if_neg (by omega),Nat.add_sub_cancel_left];grind
theorem dm {a b m:Nat} (h:b<m):(a*m+b) / m=a∧(a*m+b)%m=b:=by
 have hm:0<m:=by omega
 constructor
 ·rw[Nat.mul_comm,Nat.mul_add_div hm,Nat.div_eq_of_lt h];rfl
 ·rw[Nat.mul_comm,Nat.mul_add_mod,Nat.mod_eq_of_lt h]
theorem dm_of {x n m:Nat} (h:x<n*m):x / m<n∧x%m<m∧x=x / m*m+x%m:=by
 have hm:0<m:=by
  rcases Nat.eq_zero_or_pos m with e|e
  ·subst e;simp at h
  ·exact e
 exact⟨(Nat.div_lt_iff_lt_mul hm).2 h,Nat.mod_lt _ hm,by rw[Nat.mul_comm];exact (Nat.div_add_mod x m).symm⟩
end Go.Proofs.Ytapafdpnmakekaa.X

set_option linter.unusedVariables false
set_option linter.unusedSimpArgs false
set_option linter.defProp false
namespace Go.Proofs.Ytapafdpnmakekaa.X
open Go Go.RowKit
inductive Dum {α:Type} (a:α):Type
 | mk
def yQV (v:Value) (Q:Value→Prop) (_:Dum Q):Prop:=QV v Q
@[congr] theorem yQV_congr {v:Value} {Q:Value→Prop} {w:Value} {d0:Dum Q} (e:v=w):yQV v Q d0=yQV w Q d0:=by rw[e]
theorem yQV_forth {v:Value} {Q:Value→Prop}:QV v Q=yQV v Q .mk:=rfl
theorem yQV_back {v:Value} {Q:Value→Prop} {d0:Dum Q}:yQV v Q d0=QV v Q:=rfl
def yWV (r:Option Value) (Q:Value→Prop) (_:Dum Q):Prop:=WV r Q
@[congr] theorem yWV_congr {r:Option Value} {Q:Value→Prop} {w:Option Value} {d0:Dum Q} (e:r=w):yWV r Q d0=yWV w Q d0:=by rw[e]
theorem yWV_forth {r:Option Value} {Q:Value→Prop}:WV r Q=yWV r Q .mk:=rfl
theorem yWV_back {r:Option Value} {Q:Value→Prop} {d0:Dum Q}:yWV r Q d0=WV r Q:=rfl
def yHQ (r:Option AH) (Q:AH→Prop) (_:Dum Q):Prop:=HQ r Q
@[congr] theorem yHQ_congr {r:Option AH} {Q:AH→Prop} {w:Option AH} {d0:Dum Q} (e:r=w):yHQ r Q d0=yHQ w Q d0:=by rw[e]
theorem yHQ_forth {r:Option AH} {Q:AH→Prop}:HQ r Q=yHQ r Q .mk:=rfl
theorem yHQ_back {r:Option AH} {Q:AH→Prop} {d0:Dum Q}:yHQ r Q d0=HQ r Q:=rfl
def yPQ (v:Value) (Q:Nat→Nat→Prop) (_:Dum Q):Prop:=PQ v Q
@[congr] theorem yPQ_congr {v:Value} {Q:Nat→Nat→Prop} {w:Value} {d0:Dum Q} (e:v=w):yPQ v Q d0=yPQ w Q d0:=by rw[e]
theorem yPQ_forth {v:Value} {Q:Nat→Nat→Prop}:PQ v Q=yPQ v Q .mk:=rfl
theorem yPQ_back {v:Value} {Q:Nat→Nat→Prop} {d0:Dum Q}:yPQ v Q d0=PQ v Q:=rfl
def yLQ (v:List Value) (Q:List Value→Prop) (_:Dum Q):Prop:=LQ v Q
@[congr] theorem yLQ_congr {v:List Value} {Q:List Value→Prop} {w:List Value} {d0:Dum Q} (e:v=w):yLQ v Q d0=yLQ w Q d0:=by rw[e]
theorem yLQ_forth {v:List Value} {Q:List Value→Prop}:LQ v Q=yLQ v Q .mk:=rfl
theorem yLQ_back {v:List Value} {Q:List Value→Prop} {d0:Dum Q}:yLQ v Q d0=LQ v Q:=rfl
def yVQ (r:Option (List Value)) (Q:List Value→Prop) (_:Dum Q):Prop:=VQ r Q
@[congr] theorem yVQ_congr {r:Option (List Value)} {Q:List Value→Prop} {w:Option (List Value)} {d0:Dum Q} (e:r=w):yVQ r Q d0=yVQ w Q d0:=by rw[e]
theorem yVQ_forth {r:Option (List Value)} {Q:List Value→Prop}:VQ r Q=yVQ r Q .mk:=rfl
theorem yVQ_back {r:Option (List Value)} {Q:List Value→Prop} {d0:Dum Q}:yVQ r Q d0=VQ r Q:=rfl
def yOQ (r:Option (Value×AH)) (Q:Value→AH→Prop) (_:Dum Q):Prop:=OQ r Q
@[congr] theorem yOQ_congr {r:Option (Value×AH)} {Q:Value→AH→Prop} {w:Option (Value×AH)} {d0:Dum Q} (e:r=w):yOQ r Q d0=yOQ w Q d0:=by rw[e]
theorem yOQ_forth {r:Option (Value×AH)} {Q:Value→AH→Prop}:OQ r Q=yOQ r Q .mk:=rfl
theorem yOQ_back {r:Option (Value×AH)} {Q:Value→AH→Prop} {d0:Dum Q}:yOQ r Q d0=OQ r Q:=rfl
def yIfW (v:Value) (A:Prop) (B:Prop) (_:Dum A) (_:Dum B):Prop:=IfW v A B
@[congr] theorem yIfW_congr {v:Value} {A:Prop} {B:Prop} {w:Value} {d0:Dum A} {d1:Dum B} (e:v=w):yIfW v A B d0 d1=yIfW w A B d0 d1:=by rw[e]
theorem yIfW_forth {v:Value} {A:Prop} {B:Prop}:IfW v A B=yIfW v A B .mk .mk:=rfl
theorem yIfW_back {v:Value} {A:Prop} {B:Prop} {d0:Dum A} {d1:Dum B}:yIfW v A B d0 d1=IfW v A B:=rfl
def yWF (S:XS) (g:FuncId) (args:List Value) (h:AH) (Q:Value→AH→Prop) (_:Dum h) (_:Dum Q):Prop:=WF S g args h Q
@[congr] theorem yWF_congr {S:XS} {g:FuncId} {args args1:List Value} {h:AH} {Q:Value→AH→Prop} {d0:Dum h} {d1:Dum Q} (e:args=args1):yWF S g args h Q d0 d1=yWF S g args1 h Q d0 d1:=by rw[e]
theorem yWF_back {S:XS} {g:FuncId} {args:List Value} {h:AH} {Q:Value→AH→Prop} {d0:Dum h} {d1:Dum Q}:yWF S g args h Q d0 d1=WF S g args h Q:=rfl
def yWK (S:XS) (v:Value) (args:List Value) (h:AH) (Q:Value→AH→Prop) (_:Dum h) (_:Dum Q):Prop:=WK S v args h Q
@[congr] theorem yWK_congr {S:XS} {v v1:Value} {args args1:List Value} {h:AH} {Q:Value→AH→Prop} {d0:Dum h} {d1:Dum Q} (e:v=v1) (e1:args=args1):yWK S v args h Q d0 d1=yWK S v1 args1 h Q d0 d1:=by rw[e,e1]
theorem yWK_back {S:XS} {v:Value} {args:List Value} {h:AH} {Q:Value→AH→Prop} {d0:Dum h} {d1:Dum Q}:yWK S v args h Q d0 d1=WK S v args h Q:=rfl
theorem yWK_func {S:XS} {g:FuncId} {cap:Array Value} {args:List Value} {h:AH} {Q:Value→AH→Prop} {d0:Dum h} {d1:Dum Q}:yWK S (.func (.func g) #[] cap) args h Q d0 d1=yWF S g (args++cap.toList) h Q .mk .mk:=rfl
def yWG (S:XS) (v:Value) (b:Bool) (i:XI) (rest:List XI) (f:Fr) (h:AH) (Q:Fr→AH→Prop) (_:Dum i) (_:Dum rest) (_:Dum f) (_:Dum h) (_:Dum Q):Prop:=WG S v b i rest f h Q
@[congr] theorem yWG_congr {v v1:Value} {b:Bool} {S:XS} {i:XI} {rest:List XI} {f:Fr} {h:AH} {Q:Fr→AH→Prop} {d0:Dum i} {d1:Dum rest} {d2:Dum f} {d3:Dum h} {d4:Dum Q} (e:v=v1):yWG S v b i rest f h Q d0 d1 d2 d3 d4=yWG S v1 b i rest f h Q d0 d1 d2 d3 d4:=by rw[e]
theorem yWG_back {v:Value} {b:Bool} {S:XS} {i:XI} {rest:List XI} {f:Fr} {h:AH} {Q:Fr→AH→Prop} {d0:Dum i} {d1:Dum rest} {d2:Dum f} {d3:Dum h} {d4:Dum Q}:yWG S v b i rest f h Q d0 d1 d2 d3 d4=WG S v b i rest f h Q:=rfl
theorem yWG_tt {S:XS} {i:XI} {rest:List XI} {f:Fr} {h:AH} {Q:Fr→AH→Prop} {d0:Dum i} {d1:Dum rest} {d2:Dum f} {d3:Dum h} {d4:Dum Q}:yWG S (.bool true) true i rest f h Q d0 d1 d2 d3 d4=WO S (⟨i.d,i.o,none,i.q⟩::rest) f h Q:=rfl
theorem yWG_ff {S:XS} {i:XI} {rest:List XI} {f:Fr} {h:AH} {Q:Fr→AH→Prop} {d0:Dum i} {d1:Dum rest} {d2:Dum f} {d3:Dum h} {d4:Dum Q}:yWG S (.bool false) false i rest f h Q d0 d1 d2 d3 d4=WO S (⟨i.d,i.o,none,i.q⟩::rest) f h Q:=rfl
theorem yWG_tf {S:XS} {i:XI} {rest:List XI} {f:Fr} {h:AH} {Q:Fr→AH→Prop} {d0:Dum i} {d1:Dum rest} {d2:Dum f} {d3:Dum h} {d4:Dum Q}:yWG S (.bool true) false i rest f h Q d0 d1 d2 d3 d4=WO S rest (updo f i.d undef) h Q:=rfl
theorem yWG_ft {S:XS} {i:XI} {rest:List XI} {f:Fr} {h:AH} {Q:Fr→AH→Prop} {d0:Dum i} {d1:Dum rest} {d2:Dum f} {d3:Dum h} {d4:Dum Q}:yWG S (.bool false) true i rest f h Q d0 d1 d2 d3 d4=WO S rest (updo f i.d undef) h Q:=rfl
theorem yWG_un {b:Bool} {S:XS} {i:XI} {rest:List XI} {f:Fr} {h:AH} {Q:Fr→AH→Prop} {d0:Dum i} {d1:Dum rest} {d2:Dum f} {d3:Dum h} {d4:Dum Q}:yWG S undef b i rest f h Q d0 d1 d2 d3 d4=WO S rest (updo f i.d undef) h Q:=rfl
theorem yQV_eq {v:Value} {Q:Value→Prop} {d:Dum Q}:yQV v Q d=Q v:=rfl
theorem yWV_some {v:Value} {Q:Value→Prop} {d:Dum Q}:yWV (some v) Q d=Q v:=WV_some
theorem yWV_ite {c:Prop} [Decidable c] {v:Value} {Q:Value→Prop} {d:Dum Q}:yWV (if c then some v else none) Q d=(c∧Q v):=WV_ite
theorem yHQ_some {v:AH} {Q:AH→Prop} {d:Dum Q}:yHQ (some v) Q d=Q v:=HQ_some
theorem yHQ_ite {c:Prop} [Decidable c] {v:AH} {Q:AH→Prop} {d:Dum Q}:yHQ (if c then some v else none) Q d=(c∧Q v):=HQ_ite
theorem yPQ_ptr {p:Addr} {Q:Nat→Nat→Prop} {d:Dum Q}:yPQ (.pointer (some p)) Q d=Q p.block p.off:=rfl
theorem yLQ_eq {v:List Value} {Q:List Value→Prop} {d:Dum Q}:yLQ v Q d=Q v:=rfl
theorem yVQ_some {v:List Value} {Q:List Value→Prop} {d:Dum Q}:yVQ (some v) Q d=Q v:=VQ_some
theorem yOQ_some {v:Value} {h:AH} {Q:Value→AH→Prop} {d:Dum Q}:yOQ (some (v,h)) Q d=Q v h:=OQ_some
theorem yOQ_ite {c:Prop} [Decidable c] {v:Value} {h:AH} {Q:Value→AH→Prop} {d:Dum Q}:yOQ (if c then some (v,h) else none) Q d=(c∧Q v h):=OQ_ite
theorem yIfW_t {A B:Prop} {d:Dum A} {e:Dum B}:yIfW (.bool true) A B d e=A:=rfl
theorem yIfW_f {A B:Prop} {d:Dum A} {e:Dum B}:yIfW (.bool false) A B d e=B:=rfl
theorem yWX_clr {S:XS} {f:Fr} {h:AH} {Q:Value→AH→Prop} {sz:Nat} {z:List Value} {x:Operand}:WX S (.clr sz z x) f h Q=yOQ (clrV sz z (ev f x) h) Q .mk:=WX_clr
theorem yWX_idxt {S:XS} {f:Fr} {h:AH} {Q:Value→AH→Prop} {x i:Operand}:WX S (.idxt x i) f h Q=yOQ (idxtV (ev f x) (ev f i) h) Q .mk:=WX_idxt
theorem yWX_nchk {S:XS} {f:Fr} {h:AH} {Q:Value→AH→Prop} {x:Operand}:WX S (.nchk x) f h Q=yWV (nchkV (ev f x)) (fun v=>Q v h) .mk:=WX_nchk
theorem yWX_mkz {S:XS} {f:Fr} {h:AH} {Q:Value→AH→Prop}  : WX S .mkz f h Q=yQV (.slice none 0 2) (fun v=>Q v h) .mk:=WX_mkz
theorem yWX_mv {S:XS} {f:Fr} {h:AH} {Q:Value→AH→Prop} {x:Operand}:WX S (.mv x) f h Q=yQV (ev f x) (fun v=>Q v h) .mk:=WX_mv
theorem yWX_pick {S:XS} {f:Fr} {h:AH} {Q:Value→AH→Prop} {a b c:Operand}:WX S (.pick c a b) f h Q=yWV (pickV (ev f c) (ev f a) (ev f b)) (fun v=>Q v h) .mk:=WX_pick
theorem yWX_box {S:XS} {f:Fr} {h:AH} {Q:Value→AH→Prop} {x:Operand} {e:TypeId}:WX S (.box e x) f h Q=yLQ (cellsL (ev f x)) (fun c=>c.all isOne=true∧Q (.pointer (some ⟨h.length,0,none⟩)) (h.new ⟨c,e,false,true⟩)) .mk:=WX_box
theorem yWX_boxn {S:XS} {f:Fr} {h:AH} {Q:Value→AH→Prop} {x:Operand} {e:TypeId} {n:Nat}:WX S (.boxn e n x) f h Q=yLQ (cellsL (ev f x)) (fun c=>(c.length=n∧c.all isOne=true)∧Q (.pointer (some ⟨h.length,0,none⟩)) (h.new ⟨c,e,false,true⟩)) .mk:=WX_boxn
theorem yWX_load1 {S:XS} {f:Fr} {h:AH} {Q:Value→AH→Prop} {a:Operand}:WX S (.load1 a) f h Q=yPQ (ev f a) (fun n off=>yWV (h.rd1 n off) (fun v=>Q v h) .mk) .mk:=WX_load1
theorem yWX_loadn {S:XS} {f:Fr} {h:AH} {Q:Value→AH→Prop} {a:Operand} {n:Nat}:WX S (.loadn n a) f h Q=yPQ (ev f a) (fun m off=>yWV ((h.rdn m off n).map fun c=>.agg c.toArray) (fun v=>Q v h) .mk) .mk:=WX_loadn
theorem yWX_store {S:XS} {f:Fr} {h:AH} {Q:Value→AH→Prop} {a x:Operand} {n:Nat}:WX S (.store n a x) f h Q=yPQ (ev f a) (fun m off=>yLQ (cellsL (ev f x)) (fun c=>(c.length=n∧c.all isOne=true)∧yHQ (h.wr m off c) (fun h1=>Q undef h1) .mk) .mk) .mk:=WX_store
theorem yWX_bin {S:XS} {f:Fr} {h:AH} {Q:Value→AH→Prop} {x y:Operand} {op:BinOp}:WX S (.bin op x y) f h Q=yWV (xbin op (ev f x) (ev f y)) (fun v=>Q v h) .mk:=WX_bin
theorem yWX_un {S:XS} {f:Fr} {h:AH} {Q:Value→AH→Prop} {x:Operand} {op:UnOp}:WX S (.un op x) f h Q=yWV (xun op (ev f x)) (fun v=>Q v h) .mk:=WX_un
theorem yWX_conv {S:XS} {f:Fr} {h:AH} {Q:Value→AH→Prop} {x:Operand} {k:IntKind}:WX S (.conv k x) f h Q=yWV (convV k (ev f x)) (fun v=>Q v h) .mk:=WX_conv
theorem yWX_fadr {S:XS} {f:Fr} {h:AH} {Q:Value→AH→Prop} {x:Operand} {off:Nat}:WX S (.fadr off x) f h Q=yPQ (ev f x) (fun n o=>Q (.pointer (some ⟨n,o+off,none⟩)) h) .mk:=WX_fadr
theorem yWX_fld1 {S:XS} {f:Fr} {h:AH} {Q:Value→AH→Prop} {x:Operand} {off:Nat}:WX S (.fld1 off x) f h Q=yWV (fstV (ev f x) off) (fun v=>Q v h) .mk:=WX_fld1
theorem yWX_ext {S:XS} {f:Fr} {h:AH} {Q:Value→AH→Prop} {x:Operand} {i:Nat}:WX S (.ext x i) f h Q=yWV (extV (ev f x) i) (fun v=>Q v h) .mk:=WX_ext
theorem yWX_len {S:XS} {f:Fr} {h:AH} {Q:Value→AH→Prop} {x:Operand}:WX S (.len x) f h Q=yWV (lenV (ev f x)) (fun v=>Q v h) .mk:=WX_len
theorem yWX_ixs {S:XS} {f:Fr} {h:AH} {Q:Value→AH→Prop} {x y:Operand} {sz:Nat}:WX S (.ixs sz x y) f h Q=yWV (ixsV sz (ev f x) (ev f y)) (fun v=>Q v h) .mk:=WX_ixs
theorem yWX_ixa {S:XS} {f:Fr} {h:AH} {Q:Value→AH→Prop} {x y:Operand} {n sz:Nat}:WX S (.ixa n sz x y) f h Q=yWV (ixaV n sz (ev f x) (ev f y)) (fun v=>Q v h) .mk:=WX_ixa
theorem yWX_idx1 {S:XS} {f:Fr} {h:AH} {Q:Value→AH→Prop} {x y:Operand} {n:Nat}:WX S (.idx1 n x y) f h Q=yWV (idx1V n (ev f x) (ev f y)) (fun v=>Q v h) .mk:=WX_idx1
theorem yWX_idxn {S:XS} {f:Fr} {h:AH} {Q:Value→AH→Prop} {x y:Operand} {n sz:Nat}:WX S (.idxn n sz x y) f h Q=yWV (idxnV n sz (ev f x) (ev f y)) (fun v=>Q v h) .mk:=WX_idxn
theorem yWX_slc {S:XS} {f:Fr} {h:AH} {Q:Value→AH→Prop} {x:Operand} {sz:Nat} {lo hi:Option Operand}:WX S (.slc sz x lo hi) f h Q=yWV (slcV sz (ev f x) (omapF f lo) (omapF f hi)) (fun v=>Q v h) .mk:=WX_slc
theorem yWX_cap {S:XS} {f:Fr} {h:AH} {Q:Value→AH→Prop} {x:Operand}:WX S (.cap x) f h Q=yWV (capV (ev f x)) (fun v=>Q v h) .mk:=WX_cap
theorem yWX_isnil {S:XS} {f:Fr} {h:AH} {Q:Value→AH→Prop} {x:Operand} {neg:Bool}:WX S (.isnil neg x) f h Q=yWV (isnilV neg (ev f x)) (fun v=>Q v h) .mk:=WX_isnil
theorem yWX_eqb {S:XS} {f:Fr} {h:AH} {Q:Value→AH→Prop} {x y:Operand} {neg:Bool}:WX S (.eqb neg x y) f h Q=yWV (eqbV neg (ev f x) (ev f y)) (fun v=>Q v h) .mk:=WX_eqb
theorem yWX_eqa {S:XS} {f:Fr} {h:AH} {Q:Value→AH→Prop} {x y:Operand} {neg:Bool} {n:Nat}:WX S (.eqa neg n x y) f h Q=yWV (eqaV neg n (ev f x) (ev f y)) (fun v=>Q v h) .mk:=WX_eqa
theorem yWX_mks {S:XS} {f:Fr} {h:AH} {Q:Value→AH→Prop} {x:Operand} {e:TypeId} {sz bytes:Nat} {z:List Value}:WX S (.mks e sz bytes z x) f h Q=yOQ (mksV e sz bytes z (ev f x) h) Q .mk:=WX_mks
theorem yWX_app {S:XS} {f:Fr} {h:AH} {Q:Value→AH→Prop} {x y:Operand} {e:TypeId} {sz bytes:Nat}:WX S (.app e sz bytes x y) f h Q=yOQ (appV e sz bytes (ev f x) (ev f y) h) Q .mk:=WX_app
theorem yWX_appz {S:XS} {f:Fr} {h:AH} {Q:Value→AH→Prop} {x y:Operand} {e:TypeId} {sz bytes:Nat}:WX S (.appz e sz bytes x y) f h Q=yOQ (appzV e sz bytes (ev f x) (ev f y) h) Q .mk:=WX_appz
theorem yWX_mkf {S:XS} {f:Fr} {h:AH} {Q:Value→AH→Prop} {g:FuncId} {l:List Operand}:WX S (.mkf g l) f h Q=yLQ (l.map (ev f)) (fun c=>Q (.func (.func g) #[] c.toArray) h) .mk:=WX_mkf
theorem yWX_build {S:XS} {f:Fr} {h:AH} {Q:Value→AH→Prop} {z:List Value} {l:List (Nat×Nat×Operand)}:WX S (.build z l) f h Q=yVQ (fillL z (l.map fun p=>(p.1,p.2.1,ev f p.2.2))) (fun c=>c.all isOne=true∧Q (.agg c.toArray) h) .mk:=WX_build
theorem yWX_bslice {S:XS} {f:Fr} {h:AH} {Q:Value→AH→Prop} {e:TypeId} {sz n:Nat} {z:List Value} {l:List (Nat×Nat×Operand)}:WX S (.bslice e sz n z l) f h Q=yVQ (fillL (zrep n z) (l.map fun p=>(p.1,p.2.1,ev f p.2.2))) (fun c=>c.all isOne=true∧Q (.slice (some ⟨h.length,0,none⟩) n sz) (h.new ⟨c,e,false,true⟩)) .mk:=WX_bslice
theorem yWX_callf {S:XS} {f:Fr} {h:AH} {Q:Value→AH→Prop} {g:FuncId} {args:List Operand}:WX S (.call (.func g) args) f h Q=yWF S g (args.map (ev f)) h Q .mk .mk:=WX_callf
theorem yWX_calls {S:XS} {f:Fr} {h:AH} {Q:Value→AH→Prop} {fo:Operand} {args:List Operand}:WX S (.call fo args) f h Q=yWK S (ev f fo) (args.map (ev f)) h Q .mk .mk:=WX_calls
theorem yWO_guard {S:XS} {d:Option Nat} {o:XOp} {s:Nat} {b:Bool} {q:XQ} {rest:List XI} {f:Fr} {h:AH} {Q:Fr→AH→Prop}:WO S (⟨d,o,some (s,b),q⟩::rest) f h Q=yWG S (f s) b ⟨d,o,none,q⟩ rest f h Q .mk .mk .mk .mk .mk:=WO_guard
theorem yWC_cond {S:XS} {c:Operand} {a b:IR} {f:Fr} {h:AH} {Q:XE→Fr→AH→Prop}:WC S (.cond c a b) f h Q=yIfW (ev f c) (WC S a f h Q) (WC S b f h Q) .mk .mk:=WC_cond
theorem yRetQ_n {rs:List XRes} {f:Fr} {h:AH} {R:Value→AH→Prop}:RetQ rs R .normal f h=yOQ ((xres f h rs).map (·,h)) R .mk:=rfl
theorem yRetQ_r {rs:List XRes} {f:Fr} {h:AH} {R:Value→AH→Prop}:RetQ rs R .ret f h=yOQ ((xres f h rs).map (·,h)) R .mk:=rfl
theorem yfill_nil {z:List Value}:fillL z []=some z:=rfl
theorem yfill_cons {z:List Value} {off n:Nat} {x:Value} {rest:List (Nat×Nat×Value)}:fillL z ((off,n,x)::rest)=if (cellsL x).length=n∧off+n≤z.length then fillL (splice z off (cellsL x)) rest else none:=rfl
theorem yzrep_0 {z:List Value}:zrep 0 z=[]:=by simp[zrep]
theorem yzrep_1 {z:List Value}:zrep 1 z=z:=by simp[zrep]
theorem yzrep_2 {z:List Value}:zrep 2 z=z++z:=by simp[zrep]
theorem yzrep_3 {z:List Value}:zrep 3 z=z++z++z:=by simp[zrep]
theorem yzrep_4 {z:List Value}:zrep 4 z=z++z++z++z:=by simp[zrep]
theorem yzrep_5 {z:List Value}:zrep 5 z=z++z++z++z++z:=by simp[zrep]
theorem yzrep_6 {z:List Value}:zrep 6 z=z++z++z++z++z++z:=by simp[zrep]
theorem yzrep_7 {z:List Value}:zrep 7 z=z++z++z++z++z++z++z:=by simp[zrep]
theorem yzrep_8 {z:List Value}:zrep 8 z=z++z++z++z++z++z++z++z:=by simp[zrep]
theorem yzrep_9 {z:List Value}:zrep 9 z=z++z++z++z++z++z++z++z++z:=by simp[zrep]
theorem yWF_forth {S:XS} {g:FuncId} {args:List Value} {h:AH} {Q:Value→AH→Prop}:WF S g args h Q=yWF S g args h Q .mk .mk:=rfl
theorem yWK_forth {S:XS} {v:Value} {args:List Value} {h:AH} {Q:Value→AH→Prop}:WK S v args h Q=yWK S v args h Q .mk .mk:=rfl
theorem yWG_forth {S:XS} {v:Value} {b:Bool} {i:XI} {rest:List XI} {f:Fr} {h:AH} {Q:Fr→AH→Prop}:WG S v b i rest f h Q=yWG S v b i rest f h Q .mk .mk .mk .mk .mk:=rfl
def ypre:=And.intro @WC_skip (And.intro @WC_exit (And.intro @WC_ret (And.intro @WC_reg (And.intro @WC_seq (And.intro @yWC_cond (And.intro @WC_blk (And.intro @WO_free (And.intro @WO_calm (And.intro @WO_sload1 (And.intro @WO_sloadn (And.intro @WO_sstore (And.intro @WO_scall (And.intro @yWO_guard (And.intro @yWX_mv (And.intro @yWX_pick (And.intro @WX_alloc (And.intro @yWX_box (And.intro @yWX_boxn (And.intro @yWX_load1 (And.intro @yWX_loadn (And.intro @yWX_store (And.intro @yWX_bin (And.intro @yWX_un (And.intro @yWX_conv (And.intro @yWX_fadr (And.intro @yWX_fld1 (And.intro @yWX_ext (And.intro @yWX_len (And.intro @yWX_cap (And.intro @yWX_ixa (And.intro @yWX_idx1 (And.intro @yWX_idxn (And.intro @yWX_slc (And.intro @yWX_cap (And.intro @yWX_isnil (And.intro @yWX_ixs (And.intro @yWX_eqb (And.intro @yWX_eqa (And.intro @yWX_mks (And.intro @yWX_app (And.intro @yWX_appz (And.intro @yWX_mkz (And.intro @yWX_nchk (And.intro @yWX_clr (And.intro @yWX_idxt (And.intro @yWX_mkf (And.intro @yWX_build (And.intro @yWX_bslice (And.intro @yWX_callf (And.intro @yWX_calls (And.intro @ev_tmp (And.intro @ev_const (And.intro @ev_func (And.intro @updo_some (And.intro @updo_none (And.intro @upd_apply (And.intro @SeqQ_n (And.intro @SeqQ_e (And.intro @SeqQ_r (And.intro @BlkQ_n (And.intro @BlkQ_e (And.intro @BlkQ_r (And.intro @RegQ_eq (And.intro @yRetQ_n (And.intro @yRetQ_r (And.intro @InvQ_e (And.intro @InvQ_r (And.intro @LoopQ_e (And.intro @LoopQ_r (And.intro @yQV_forth (And.intro @yWV_forth (And.intro @yHQ_forth (And.intro @yPQ_forth (And.intro @yLQ_forth (And.intro @yVQ_forth (And.intro @yOQ_forth (And.intro @yIfW_forth (And.intro @yWF_forth (And.intro @yWK_forth (@yWG_forth))))))))))))))))))))))))))))))))))))))))))))))))))))))))))))))))))))))))))))))))
def ypost:=And.intro @AP_nil (And.intro @AP_cons (And.intro @KpV_ptr (And.intro @nchkV_p (And.intro @capV_nil (And.intro @WO_nil (And.intro @yWG_tt (And.intro @yWG_ff (And.intro @yWG_tf (And.intro @yWG_un (And.intro @yWG_ft (And.intro @yQV_eq (And.intro @yWV_some (And.intro @yOQ_some (And.intro @yWK_func (And.intro @yHQ_some (And.intro @yPQ_ptr (And.intro @yLQ_eq (And.intro @yVQ_some (And.intro @yIfW_t (And.intro @yIfW_f (And.intro @pickV_t (And.intro @pickV_f (And.intro @bin_add (And.intro @bin_sub (And.intro @bin_mul (And.intro @bin_eql (And.intro @bin_neq (And.intro @bin_lss (And.intro @bin_leq (And.intro @bin_gtr (And.intro @bin_geq (And.intro @un_not (And.intro @un_minus (And.intro @lenV_slice (And.intro @convV_int (And.intro @fstV_agg (And.intro @extV_tuple (And.intro @eqa3 (And.intro @eqbV_b (And.intro @cellsL_agg (And.intro @cellsL_int (And.intro @cellsL_bool (And.intro @cellsL_slice (And.intro @cellsL_ptr (And.intro @cellsL_func (And.intro @mksV_int (And.intro @yOQ_ite (And.intro @yWV_ite (And.intro @rd1_new_same (And.intro @rd1_new_lt (And.intro @rdn_new_lt (And.intro @get_new_lt (And.intro @wr_new_lt (And.intro @yHQ_ite (And.intro @map_ite_v (And.intro @rd1_put_same (And.intro @rdn_put_same (And.intro @rd1_put_ne (And.intro @rdn_put_ne (And.intro @wr_put_same (And.intro @wr_put_ne (And.intro @xres_tmp (And.intro @xres_tmp2 (And.intro @xres_cell (And.intro @xres_cells (And.intro @xres_2 (And.intro @tup2_some (And.intro @rd1V_ptr (And.intro @rdnV_ptr (And.intro @xres1_tmp (And.intro @xres1_cell (And.intro @xres1_cells (And.intro @args_nil (And.intro @args_cons (And.intro @map_some_v (And.intro @bind_some_v (And.intro @map_cons_v (And.intro @map_nil_v (And.intro @lit_nil (And.intro @lit_cons (And.intro @toL (And.intro @all_cons_v (And.intro @all_nil_v (And.intro @one_int (And.intro @one_bool (And.intro @one_slice (And.intro @one_func (And.intro @one_ptr (And.intro @len_cons_v (And.intro @len_nil_v (And.intro @drop_zero_v (And.intro @drop_cons_v (And.intro @take_zero_v (And.intro @take_nil_v (And.intro @take_cons_v (And.intro @app_nil_v (And.intro @app_cons_v (And.intro @get_new_same (And.intro @Bool.and_true (And.intro @Bool.true_and (And.intro @Bool.not_true (And.intro @Bool.not_false (And.intro @true_and (And.intro @and_true (And.intro @and_self (And.intro @decide_true (And.intro @decide_false (And.intro @yfill_nil (And.intro @yfill_cons (And.intro @yzrep_0 (And.intro @yzrep_1 (And.intro @yzrep_2 (And.intro @yzrep_3 (And.intro @yzrep_4 (And.intro @yzrep_5 (And.intro @yzrep_6 (And.intro @yzrep_7 (And.intro @yzrep_8 (@yzrep_9)))))))))))))))))))))))))))))))))))))))))))))))))))))))))))))))))))))))))))))))))))))))))))))))))))))))))))))))))))))))
def yback:=And.intro @yQV_back (And.intro @yWV_back (And.intro @yHQ_back (And.intro @yPQ_back (And.intro @yLQ_back (And.intro @yVQ_back (And.intro @yOQ_back (And.intro @yIfW_back (And.intro @yWF_back (And.intro @yWK_back (@yWG_back))))))))))
def ynew:=And.intro @wr_new_same (And.intro @rdn_new_same (@splice_cons))
set_option maxRecDepth 20000
set_option maxHeartbeats 4000000
def bs:Nat→(Nat→Bool)→Nat
 | 0,_=>0
 | R+1,f=>bs R f+(if f R=true then 2^R else 0)
def U32 (n:Nat):Value:=.int .u32 (n:Int)
section
variable {R:Nat} {f g:Nat→Bool}
end
def cntB (f:Nat→Bool):Nat→Nat
 | 0=>0
 | R+1=>cntB f R+(if f R=true then 1 else 0)
theorem cntB_congr {f g:Nat→Bool}:∀ {R:Nat},(∀ k,k<R→f k=g k)→cntB f R=cntB g R
 | 0,_=>rfl
 | R+1,h=>by
  unfold cntB
  rw[cntB_congr (R:=R) fun k hk=>h k (by omega),h R (by omega)]
theorem getD_app_l {α:Type} {l r:List α} {i:Nat} {d:α} (hi:i<l.length):(l++r).getD i d=l.getD i d:=by
 rw[List.getD_eq_getElem?_getD,List.getD_eq_getElem?_getD,List.getElem?_append_left hi]
theorem getD_app_r {α:Type} {l r:List α} {i:Nat} {d:α} (hi:l.length≤i):(l++r).getD i d=r.getD (i-l.length) d:=by
 rw[List.getD_eq_getElem?_getD,List.getD_eq_getElem?_getD,List.getElem?_append_right hi]
theorem app_ownW {e:TypeId} {w bytes:Nat} {h:AH} {k n n':Nat} {c vs:List Value} {full:Bool} (hk:h.get k=some ⟨c,e,false,full⟩) (hc:c.length=n*w) (hn:h.rdn n' 0 w=some vs)
  (hs:(n+1:Int)*bytes≤140737488355328∧(n+1:Int)≤9223372036854775807) :
  appV e w bytes (.slice (some ⟨k,0,none⟩) n w) (.slice (some ⟨n',0,none⟩) 1 w) h=some (.slice (some ⟨h.length,0,none⟩) (n+1) w,(h.kill k).new ⟨c++vs,e,false,false⟩):=by
 simp only[appV,xop,ev,if_true,Nat.one_mul,hn,hk]
 rw[if_pos (by simpa using hs)]
 simp[hc]
theorem app_nilW {e:TypeId} {w bytes:Nat} {h:AH} {n' t:Nat} {vs:List Value} (ht:t=0∨t=2) (hn:h.rdn n' 0 w=some vs) (hs:(1:Int)*bytes≤140737488355328) :
  appV e w bytes (.slice none 0 t) (.slice (some ⟨n',0,none⟩) 1 w) h=some (.slice (some ⟨h.length,0,none⟩) 1 w,h.new ⟨vs,e,false,false⟩):=by
 simp only[appV,xop,ev,if_true,Nat.one_mul,hn]
 rw[if_pos (by simpa using hs)]
 simp[ht]
def WayE (e:TypeId) (k:IntKind) (w:Nat) (h:AH) (lo bx:Nat) (sv:Value) (L:List (List Int)):Prop:=
 Wid w L∧((sv=.slice none 0 0∧L=[])∨∃ kb full,sv=.slice (some ⟨kb,0,none⟩) L.length w∧lo≤kb∧kb≠bx∧h.get kb=some ⟨cel k L.flatten,e,false,full⟩)
section
variable {e:TypeId} {k:IntKind} {w:Nat} {h h':AH} {lo bx:Nat} {sv:Value} {L:List (List Int)}
theorem WayE.pre (o:WayE e k w h lo bx sv L) (p:h<+:h'):WayE e k w h' lo bx sv L:=by
 obtain⟨hw,o|⟨kb,full,h1,h2,h3,h4⟩⟩:=o
 ·exact⟨hw,.inl o⟩
 ·exact⟨hw,.inr ⟨kb,full,h1,h2,h3,pre_get p h4⟩⟩
theorem WayE.one (o:WayE e k w h lo bx sv L):isOne sv=true:=by
 obtain⟨hw,⟨rfl,_⟩|⟨kb,full,rfl,h2,h3,h4⟩⟩:=o<;>rfl
theorem WayE.cells (o:WayE e k w h lo bx sv L):cellsL sv=[sv]:=by
 obtain⟨hw,⟨rfl,_⟩|⟨kb,full,rfl,h2,h3,h4⟩⟩:=o<;>rfl
theorem WayE.put {b:Blk} (o:WayE e k w h lo bx sv L):WayE e k w (h.put bx b) lo bx sv L:=by
 obtain⟨hw,o|⟨kb,full,h1,h2,h3,h4⟩⟩:=o
 ·exact⟨hw,.inl o⟩
 ·exact⟨hw,.inr ⟨kb,full,h1,h2,h3,by rw[get_put_ne (fun x=>h3 x.symm)];exact h4⟩⟩
theorem WayE.putb {b:Blk} {n:Nat} (o:WayE e k w h lo bx sv L) (hn:n<lo):WayE e k w (h.put n b) lo bx sv L:=by
 obtain⟨hw,o|⟨kb,full,h1,h2,h3,h4⟩⟩:=o
 ·exact⟨hw,.inl o⟩
 ·exact⟨hw,.inr ⟨kb,full,h1,h2,h3,by rw[get_put_ne (by omega)];exact h4⟩⟩
theorem WayE.inE (o:WayE e k w h lo bx sv L):InE k w lo h.length h sv L:=by
 obtain⟨hw,o|⟨kb,full,h1,h2,h3,h4⟩⟩:=o
 ·exact .inl o
 ·exact .inr ⟨kb,e,full,⟨h2,get_lt h4⟩,h1,h4,hw⟩
theorem WayE.app {H:AH} {q:List Int} {e':TypeId} {ro full:Bool} {bytes:Nat} (o:WayE e k w H lo bx sv L) (hq:q.length=w) (hl:((L.length:Int)+1)*bytes≤140737488355328) (hn:(L.length:Int)<1048576) (hlo:lo≤H.length) (hbx:bx<H.length)
  {Q:Value→AH→Prop} (hQ:∀ sv' H',H'.length=H.length+2→(∀ h0:AH,h0.length≤lo→h0<+:H→h0<+:H')→(∀ n c f,n<lo→OwnB H n c f→OwnB H' n c f)→(∀ c f,OwnB H bx c f→OwnB H' bx c f)→WayE e k w H' lo bx sv' (L++[q])→Q sv' H') :
  OQ (appV e w bytes sv (.slice (some ⟨H.length,0,none⟩) 1 w) (H.new ⟨cel k q,e',ro,full⟩)) Q:=by
 have hr:(H.new ⟨cel k q,e',ro,full⟩).rdn H.length 0 w=some (cel k q):=by
  rw[rdn_of get_new_same]
  simp only
  rw[if_pos (by rw[cel_len,hq];omega),List.drop_zero,List.take_of_length_le (by rw[cel_len,hq];omega)]
 obtain⟨hw,⟨rfl,rfl⟩|⟨kb,fu,rfl,h2,h3,h4⟩⟩:=o
 ·rw[app_nilW (.inl rfl) hr (by simp only[List.length_nil] at hl;omega),OQ_some]
  refine hQ _ _ (by rw[len_new,len_new]) (fun h0 _ p=>pre_new (pre_new p)) (fun n c f hn o=>(o.pre (pre_new (List.prefix_refl _))).pre (pre_new (List.prefix_refl _))) (fun c f o=>(o.pre (pre_new (List.prefix_refl _))).pre (pre_new (List.prefix_refl _))) ⟨?_,.inr ⟨_,false,rfl,by rw[len_new];omega,by rw[len_new];omega,?_⟩⟩
  ·intro r hr
   rw[List.nil_append,List.mem_singleton] at hr
   rw[hr,hq]
  ·rw[get_new_same]
   simp
 ·have hk:(H.new ⟨cel k q,e',ro,full⟩).get kb=some ⟨cel k L.flatten,e,false,fu⟩:=get_new_any h4
  have hkb:=get_lt h4
  rw[app_ownW hk (by rw[cel_len,flat_len hw]) hr ⟨hl,by omega⟩,OQ_some]
  refine hQ _ _ (by rw[len_new,len_kill,len_new]) (fun h0 q p=>pre_new (pre_kill (pre_new p) (by omega))) (fun n c f hn o=>?_) (fun c f o=>?_) ⟨?_,.inr ⟨(H.new ⟨cel k q,e',ro,full⟩).length,false,by simp,by rw[len_new];omega,by rw[len_new];omega,?_⟩⟩
  ·obtain⟨e',o⟩:=o
   exact⟨e',get_new_any (by rw[get_kill_ne (by omega)];exact get_new_any o)⟩
  ·obtain⟨e',o⟩:=o
   exact⟨e',get_new_any (by rw[get_kill_ne h3];exact get_new_any o)⟩
  ·intro r hr
   rcases List.mem_append.1 hr with hr|hr
   ·exact hw r hr
   ·rw[List.mem_singleton.1 hr,hq]
  ·rw[get_new_eq (by rw[len_kill])]
   simp[cel_app]
end
theorem InE.putb {k:IntKind} {w a b:Nat} {h:AH} {v:Value} {L:List (List Int)} {n:Nat} {bl:Blk} (o:InE k w a b h v L) (hn:n<a):InE k w a b (h.put n bl) v L:=by
 rcases o with o|⟨m,e,full,h1,rfl,h2,h3⟩
 ·exact .inl o
 ·exact .inr ⟨m,e,full,h1,rfl,by rw[get_put_ne (by omega)];exact h2,h3⟩
theorem InE.mono {k:IntKind} {w a b a' b':Nat} {h:AH} {v:Value} {L:List (List Int)} (o:InE k w a b h v L) (ha:a'≤a) (hb:b≤b'):InE k w a' b' h v L:=by
 rcases o with o|⟨m,e,full,h1,rfl,h2,h3⟩
 ·exact .inl o
 ·exact .inr ⟨m,e,full,⟨by omega,by omega⟩,rfl,h2,h3⟩
def SmallE (L:List (List Int)):Prop:=(L.length:Int)≤1048576
theorem Els.rdw {k:IntKind} {w:Nat} {h:AH} {v:Value} {L:List (List Int)} (e:Els k w h v L) {i:Nat} (hi:i<L.length) :
  ∃ n off,(∀ kk:IntKind,ixsV w v (.int kk i)=some (.pointer (some ⟨n,off,none⟩)))∧h.rdn n off w=some (cel k (L.getD i [])):=by
 obtain⟨n,off,hix,hrn,hr1⟩:=e.at hi
 have r:=hrn 0 w (by omega)
 rw[List.drop_zero,List.take_of_length_le (by rw[e.wid hi];exact Nat.le_refl _),Nat.add_zero] at r
 exact⟨n,off,hix,r⟩
structure Prg where
 p:Int
 n:Int
 st:List (List Int)
 out:List (List Int)
def PrgR (h:AH) (v w:Value) (x:Prg):Prop:=Els .i64 3 h v x.st∧Els .i64 2 h w x.out
def SmallP (x:Prg):Prop:=SmallE x.st∧SmallE x.out
def InP (a b:Nat) (h:AH) (v w:Value) (x:Prg):Prop:=∃ c,a≤c∧c≤b∧InE .i64 3 a c h v x.st∧InE .i64 2 c b h w x.out
section
variable {a b c d:Nat} {h h':AH} {v w:Value} {x:Prg}
theorem PrgR.pre (o:PrgR h v w x) (p:h<+:h'):PrgR h' v w x:=⟨o.1.pre p,o.2.pre p⟩
theorem InP.rd (o:InP a b h v w x):PrgR h v w x:=by
 obtain⟨c,h1,h2,h3,h4⟩:=o
 exact⟨h3.rd,h4.rd⟩
theorem InP.pre (o:InP a b h v w x) (p:h<+:h'):InP a b h' v w x:=by
 obtain⟨c,h1,h2,h3,h4⟩:=o
 exact⟨c,h1,h2,h3.pre p,h4.pre p⟩
theorem InP.only (o:InP a b h v w x) (u:OnlyR c d h h') (hd:b≤c∨d≤a):InP a b h' v w x:=by
 obtain⟨e,h1,h2,h3,h4⟩:=o
 exact⟨e,h1,h2,h3.only u (by omega),h4.only u (by omega)⟩
theorem InP.putb {n:Nat} {bl:Blk} (o:InP a b h v w x) (hn:n<a):InP a b (h.put n bl) v w x:=by
 obtain⟨e,h1,h2,h3,h4⟩:=o
 exact⟨e,h1,h2,h3.putb (by omega),h4.putb (by omega)⟩
theorem InP.mono {a' b':Nat} (o:InP a b h v w x) (ha:a'≤a) (hb:b≤b'):InP a' b' h v w x:=by
 obtain⟨e,h1,h2,h3,h4⟩:=o
 exact⟨e,by omega,by omega,h3.mono ha (Nat.le_refl _),h4.mono (Nat.le_refl _) hb⟩
end
def okStep (p n:Int) (q:List Int):Bool:=decide (0≤q.getD 0 0∧q.getD 0 0<n∧0≤q.getD 1 0∧q.getD 1 0<n∧q.getD 0 0≠q.getD 1 0∧1≤q.getD 2 0∧q.getD 2 0<p)
theorem map_get {l:List Int} {j:Nat} (hj:j<l.length):(l.map (Value.int .i64))[j]?=some (I64 (l.getD j 0)):=by
 simp[List.getD_eq_getElem?_getD,hj]
theorem map_set {l:List Int} {j:Nat} {x:Int} (hj:j<l.length):splice (l.map (Value.int .i64)) j [I64 x]=(l.set j x).map (Value.int .i64):=by
 rw[splice_set (by simpa using hj)]
 simp[List.map_set]
def Lst (h:AH) (n:Nat) (l:List Int) (full:Bool):Prop:=h.get n=some ⟨l.map (Value.int .i64),2,false,full⟩
def sl (n len:Nat):Value:=.slice (some ⟨n,0,none⟩) len 1
section
variable {h h':AH} {n:Nat} {l:List Int} {full:Bool}
theorem Lst.pre (o:Lst h n l full) (p:h<+:h'):Lst h' n l full:=pre_get p o
theorem Lst.lt (o:Lst h n l full):n<h.length:=get_lt o
theorem Lst.own (o:Lst h n l full):OwnB h n (l.map (Value.int .i64)) full:=⟨_,o⟩
theorem Lst.put_ne {m:Nat} {b:Blk} (o:Lst h n l full) (e:m≠n):Lst (h.put m b) n l full:=by
 unfold Lst
 rw[get_put_ne e]
 exact o
theorem Lst.ix {j:Int} {len:Nat} (h0:0≤j∧j<len):ixsV 1 (sl n len) (I64 j)=some (.pointer (some ⟨n,j.toNat,none⟩)):=by
 unfold sl
 rw[ixsV_some,if_pos ⟨h0.1,h0.2,rfl⟩]
 simp
theorem Lst.rd {j:Nat} (o:Lst h n l full) (hj:j<l.length):h.rd1 n j=some (I64 (l.getD j 0)):=by
 rw[rd1_of o]
 exact map_get hj
theorem Lst.wr {j:Nat} {x:Int} (o:Lst h n l full) (hj:j<l.length):∃ h',h.wr n j [I64 x]=some h'∧h'=h.put n ⟨(l.set j x).map (Value.int .i64),2,false,full⟩∧Lst h' n (l.set j x) full:=by
 refine⟨_,?_,rfl,get_put_same o.lt⟩
 rw[wr_of o,if_pos ⟨rfl,by simp only[List.length_map,List.length_singleton];omega⟩,map_set hj]
theorem Lst.ints (o:Lst h n l full):Ints h (sl n l.length) l:=Ints.own o rfl
theorem Lst.app {H:AH} {x:Int} {e':TypeId} {ro fu:Bool} (o:Lst H n l full) (hl:(l.length:Int)≤1048576) {Q:Value→AH→Prop}
  (hQ:∀ H',H'.length=H.length+2→(∀ h0:AH,h0.length≤n→h0<+:H→h0<+:H')→(∀ m c f,m≠n→OwnB H m c f→OwnB H' m c f)→(∀ m c f,m≠n→Lst H m c f→Lst H' m c f)→Lst H' (H.length+1) (l++[x]) false→Q (sl (H.length+1) (l++[x]).length) H') :
  OQ (appV 2 1 8 (sl n l.length) (.slice (some ⟨H.length,0,none⟩) 1 1) (H.new ⟨[I64 x],e',ro,fu⟩)) Q:=by
 have hn:(H.new ⟨[I64 x],e',ro,fu⟩).rdn H.length 0 1=some [I64 x]:=by rw[rdn_new_same];rfl
 have hk:(H.new ⟨[I64 x],e',ro,fu⟩).get n=some ⟨l.map (Value.int .i64),2,false,full⟩:=get_new_any o
 have hkb:=o.lt
 unfold sl
 rw[app_own hk (by simp) hn (by omega),OQ_some]
 have:=hQ (((H.new ⟨[I64 x],e',ro,fu⟩).kill n).new ⟨l.map (Value.int .i64)++[I64 x],2,false,false⟩) (by rw[len_new,len_kill,len_new]) (fun h0 q p=>pre_new (pre_kill (pre_new p) q))
  (fun m c f hm o=>(o.new.kill_ne (fun e=>hm e.symm)).new) (fun m c f hm o=>get_new_any (by rw[get_kill_ne (fun e=>hm e.symm)];exact get_new_any o)) (by unfold Lst;rw[get_new_eq (by rw[len_kill,len_new])];simp)
 unfold sl at this
 rw[len_new]
 rw[List.length_append,List.length_singleton] at this
 exact this
end
def nq (q:List Int) (i:Nat):Nat:=(q.getD i 0).toNat
def WayX (e:TypeId) (k:IntKind) (w:Nat) (h:AH) (lo:Nat) (ex:List Nat) (sv:Value) (L:List (List Int)):Prop:=
 Wid w L∧((sv=.slice none 0 0∧L=[])∨∃ kb full,sv=.slice (some ⟨kb,0,none⟩) L.length w∧lo≤kb∧kb∉ex∧h.get kb=some ⟨cel k L.flatten,e,false,full⟩)
section
variable {e:TypeId} {k:IntKind} {w:Nat} {h h':AH} {lo:Nat} {ex:List Nat} {sv:Value} {L:List (List Int)}
theorem WayX.pre (o:WayX e k w h lo ex sv L) (p:h<+:h'):WayX e k w h' lo ex sv L:=by
 obtain⟨hw,o|⟨kb,full,h1,h2,h3,h4⟩⟩:=o
 ·exact⟨hw,.inl o⟩
 ·exact⟨hw,.inr ⟨kb,full,h1,h2,h3,pre_get p h4⟩⟩
theorem WayX.one (o:WayX e k w h lo ex sv L):isOne sv=true:=by
 obtain⟨hw,⟨rfl,_⟩|⟨kb,full,rfl,h2,h3,h4⟩⟩:=o<;>rfl
theorem WayX.cells (o:WayX e k w h lo ex sv L):cellsL sv=[sv]:=by
 obtain⟨hw,⟨rfl,_⟩|⟨kb,full,rfl,h2,h3,h4⟩⟩:=o<;>rfl
theorem WayX.len (o:WayX e k w h lo ex sv L):lenV sv=some (I64 L.length):=by
 obtain⟨hw,⟨rfl,rfl⟩|⟨kb,full,rfl,h2,h3,h4⟩⟩:=o<;>rfl
theorem WayX.put {n:Nat} {b:Blk} (o:WayX e k w h lo ex sv L) (hn:n<lo∨n∈ex):WayX e k w (h.put n b) lo ex sv L:=by
 obtain⟨hw,o|⟨kb,full,h1,h2,h3,h4⟩⟩:=o
 ·exact⟨hw,.inl o⟩
 ·refine⟨hw,.inr ⟨kb,full,h1,h2,h3,?_⟩⟩
  rw[get_put_ne]
  ·exact h4
  ·rintro rfl
   rcases hn with hn|hn
   ·omega
   ·exact h3 hn
theorem WayX.keep (o:WayX e k w h lo ex sv L) (hk:∀ m c f,m∉ex→lo≤m→h.get m=some ⟨c,e,false,f⟩→h'.get m=some ⟨c,e,false,f⟩):WayX e k w h' lo ex sv L:=by
 obtain⟨hw,o|⟨kb,full,h1,h2,h3,h4⟩⟩:=o
 ·exact⟨hw,.inl o⟩
 ·exact⟨hw,.inr ⟨kb,full,h1,h2,h3,hk _ _ _ h3 h2 h4⟩⟩
theorem WayX.hold (o:WayX e k w h lo ex sv L):∃ E:List Nat,(∀ m,m∈E→lo≤m∧m<h.length∧m∉ex)∧∀ h':AH,(∀ m b,m∈E→h.get m=some b→h'.get m=some b)→WayX e k w h' lo ex sv L∧InE k w lo h.length h' sv L:=by
 obtain⟨hw,o|⟨kb,full,h1,h2,h3,h4⟩⟩:=o
 ·exact⟨[],fun m hm=>by simp at hm,fun h' _=>⟨⟨hw,.inl o⟩,.inl o⟩⟩
 ·refine⟨[kb],fun m hm=>?_,fun h' hk=>⟨⟨hw,.inr ⟨kb,full,h1,h2,h3,hk _ _ (by simp) h4⟩⟩,.inr ⟨kb,e,full,⟨h2,get_lt h4⟩,h1,hk _ _ (by simp) h4,hw⟩⟩⟩
  rw[List.mem_singleton] at hm
  subst hm
  exact⟨h2,get_lt h4,h3⟩
theorem WayX.inE (o:WayX e k w h lo ex sv L):InE k w lo h.length h sv L:=by
 obtain⟨hw,o|⟨kb,full,h1,h2,h3,h4⟩⟩:=o
 ·exact .inl o
 ·exact .inr ⟨kb,e,full,⟨h2,get_lt h4⟩,h1,h4,hw⟩
theorem WayX.app {H:AH} {q:List Int} {e':TypeId} {ro full:Bool} {bytes:Nat} (o:WayX e k w H lo ex sv L) (hq:q.length=w) (hl:((L.length:Int)+1)*bytes≤140737488355328) (hn:(L.length:Int)<1048576) (hlo:lo≤H.length) (hex:∀ m,m∈ex→m<H.length)
  {Q:Value→AH→Prop} (hQ:∀ (sv':Value) (H':AH),H'.length=H.length+2→(∀ h0:AH,h0.length≤lo→h0<+:H→h0<+:H')→(∀ m b,m<lo∨m∈ex→H.get m=some b→H'.get m=some b)→WayX e k w H' H.length ex sv' (L++[q])→Q sv' H') :
  OQ (appV e w bytes sv (.slice (some ⟨H.length,0,none⟩) 1 w) (H.new ⟨cel k q,e',ro,full⟩)) Q:=by
 have hr:(H.new ⟨cel k q,e',ro,full⟩).rdn H.length 0 w=some (cel k q):=by
  rw[rdn_of get_new_same]
  simp only
  rw[if_pos (by rw[cel_len,hq];omega),List.drop_zero,List.take_of_length_le (by rw[cel_len,hq];omega)]
 obtain⟨hw,⟨rfl,rfl⟩|⟨kb,fu,rfl,h2,h3,h4⟩⟩:=o
 ·rw[app_nilW (.inl rfl) hr (by simp only[List.length_nil] at hl;omega),OQ_some]
  refine hQ _ _ (by rw[len_new,len_new]) (fun h0 _ p=>pre_new (pre_new p)) (fun m b hm o=>get_new_any (get_new_any o)) ⟨?_,.inr ⟨_,false,rfl,by rw[len_new];omega,fun hm=>by have:=hex _ hm;rw[len_new] at this;omega,?_⟩⟩
  ·intro r hr
   rw[List.nil_append,List.mem_singleton] at hr
   rw[hr,hq]
  ·rw[get_new_same]
   simp
 ·have hk:(H.new ⟨cel k q,e',ro,full⟩).get kb=some ⟨cel k L.flatten,e,false,fu⟩:=get_new_any h4
  have hkb:=get_lt h4
  rw[app_ownW hk (by rw[cel_len,flat_len hw]) hr ⟨hl,by omega⟩,OQ_some]
  refine hQ _ _ (by rw[len_new,len_kill,len_new]) (fun h0 q p=>pre_new (pre_kill (pre_new p) (by omega))) (fun m b hm o=>?_) ⟨?_,.inr ⟨(H.new ⟨cel k q,e',ro,full⟩).length,false,by simp,by rw[len_new];omega,fun hm=>by have:=hex _ hm;rw[len_new] at this;omega,?_⟩⟩
  ·refine get_new_any ?_
   rw[get_kill_ne]
   ·exact get_new_any o
   ·rintro rfl
    rcases hm with hm|hm
    ·omega
    ·exact h3 hm
  ·intro r hr
   rcases List.mem_append.1 hr with hr|hr
   ·exact hw r hr
   ·rw[List.mem_singleton.1 hr,hq]
  ·rw[get_new_eq (by rw[len_kill])]
   simp[cel_app]
end
def Bls (h:AH) (n:Nat) (bs:List Bool):Prop:=h.get n=some ⟨bs.map Value.bool,4,false,true⟩
section
variable {h h':AH} {n:Nat} {bs:List Bool}
theorem Bls.pre (o:Bls h n bs) (p:h<+:h'):Bls h' n bs:=pre_get p o
theorem Bls.lt (o:Bls h n bs):n<h.length:=get_lt o
theorem Bls.rd {j:Nat} (o:Bls h n bs) (hj:j<bs.length):h.rd1 n j=some (.bool (bs.getD j false)):=by
 rw[rd1_of o]
 simp[List.getD_eq_getElem?_getD,hj]
theorem Bls.put_ne {m:Nat} {b:Blk} (o:Bls h n bs) (e:m≠n):Bls (h.put m b) n bs:=by
 unfold Bls
 rw[get_put_ne e]
 exact o
theorem Bls.wr {j:Nat} {x:Bool} (o:Bls h n bs) (hj:j<bs.length):∃ h',h.wr n j [.bool x]=some h'∧h'=h.put n ⟨(bs.set j x).map Value.bool,4,false,true⟩∧Bls h' n (bs.set j x):=by
 have e:splice (bs.map Value.bool) j [.bool x]=(bs.set j x).map Value.bool:=by
  rw[splice_set (by simpa using hj)]
  simp[List.map_set]
 refine⟨_,?_,rfl,get_put_same o.lt⟩
 rw[wr_of o,if_pos ⟨rfl,by simp only[List.length_map,List.length_singleton];omega⟩,e]
end
def rpOK (x:Prg) (ns:List Int):Prop:=allIn x.p ns=true∧(ns.length:Int)=x.n
instance {x:Prg} {ns:List Int}:Decidable (rpOK x ns):=by unfold rpOK;infer_instance
theorem Ints.cell {h:AH} {v:Value} {ns:List Int} (hv:Ints h v ns) {j:Nat} (hj:j<ns.length):∃ n off,(∀ kk:IntKind,ixsV 1 v (.int kk (j:Int))=some (.pointer (some ⟨n,off,none⟩)))∧h.rd1 n off=some (I64 (ns.getD j 0)):=by
 rcases hv with⟨rfl,t,_,rfl⟩|⟨b,off,blk,rfl,h2,h3,h4⟩
 ·simp at hj
 ·refine⟨b,off+j,fun kk=>?_,?_⟩
  ·rw[ixsV_some,if_pos (by omega)]
   simp
  ·rw[rd1_of h2]
   exact h4 j hj
theorem Rows.len {h:AH} {v:Value} {rows:List (List Int)} (hv:Rows h v rows):lenV v=some (I64 rows.length):=by
 obtain⟨cs,h1,h2,h3⟩:=hv
 rw[h1.len,h2]
theorem Rows.row {h:AH} {v:Value} {rows:List (List Int)} (hv:Rows h v rows) {i:Nat} (hi:i<rows.length) :
  ∃ n off x,(∀ kk:IntKind,ixsV 1 v (.int kk (i:Int))=some (.pointer (some ⟨n,off,none⟩)))∧h.rd1 n off=some x∧Ints h x (rows.getD i []):=by
 obtain⟨cs,hc,hl,hr⟩:=hv
 rcases hc with⟨rfl,t,_,rfl⟩|⟨b,off,blk,rfl,h2,h3,h4⟩
 ·simp at hl
  omega
 ·refine⟨b,off+i,cs.getD i undef,fun kk=>?_,?_,hr i hi⟩
  ·rw[ixsV_some,if_pos (by omega)]
   simp
  ·rw[rd1_of h2]
   exact h4 i (by omega)
theorem sl_cells {n l:Nat}:cellsL (sl n l)=[sl n l]:=rfl
theorem sl_one {n l:Nat}:isOne (sl n l)=true:=rfl
theorem TabS.app2 {h0 h2:AH} {nb n:Nat} {full fu fw:Bool} {L:List (Nat×List Int)} {r:List Int} {e:TypeId} (s:TabS h0 h2 nb full L) (hn:h0.length≤n∧n≠nb∧∀ p,p∈L→p.1≠n) (ob:OwnB h2 n (r.map (Value.int .i64)) fw)
  (hl:(L.length:Int)≤1048576) {Q:Value→AH→Prop}
  (hQ:∀ nb' H',TabS h0 H' nb' false (L++[(n,r)])→H'.length=h2.length+2→nb'=h2.length+1→(∀ m c fl,m≠nb→OwnB h2 m c fl→OwnB H' m c fl)→(∀ h9:AH,h9.length≤nb→h9<+:h2→h9<+:H')→Q (sl nb' (L++[(n,r)]).length) H') :
  OQ (appV 27 1 24 (sl nb L.length) (.slice (some ⟨h2.length,0,none⟩) 1 1) (h2.new ⟨[sl n r.length],e,false,fu⟩)) Q:=by
 have hrd:(h2.new ⟨[.slice (some ⟨n,0,none⟩) r.length 1],e,false,fu⟩).rdn h2.length 0 1=some [.slice (some ⟨n,0,none⟩) r.length 1]:=by rw[rdn_new_same];rfl
 have hk:(h2.new ⟨[.slice (some ⟨n,0,none⟩) r.length 1],e,false,fu⟩).get nb=some ⟨L.map rowV,27,false,full⟩:=get_new_any s.g
 have l1:=get_lt s.g
 have key:=s.app (e:=e) (fu:=fu) hn ob hl (Q:=fun v H'=>∃ nb',v=.slice (some ⟨nb',0,none⟩) (L++[(n,r)]).length 1∧TabS h0 H' nb' false (L++[(n,r)])) (fun nb' H' st=>⟨nb',rfl,st⟩)
 unfold sl at hQ ⊢
 rw[app_own hk (by simp) hrd (by omega),OQ_some] at key ⊢
 obtain⟨nb',e1,st⟩:=key
 have e2:nb'=h2.length+1:=by
  simp only[Value.slice.injEq,Option.some.injEq,Addr.mk.injEq] at e1
  rw[←e1.1.1,len_new]
 have:=hQ nb' _ st (by rw[len_new,len_kill,len_new]) e2 (fun m c fl hm o=>(o.new.kill_ne (fun e=>hm e.symm)).new) (fun h9 hh p=>pre_new (pre_kill (pre_new p) hh))
 rw[←e1] at this
 exact this
theorem TabS.cell {h0 h:AH} {nb i j:Nat} {full:Bool} {L:List (Nat×List Int)} {x:Int} {n:Nat} {r:List Int} (s:TabS h0 h nb full L) (hi:i<L.length) (hL:L[i]=(n,r)) (hj:j<r.length) :
  ∃ e fu,h.get n=some ⟨r.map (Value.int .i64),e,false,fu⟩∧TabS h0 (h.put n ⟨(r.set j x).map (Value.int .i64),e,false,fu⟩) nb full (L.set i (n,r.set j x)):=by
 have a:=s.rows _ (List.getElem_mem hi)
 rw[hL] at a
 obtain⟨⟨a1,a2⟩,fu,e,o⟩:=a
 refine⟨e,fu,o,pre_put s.hp a1,s.lo,?_,fun q hq=>?_,?_⟩
 ·rw[get_put_ne a2,s.g]
  congr 2
  rw[List.map_set]
  have:rowV (n,r.set j x)=(L.map rowV)[i]'(by simpa using hi):=by
   rw[List.getElem_map,hL]
   simp[rowV]
  rw[this,List.set_getElem_self]
 ·obtain⟨m,hm,rfl⟩:=List.mem_iff_getElem.1 hq
  have hm':m<L.length:=by simpa using hm
  by_cases hmi:m=i
  ·subst hmi
   rw[List.getElem_set_self]
   exact⟨⟨a1,a2⟩,fu,e,get_put_same (get_lt o)⟩
  ·rw[List.getElem_set_ne (fun q=>hmi q.symm)]
   have b:=s.rows _ (List.getElem_mem hm')
   obtain⟨b1,fq,oq⟩:=b
   refine⟨b1,fq,oq.put_ne ?_⟩
   have hd:=List.pairwise_iff_getElem.1 s.dist
   rcases Nat.lt_or_gt_of_ne hmi with hlt|hgt
   ·have:=hd m i hm' hi hlt
    rw[hL] at this
    exact fun q=>this q.symm
   ·have:=hd i m hi hm' hgt
    rw[hL] at this
    exact this
 ·have e1:(L.set i (n,r.set j x)).map Prod.fst=L.map Prod.fst:=by
   rw[List.map_set]
   have:(n,r.set j x).1=(L.map Prod.fst)[i]'(by simpa using hi):=by rw[List.getElem_map,hL]
   rw[this,List.set_getElem_self]
  have h1:=List.pairwise_map (f:=Prod.fst) (R:=fun a b:Nat=>a≠b) (l:=L)
  have h2:=List.pairwise_map (f:=Prod.fst) (R:=fun a b:Nat=>a≠b) (l:=L.set i (n,r.set j x))
  rw[←h2,e1,h1]
  exact s.dist
def trL (rows:List (List Int)) (w:Nat):List (List Int):=(List.range w).map fun j=>gen rows.length fun i=>(rows.getD i []).getD j 0
theorem WayX.app2 {e:TypeId} {k:IntKind} {w:Nat} {lo:Nat} {sv:Value} {L:List (List Int)} {H:AH} {q:List Int} {e':TypeId} {ro full:Bool} {bytes:Nat} (o:WayX e k w H lo [] sv L) (hq:q.length=w) (hl:((L.length:Int)+1)*bytes≤140737488355328) (hn:(L.length:Int)<1048576) (hlo:lo≤H.length)
  {Q:Value→AH→Prop} (hQ:∀ (sv':Value) (H':AH),H'.length=H.length+2→(∀ h0:AH,h0.length≤lo→h0<+:H→h0<+:H')→(∀ m b,b.e≠e→H.get m=some b→H'.get m=some b)→WayX e k w H' H.length [] sv' (L++[q])→Q sv' H') :
  OQ (appV e w bytes sv (.slice (some ⟨H.length,0,none⟩) 1 w) (H.new ⟨cel k q,e',ro,full⟩)) Q:=by
 have hr:(H.new ⟨cel k q,e',ro,full⟩).rdn H.length 0 w=some (cel k q):=by
  rw[rdn_of get_new_same]
  simp only
  rw[if_pos (by rw[cel_len,hq];omega),List.drop_zero,List.take_of_length_le (by rw[cel_len,hq];omega)]
 obtain⟨hw,⟨rfl,rfl⟩|⟨kb,fu,rfl,h2,h3,h4⟩⟩:=o
 ·rw[app_nilW (.inl rfl) hr (by simp only[List.length_nil] at hl;omega),OQ_some]
  refine hQ _ _ (by rw[len_new,len_new]) (fun h0 _ p=>pre_new (pre_new p)) (fun m b _ o=>get_new_any (get_new_any o)) ⟨?_,.inr ⟨_,false,rfl,by rw[len_new];omega,by simp,?_⟩⟩
  ·intro r hr
   rw[List.nil_append,List.mem_singleton] at hr
   rw[hr,hq]
  ·rw[get_new_same]
   simp
 ·have hk:(H.new ⟨cel k q,e',ro,full⟩).get kb=some ⟨cel k L.flatten,e,false,fu⟩:=get_new_any h4
  have hkb:=get_lt h4
  rw[app_ownW hk (by rw[cel_len,flat_len hw]) hr ⟨hl,by omega⟩,OQ_some]
  refine hQ _ _ (by rw[len_new,len_kill,len_new]) (fun h0 q p=>pre_new (pre_kill (pre_new p) (by omega))) (fun m b hm o=>?_) ⟨?_,.inr ⟨(H.new ⟨cel k q,e',ro,full⟩).length,false,by simp,by rw[len_new];omega,by simp,?_⟩⟩
  ·refine get_new_any ?_
   rw[get_kill_ne]
   ·exact get_new_any o
   ·rintro rfl
    rw[h4] at o
    cases o
    exact hm rfl
  ·intro r hr
   rcases List.mem_append.1 hr with hr|hr
   ·exact hw r hr
   ·rw[List.mem_singleton.1 hr,hq]
  ·rw[get_new_eq (by rw[len_kill])]
   simp[cel_app]
theorem WayX.types {e e':TypeId} {k:IntKind} {w:Nat} {h h':AH} {lo:Nat} {sv:Value} {L:List (List Int)} (o:WayX e k w h lo [] sv L) (he:e≠e') (hk:∀ m b,b.e≠e'→h.get m=some b→h'.get m=some b):WayX e k w h' lo [] sv L:=
 o.keep fun m c f _ _ g=>hk _ _ he g
structure Stay (lo:Nat) (h h':AH):Prop where
 len:h.length≤h'.length
 pre:∀ h0:AH,h0.length≤lo→h0<+:h→h0<+:h'
 get:∀ m b,h.get m=some b→b.e≠181→b.e≠183→h'.get m=some b
theorem Stay.refl {lo:Nat} {h:AH}:Stay lo h h:=⟨Nat.le_refl _,fun _ _ p=>p,fun _ _ g _ _=>g⟩
theorem Stay.of {lo:Nat} {h h':AH} (p:h<+:h'):Stay lo h h':=⟨pre_len p,fun _ _ q=>q.trans p,fun _ _ g _ _=>pre_get p g⟩
theorem Stay.trans {lo:Nat} {h h1 h2:AH} (a:Stay lo h h1) (b:Stay lo h1 h2):Stay lo h h2:=
 ⟨Nat.le_trans a.len b.len,fun h0 hl p=>b.pre h0 hl (a.pre h0 hl p),fun m c g h1 h2=>b.get m c (a.get m c g h1 h2) h1 h2⟩
theorem Stay.put {lo:Nat} {h h':AH} {n:Nat} {b:Blk} (a:Stay lo h h') (hn:h.length≤n) (hlo:lo≤n):Stay lo h (h'.put n b):=
 ⟨by rw[len_put];exact a.len,fun h0 hl p=>pre_put (a.pre h0 hl p) (by omega),fun m c g h1 h2=>by
  have:=get_lt g
  rw[get_put_ne (by omega)]
  exact a.get m c g h1 h2⟩
def invP (p n:Int):Int:=if (1*n).tmod p=1 then 1 else if (2*n).tmod p=1 then 2 else if (3*n).tmod p=1 then 3 else 4
structure RS where
 st:List (List Int)
 val:Int
 fac:Int
def rowSt (p n:Int) (st0:List (List Int)) (row:List Int):Nat→RS
 | 0=>⟨st0,-1,0⟩
 | k+1=>
  let s:=rowSt p n st0 row k
  if row.getD k 0=0 then s else if s.val<0 then ⟨s.st,k,row.getD k 0⟩
  else ⟨s.st++[[s.val,k,(row.getD k 0*invP p s.fac).tmod p]],n+((s.st.length:Int)+1)-1,s.fac⟩
def rowP (x:Prg) (row:List Int):Prg:=
 let s:=rowSt x.p x.n x.st row row.length
 ⟨x.p,x.n,s.st,x.out++[[max s.val 0,s.fac]]⟩
def finP (x:Prg) (rows:List (List Int)):Nat→Prg
 | 0=>x
 | i+1=>rowP (finP x rows i) (rows.getD i [])
structure Way2 (h:AH) (lo:Nat) (v w:Value) (x:Prg):Prop where
 st:WayX (181) .i64 3 h lo [] v x.st
 out:WayX (183) .i64 2 h lo [] w x.out
theorem Way2.pre {h h':AH} {lo:Nat} {v w:Value} {x:Prg} (o:Way2 h lo v w x) (p:h<+:h'):Way2 h' lo v w x:=⟨o.st.pre p,o.out.pre p⟩
theorem Way2.rd {h:AH} {lo:Nat} {v w:Value} {x:Prg} (o:Way2 h lo v w x):PrgR h v w x:=⟨o.st.inE.rd,o.out.inE.rd⟩
def OrdB (v w:Value):Prop:=∀ a b la lb wa wb,v=.slice (some ⟨a,0,none⟩) la wa→w=.slice (some ⟨b,0,none⟩) lb wb→a<b
theorem WayX.ord {e e':TypeId} {k:IntKind} {w w':Nat} {h h':AH} {lo:Nat} {ex ex':List Nat} {sv so:Value} {L L':List (List Int)} (o:WayX e k w h lo ex sv L) (o':WayX e' k w' h' h.length ex' so L'):OrdB sv so:=by
 intro a b la lb wa wb e1 e2
 obtain⟨hw,⟨h1,_⟩|⟨kb,full,h1,h2,h3,h4⟩⟩:=o
 ·rw[e1] at h1
  cases h1
 ·obtain⟨hw',⟨h1',_⟩|⟨kb',full',h1',h2',h3',h4'⟩⟩:=o'
  ·rw[e2] at h1'
   cases h1'
  ·rw[e1] at h1
   rw[e2] at h1'
   simp only[Value.slice.injEq,Option.some.injEq,Addr.mk.injEq,and_true] at h1 h1'
   have:=get_lt h4
   omega
def RowsS (lo:Nat) (h:AH) (u:Value) (rows:List (List Int)):Prop:=
 ∃ cs,(∀ h',Stay lo h h'→Vals h' u cs)∧cs.length=rows.length∧∀ i,i<rows.length→∀ h',Stay lo h h'→Ints h' (cs.getD i undef) (rows.getD i [])
theorem Rows.stays {h:AH} {u:Value} {rows:List (List Int)} (o:Rows h u rows):RowsS h.length h u rows:=by
 obtain⟨cs,h1,h2,h3⟩:=o
 exact⟨cs,fun h' s=>h1.pre (s.pre _ (Nat.le_refl _) (List.prefix_refl _)),h2,fun i hi h' s=>(h3 i hi).pre (s.pre _ (Nat.le_refl _) (List.prefix_refl _))⟩
theorem RowsS.trans {lo:Nat} {h h1:AH} {u:Value} {rows:List (List Int)} (o:RowsS lo h u rows) (s:Stay lo h h1):RowsS lo h1 u rows:=by
 obtain⟨cs,c1,c2,c3⟩:=o
 exact⟨cs,fun h' t=>c1 _ (s.trans t),c2,fun i hi h' t=>c3 i hi _ (s.trans t)⟩
def mkB (p:Int) (T:List (List Int)) (i j r:Nat) (k:Nat):Bool:=decide (tb T k i≠0)&&decide (tb T k j=(tb T k i*r).tmod p)
def cntT (p:Int) (T:List (List Int)) (i j r:Nat):Nat:=cntB (mkB p T i j r) T.length
structure BS where
 l:Nat
 j:Nat
 r:Nat
 m:Nat
def upB (s:BS) (i j r c:Nat):BS:=if s.m<c then ⟨i,j,r,c⟩ else s
section
variable (p:Int) (T:List (List Int))
def foldR (i j:Nat):Nat→BS→BS
 | 0,s=>s
 | n+1,s=>upB (foldR i j n s) i j (n+1) (cntT p T i j (n+1))
def foldJ (i:Nat):Nat→BS→BS
 | 0,s=>s
 | n+1,s=>foldR p T i (i+1+n) (p.toNat-1) (foldJ i n s)
def foldI (W:Nat):Nat→BS→BS
 | 0,s=>s
 | n+1,s=>foldJ p T n (W-(n+1)) (foldI W n s)
def bst:BS:=foldI p T (T.getD 0 []).length (T.getD 0 []).length ⟨0,0,0,1⟩
end
def BOK (p:Int) (T:List (List Int)) (W:Nat) (s:BS):Prop:=2≤s.m→s.l<s.j∧s.j<W∧1≤s.r∧(s.r:Int)<p∧s.m=cntT p T s.l s.j s.r
theorem upB_ok {p:Int} {T:List (List Int)} {W i j r:Nat} {s:BS} (h:BOK p T W s) (h1:i<j∧j<W∧1≤r∧(r:Int)<p):BOK p T W (upB s i j r (cntT p T i j r)):=by
 unfold upB
 split
 ·exact fun _=>⟨h1.1,h1.2.1,h1.2.2.1,h1.2.2.2,rfl⟩
 ·exact h
theorem foldR_ok {p:Int} {T:List (List Int)} {W i j:Nat} {s:BS} (h:BOK p T W s) (h1:i<j∧j<W):∀ {n:Nat},(n:Int)<p→BOK p T W (foldR p T i j n s)
 | 0,_=>h
 | n+1,hn=>upB_ok (foldR_ok h h1 (n:=n) (by omega)) ⟨h1.1,h1.2,by omega,hn⟩
theorem foldJ_ok {p:Int} {T:List (List Int)} {W i:Nat} {s:BS} (hp:1≤p) (h:BOK p T W s):∀ {n:Nat},i+1+n≤W→BOK p T W (foldJ p T i n s)
 | 0,_=>h
 | n+1,hn=>foldR_ok (foldJ_ok hp h (n:=n) (by omega)) ⟨by omega,by omega⟩ (by omega)
theorem foldI_ok {p:Int} {T:List (List Int)} {W:Nat} {s:BS} (hp:1≤p) (h:BOK p T W s):∀ {n:Nat},n≤W→BOK p T W (foldI p T W n s)
 | 0,_=>h
 | n+1,hn=>foldJ_ok hp (foldI_ok hp h (n:=n) (by omega)) (by omega)
theorem mul_nz {p a r:Int} (hp:isP p=true) (ha:1≤a∧a<p) (hr:1≤r∧r<p):1≤(a*r).tmod p∧(a*r).tmod p<p:=by
 have hpp:p=2∨p=3∨p=5:=by simpa [isP] using hp
 rcases hpp with rfl|rfl|rfl
 ·have h1:a=1:=by omega
  have h3:r=1:=by omega
  subst h1 h3
  decide
 ·have h1:a=1∨a=2:=by omega
  have h3:r=1∨r=2:=by omega
  rcases h1 with rfl|rfl<;>rcases h3 with rfl|rfl<;>decide
 ·have h1:a=1∨a=2∨a=3∨a=4:=by omega
  have h3:r=1∨r=2∨r=3∨r=4:=by omega
  rcases h1 with rfl|rfl|rfl|rfl<;>rcases h3 with rfl|rfl|rfl|rfl<;>decide
def mvOK (p:Int) (l j r:Nat) (row:List Int):Bool:=decide (row.getD l 0≠0)&&decide (row.getD j 0=(row.getD l 0*r).tmod p)
def mvRow (p:Int) (l j r:Nat) (row:List Int):List Int:=if mvOK p l j r row=true then ((row.set l 0).set j 0)++[row.getD l 0] else row++[0]
def mvT (p:Int) (s:BS) (T:List (List Int)):List (List Int):=T.map (mvRow p s.l s.j s.r)
def GT (p:Int) (W:Nat) (T:List (List Int)):Prop:=∀ k,k<T.length→(T.getD k []).length=W∧∀ i,i<W→0≤tb T k i∧tb T k i<p
theorem mvRow_len {p:Int} {l j r:Nat} {row:List Int}:(mvRow p l j r row).length=row.length+1:=by
 unfold mvRow
 split<;>simp
theorem mvT_len {p:Int} {s:BS} {T:List (List Int)}:(mvT p s T).length=T.length:=by simp[mvT]
theorem mvT_get {p:Int} {s:BS} {T:List (List Int)} {k:Nat} (hk:k<T.length):(mvT p s T).getD k []=mvRow p s.l s.j s.r (T.getD k []):=by
 simp[mvT,List.getD_eq_getElem?_getD,List.getElem?_map,List.getElem?_eq_getElem hk]
theorem mvRow_at {p:Int} {l j r i:Nat} {row:List Int} (hl:l<row.length) (hj:j<row.length) (hi:i≤row.length) :
  (mvRow p l j r row).getD i 0=if i=row.length then (if mvOK p l j r row=true then row.getD l 0 else 0) else if mvOK p l j r row=true∧(i=l∨i=j) then 0 else row.getD i 0:=by
 unfold mvRow
 by_cases hm:mvOK p l j r row=true
 ·rw[if_pos hm,if_pos hm]
  by_cases he:i=row.length
  ·subst he
   rw[if_pos rfl,List.getD_eq_getElem?_getD,List.getElem?_append_right (by simp)]
   simp
  ·rw[if_neg he,List.getD_eq_getElem?_getD,List.getElem?_append_left (by simp;omega),←List.getD_eq_getElem?_getD,set_getD (by simp;exact hj),set_getD hl]
   by_cases h1:i=j
   ·rw[if_pos h1,if_pos ⟨hm,.inr h1⟩]
   ·rw[if_neg h1]
    by_cases h2:i=l
    ·rw[if_pos h2,if_pos ⟨hm,.inl h2⟩]
    ·rw[if_neg h2,if_neg (fun h=>h.2.elim h2 h1)]
 ·rw[if_neg hm,if_neg hm]
  by_cases he:i=row.length
  ·subst he
   rw[if_pos rfl,List.getD_eq_getElem?_getD,List.getElem?_append_right (Nat.le_refl _)]
   simp
  ·rw[if_neg he,if_neg (fun h=>hm h.1),List.getD_eq_getElem?_getD,List.getElem?_append_left (by omega),←List.getD_eq_getElem?_getD]
theorem GT.step {p:Int} {W:Nat} {T:List (List Int)} {s:BS} (g:GT p W T) (hp:1≤p) (h1:s.l<W) (h2:s.j<W):GT p (W+1) (mvT p s T):=by
 intro k hk
 rw[mvT_len] at hk
 obtain⟨gl,gi⟩:=g k hk
 refine⟨by rw[mvT_get hk,mvRow_len,gl],fun i hi=>?_⟩
 have hi':tb (mvT p s T) k i=(mvRow p s.l s.j s.r (T.getD k [])).getD i 0:=by unfold tb;rw[mvT_get hk]
 rw[hi',mvRow_at (by omega) (by omega) (by omega)]
 have g1:=gi s.l h1
 unfold tb at gi g1
 split
 ·split
  ·exact g1
  ·omega
 ·split
  ·omega
  ·exact gi i (by omega)
def nzR (row:List Int):Nat:=cntB (fun i=>decide (row.getD i 0≠0)) row.length
def sumN (f:Nat→Nat):Nat→Nat
 | 0=>0
 | n+1=>sumN f n+f n
def nzT (T:List (List Int)):Nat:=sumN (fun k=>nzR (T.getD k [])) T.length
theorem cntB_flip {f g:Nat→Bool} {l:Nat} (h1:f l=true) (h2:g l=false) (h3:∀ k,k≠l→f k=g k):∀ {R:Nat},l<R→cntB f R=cntB g R+1
 | 0,h=>by omega
 | R+1,h=>by
  unfold cntB
  by_cases e:l=R
  ·subst e
   rw[h1,h2,cntB_congr (f:=f) (g:=g) fun k hk=>h3 k (by omega)]
   simp
  ·rw[cntB_flip h1 h2 h3 (R:=R) (by omega),h3 R (fun q=>e q.symm)]
   omega
theorem nzR_mv {p:Int} {l j r:Nat} {row:List Int} (hp:isP p=true) (hl:l<row.length) (hj:j<row.length) (hlj:l≠j) (hr:1≤r∧(r:Int)<p) (g:∀ i,i<row.length→0≤row.getD i 0∧row.getD i 0<p) :
  nzR (mvRow p l j r row)+(if mvOK p l j r row=true then 1 else 0)=nzR row:=by
 have e:∀ i,i≤row.length→(mvRow p l j r row).getD i 0=_:=fun i hi=>mvRow_at hl hj hi
 unfold nzR
 rw[mvRow_len]
 show cntB _ row.length+(if (decide ((mvRow p l j r row).getD row.length 0≠0))=true then 1 else 0)+_=_
 rw[e row.length (Nat.le_refl _),if_pos rfl]
 by_cases hm:mvOK p l j r row=true
 ·have hm':=hm
  unfold mvOK at hm'
  rw[Bool.and_eq_true,decide_eq_true_eq,decide_eq_true_eq] at hm'
  have gl:=g l hl
  have nz:=mul_nz hp (a:=row.getD l 0) (r:=r) (by omega) (by omega)
  rw[if_pos hm,if_pos hm,if_pos (decide_eq_true hm'.1)]
  have f1:=cntB_flip (f:=fun i=>decide (row.getD i 0≠0)) (g:=fun i=>if i=l then false else decide (row.getD i 0≠0)) (l:=l) (decide_eq_true hm'.1) (by simp) (fun k hk=>by simp[hk]) (R:=row.length) hl
  have f2:=cntB_flip (f:=fun i=>if i=l then false else decide (row.getD i 0≠0)) (g:=fun i=>if i=j then false else if i=l then false else decide (row.getD i 0≠0)) (l:=j) (by
   show (if j=l then false else decide (row.getD j 0≠0))=true
   rw[if_neg (fun q=>hlj q.symm),decide_eq_true (by omega)]) (by simp) (fun k hk=>by simp[hk]) (R:=row.length) hj
  have f3:cntB (fun i=>decide ((mvRow p l j r row).getD i 0≠0)) row.length=cntB (fun i=>if i=j then false else if i=l then false else decide (row.getD i 0≠0)) row.length:=cntB_congr fun k hk=>by
   show decide ((mvRow p l j r row).getD k 0≠0)=if k=j then false else if k=l then false else decide (row.getD k 0≠0)
   rw[e k (by omega),if_neg (by omega)]
   by_cases h1:k=j
   ·rw[if_pos ⟨hm,.inr h1⟩,if_pos h1]
    rfl
   ·by_cases h2:k=l
    ·rw[if_pos ⟨hm,.inl h2⟩,if_neg h1,if_pos h2]
     rfl
    ·rw[if_neg (fun h=>h.2.elim h2 h1),if_neg h1,if_neg h2]
  rw[f3,f1,f2]
 ·rw[if_neg hm,if_neg hm,if_neg (by simp)]
  refine cntB_congr fun k hk=>?_
  show decide ((mvRow p l j r row).getD k 0≠0)=_
  rw[e k (by omega),if_neg (by omega),if_neg (fun h=>hm h.1)]
theorem sumN_add {f g h:Nat→Nat}:∀ {n:Nat},(∀ k,k<n→f k+g k=h k)→sumN f n+sumN g n=sumN h n
 | 0,_=>rfl
 | n+1,hh=>by
  have ih:=sumN_add (n:=n) fun k hk=>hh k (by omega)
  have:=hh n (by omega)
  unfold sumN
  omega
theorem sumN_cnt {f:Nat→Bool}:∀ {n:Nat},sumN (fun k=>if f k=true then 1 else 0) n=cntB f n
 | 0=>rfl
 | n+1=>by
  unfold sumN cntB
  rw[sumN_cnt (n:=n)]
theorem nzT_mv {p:Int} {W:Nat} {T:List (List Int)} {s:BS} (hp:isP p=true) (g:GT p W T) (h1:s.l<s.j∧s.j<W∧1≤s.r∧(s.r:Int)<p):nzT (mvT p s T)+cntT p T s.l s.j s.r=nzT T:=by
 unfold nzT cntT
 rw[mvT_len,←sumN_cnt]
 refine sumN_add fun k hk=>?_
 obtain⟨gl,gi⟩:=g k hk
 rw[mvT_get hk]
 exact nzR_mv hp (by omega) (by omega) (by omega) ⟨h1.2.2.1,h1.2.2.2⟩ (by rw[gl];exact gi)
structure SS where
 T:List (List Int)
 st:List (List Int)
def stepS (p:Int) (s:SS):SS:=⟨mvT p (bst p s.T) s.T,s.st++[[((bst p s.T).l:Int),((bst p s.T).j:Int),((bst p s.T).r:Int)]]⟩
def shF (p:Int):Nat→SS→SS
 | 0,s=>s
 | f+1,s=>if 2≤(bst p s.T).m then shF p f (stepS p s) else s
theorem bst_ok {p:Int} {W:Nat} {T:List (List Int)} (hp:isP p=true) (g:GT p W T) (hT:1≤T.length) (h:2≤(bst p T).m) :
  (bst p T).l<(bst p T).j∧(bst p T).j<W∧1≤(bst p T).r∧((bst p T).r:Int)<p∧(bst p T).m=cntT p T (bst p T).l (bst p T).j (bst p T).r:=by
 have hp5:=isP_in hp
 have hw:=(g 0 (by omega)).1
 have:=foldI_ok (T:=T) (W:=(T.getD 0 []).length) (s:=⟨0,0,0,1⟩) (show 1≤p by omega) (fun h=>by simp only at h;omega) (n:=(T.getD 0 []).length) (Nat.le_refl _)
 rw[←hw]
 exact this h
theorem stepS_facts {p:Int} {W:Nat} {s:SS} (hp:isP p=true) (g:GT p W s.T) (hT:1≤s.T.length) (h:2≤(bst p s.T).m) :
  GT p (W+1) (stepS p s).T∧(stepS p s).T.length=s.T.length∧nzT (stepS p s).T+2≤nzT s.T:=by
 have hp5:=isP_in hp
 obtain⟨h1,h2,h3,h4,h5⟩:=bst_ok hp g hT h
 refine⟨g.step (by omega) (by omega) h2,mvT_len,?_⟩
 have:=nzT_mv hp g ⟨h1,h2,h3,h4⟩
 show nzT (mvT p (bst p s.T) s.T)+2≤_
 omega
theorem shF_same {p:Int} (hp:isP p=true):∀ {f g W:Nat} {s:SS},GT p W s.T→1≤s.T.length→nzT s.T≤f→nzT s.T≤g→shF p f s=shF p g s
 | 0,0,_,_,_,_,_,_=>rfl
 | 0,g+1,W,s,gt,hT,h1,h2=>by
  unfold shF
  rw[if_neg]
  intro h
  have:=(stepS_facts hp gt hT h).2.2
  omega
 | f+1,0,W,s,gt,hT,h1,h2=>by
  unfold shF
  rw[if_neg]
  intro h
  have:=(stepS_facts hp gt hT h).2.2
  omega
 | f+1,g+1,W,s,gt,hT,h1,h2=>by
  unfold shF
  by_cases h:2≤(bst p s.T).m
  ·rw[if_pos h,if_pos h]
   obtain⟨a,b,c⟩:=stepS_facts hp gt hT h
   exact shF_same hp a (by omega) (by omega) (by omega)
  ·rw[if_neg h,if_neg h]
theorem shF_go {p:Int} {W:Nat} {s:SS} (hp:isP p=true) (g:GT p W s.T) (hT:1≤s.T.length) (h:2≤(bst p s.T).m):shF p (nzT s.T) s=shF p (nzT (stepS p s).T) (stepS p s):=by
 obtain⟨a,b,c⟩:=stepS_facts hp g hT h
 obtain⟨f,hf⟩:∃ f,nzT s.T=f+1:=⟨nzT s.T-1,by omega⟩
 rw[hf]
 show (if 2≤(bst p s.T).m then shF p f (stepS p s) else s)=_
 rw[if_pos h]
 exact shF_same hp a (by omega) (by omega) (Nat.le_refl _)
def shS (p:Int) (rows:List (List Int)):SS:=shF p (nzT rows) ⟨rows,[]⟩
def shP (p n:Int) (rows:List (List Int)):Prg:=finP ⟨p,n,(shS p rows).st,[]⟩ (shS p rows).T (shS p rows).T.length
structure ShI (p:Int) (N:Nat) (rows:List (List Int)) (s:SS):Prop where
 gt:GT p (N+s.st.length) s.T
 len:s.T.length=rows.length
 nz:s.st.length+nzT s.T≤900
 eq:shF p (nzT s.T) s=shS p rows
 wid:Wid 3 s.st
theorem ShI.go {p:Int} {N:Nat} {rows:List (List Int)} {s:SS} (i:ShI p N rows s) (hp:isP p=true) (hT:1≤rows.length) (h:2≤(bst p s.T).m):ShI p N rows (stepS p s)∧nzT (stepS p s).T<nzT s.T:=by
 have hT':1≤s.T.length:=by rw[i.len];exact hT
 obtain⟨a,b,c⟩:=stepS_facts hp i.gt hT' h
 have e:(stepS p s).st.length=s.st.length+1:=by simp[stepS]
 have n:=i.nz
 refine⟨⟨by rw[e];exact a,by rw[b,i.len],by omega,by rw[←shF_go hp i.gt hT' h];exact i.eq,?_⟩,by omega⟩
 intro q hq
 rcases List.mem_append.1 (show q∈s.st++_ from hq) with hq|hq
 ·exact i.wid q hq
 ·rw[List.mem_singleton.1 hq]
  rfl
structure TabL (h:AH) (lo nb:Nat) (full:Bool) (L:List (Nat×List Int)):Prop where
 g:h.get nb=some ⟨L.map rowV,27,false,full⟩
 low:lo≤nb
 rows:∀ i (hi:i<L.length),lo≤(L[i]).1∧∃ fu,Lst h (L[i]).1 (L[i]).2 fu
 dist:∀ i j (hi:i<L.length) (hj:j<L.length),i≠j→(L[i]).1≠(L[j]).1
section
variable {h h':AH} {lo nb:Nat} {full:Bool} {L:List (Nat×List Int)}
theorem TabL.keep (s:TabL h lo nb full L) (hk:∀ m b,(b.e=2∨b.e=27)→h.get m=some b→h'.get m=some b):TabL h' lo nb full L:=
 ⟨hk _ _ (.inr rfl) s.g,s.low,fun i hi=>⟨(s.rows i hi).1,by obtain⟨fu,o⟩:=(s.rows i hi).2;exact⟨fu,hk _ _ (.inl rfl) o⟩⟩,s.dist⟩
theorem TabL.pre (s:TabL h lo nb full L) (p:h<+:h'):TabL h' lo nb full L:=s.keep fun m b _ g=>pre_get p g
theorem TabL.put (s:TabL h lo nb full L) {n:Nat} {b b':Blk} (g:h.get n=some b') (hb:b'.e≠2∧b'.e≠27):TabL (h.put n b) lo nb full L:=s.keep fun m c hc g'=>by
 rw[get_put_ne]
 ·exact g'
 ·rintro rfl
  rw[g] at g'
  cases g'
  rcases hc with hc|hc
  ·exact hb.1 hc
  ·exact hb.2 hc
theorem TabL.rd (s:TabL h lo nb full L) {i:Nat} (hi:i<L.length):h.rd1 nb i=some (sl (L[i]).1 (L[i]).2.length):=by
 rw[rd1_of s.g]
 simp[hi,rowV,sl]
theorem TabL.ne (s:TabL h lo nb full L) {i:Nat} (hi:i<L.length):(L[i]).1≠nb:=by
 obtain⟨fu,o⟩:=(s.rows i hi).2
 intro e
 have g:=s.g
 unfold Lst at o
 rw[e,g] at o
 have:=congrArg (fun b:Option Blk=>b.map (·.e)) o
 simp at this
theorem TabL.vals (s:TabL h lo nb full L):Vals h (sl nb L.length) (L.map rowV):=by
 refine .inr ⟨nb,0,_,?_,s.g,by simp,fun i hi=>?_⟩
 ·simp[sl]
 ·rw[Nat.zero_add,List.getD_eq_getElem?_getD,List.getElem?_eq_getElem hi]
  rfl
theorem TabL.at (s:TabL h lo nb full L) {i:Nat} (hi:i<L.length):Ints h ((L.map rowV).getD i undef) ((L.map Prod.snd).getD i []):=by
 obtain⟨fu,o⟩:=(s.rows i hi).2
 have e1:(L.map rowV).getD i undef=sl (L[i]).1 (L[i]).2.length:=by simp[List.getD_eq_getElem?_getD,hi,rowV,sl]
 have e2:(L.map Prod.snd).getD i []=(L[i]).2:=by simp[List.getD_eq_getElem?_getD,hi]
 rw[e1,e2]
 exact o.ints
theorem TabL.upd (s:TabL h lo nb full L) {i n':Nat} {r':List Int} {fu':Bool} (hi:i<L.length) (hl:Lst h' n' r' fu') (hlo:lo≤n') (hg:h'.get nb=some ⟨(L.set i (n',r')).map rowV,27,false,full⟩)
  (ho:∀ j (hj:j<L.length),j≠i→∀ fu,Lst h (L[j]).1 (L[j]).2 fu→Lst h' (L[j]).1 (L[j]).2 fu) (hd:∀ j (hj:j<L.length),j≠i→(L[j]).1≠n'):TabL h' lo nb full (L.set i (n',r')):=by
 refine⟨hg,s.low,fun j hj=>?_,fun a b ha hb hab=>?_⟩
 ·have hj':j<L.length:=by simpa using hj
  rw[List.getElem_set]
  split
  ·exact⟨hlo,fu',hl⟩
  ·rename_i hne
   obtain⟨q1,fu,o⟩:=s.rows j hj'
   exact⟨q1,fu,ho j hj' (fun e=>hne e.symm) fu o⟩
 ·have ha':a<L.length:=by simpa using ha
  have hb':b<L.length:=by simpa using hb
  rw[List.getElem_set,List.getElem_set]
  by_cases h1:i=a
  ·rw[if_pos h1,if_neg (by omega)]
   exact fun e=>hd b hb' (by omega) e.symm
  ·rw[if_neg h1]
   by_cases h2:i=b
   ·rw[if_pos h2]
    exact hd a ha' (by omega)
   ·rw[if_neg h2]
    exact s.dist a b ha' hb' hab
theorem TabL.cell (s:TabL h lo nb full L) {i c n:Nat} {r:List Int} {fu:Bool} {x:Int} (hi:i<L.length) (hL:L[i]=(n,r)) (o:Lst h n r fu) :
  TabL (h.put n ⟨(r.set c x).map (Value.int .i64),2,false,fu⟩) lo nb full (L.set i (n,r.set c x)):=by
 have hne:=s.ne hi
 have hr:=(s.rows i hi).1
 rw[hL] at hne hr
 refine s.upd hi (fu':=fu) (get_put_same o.lt) hr ?_ (fun j hj hji fu' o'=>?_) (fun j hj hji=>?_)
 ·rw[get_put_ne hne,s.g]
  congr 2
  rw[List.map_set]
  have:rowV (n,r.set c x)=(L.map rowV)[i]'(by simpa using hi):=by
   rw[List.getElem_map,hL]
   simp[rowV]
  rw[this,List.set_getElem_self]
 ·have:=s.dist i j hi hj (fun e=>hji e.symm)
  rw[hL] at this
  exact o'.put_ne this
 ·have:=s.dist j i hj hi hji
  rw[hL] at this
  exact this
theorem TabL.store (s:TabL h lo nb full L) {i n n':Nat} {r r':List Int} (hi:i<L.length) (hL:L[i]=(n,r)) (hk:∀ m b,m≠n→h.get m=some b→h'.get m=some b) (hl:Lst h' n' r' false) (hn':h.length≤n') (hlo:lo≤h.length) :
  h'.wr nb i [sl n' r'.length]=some (h'.put nb ⟨(L.set i (n',r')).map rowV,27,false,full⟩)∧TabL (h'.put nb ⟨(L.set i (n',r')).map rowV,27,false,full⟩) lo nb full (L.set i (n',r')):=by
 have hne:=s.ne hi
 rw[hL] at hne
 have g':=hk _ _ hne.symm s.g
 have ltn:∀ j (hj:j<L.length),(L[j]).1<h.length:=fun j hj=>by
  obtain⟨fu,o⟩:=(s.rows j hj).2
  exact o.lt
 have lnb:=get_lt s.g
 constructor
 ·rw[wr_of g',if_pos ⟨rfl,by simp only[List.length_map,List.length_singleton];omega⟩]
  congr 3
  rw[splice_set (by simpa using hi),List.map_set]
  rfl
 ·refine s.upd hi (fu':=false) (hl.put_ne (by omega)) (by omega) (get_put_same (get_lt g')) (fun j hj hji fu' o'=>?_) (fun j hj hji=>by have:=ltn j hj;omega)
  have hd:=s.dist i j hi hj (fun e=>hji e.symm)
  rw[hL] at hd
  have o2:Lst h' (L[j]).1 (L[j]).2 fu':=hk _ _ hd.symm o'
  exact o2.put_ne (s.ne hj).symm
theorem TabL.app {n:Nat} {fu fw:Bool} {r:List Int} {e:TypeId} {h2:AH} (s:TabL h2 lo nb full L) (hn:lo≤n) (hd:∀ j (hj:j<L.length),(L[j]).1≠n) (ob:Lst h2 n r fw) (hlo:lo≤h2.length)
  (hl:(L.length:Int)≤1048576) {Q:Value→AH→Prop}
  (hQ:∀ H':AH,H'.length=h2.length+2→TabL H' lo (h2.length+1) false (L++[(n,r)])→(∀ m b,m≠nb→h2.get m=some b→H'.get m=some b)→(∀ h9:AH,h9.length≤nb→h9<+:h2→h9<+:H')→Q (sl (h2.length+1) (L++[(n,r)]).length) H') :
  OQ (appV 27 1 24 (sl nb L.length) (.slice (some ⟨h2.length,0,none⟩) 1 1) (h2.new ⟨[sl n r.length],e,false,fu⟩)) Q:=by
 have hrd:(h2.new ⟨[.slice (some ⟨n,0,none⟩) r.length 1],e,false,fu⟩).rdn h2.length 0 1=some [.slice (some ⟨n,0,none⟩) r.length 1]:=by rw[rdn_new_same];rfl
 have hk:(h2.new ⟨[.slice (some ⟨n,0,none⟩) r.length 1],e,false,fu⟩).get nb=some ⟨L.map rowV,27,false,full⟩:=get_new_any s.g
 have l1:=get_lt s.g
 have keep:∀ m b,m≠nb→h2.get m=some b→(((h2.new ⟨[.slice (some ⟨n,0,none⟩) r.length 1],e,false,fu⟩).kill nb).new ⟨L.map rowV++[.slice (some ⟨n,0,none⟩) r.length 1],27,false,false⟩).get m=some b:=fun m b hm g=>get_new_any (by rw[get_kill_ne (fun e=>hm e.symm)];exact get_new_any g)
 unfold sl at hQ ⊢
 rw[app_own hk (by simp) hrd (by omega),OQ_some]
 have:=hQ _ (by rw[len_new,len_kill,len_new]) ?_ keep (fun h9 hh p=>pre_new (pre_kill (pre_new p) hh))
 ·rw[len_new]
  rw[List.length_append,List.length_singleton] at this
  exact this
 ·refine⟨by rw[get_new_eq (by rw[len_kill,len_new])];simp[rowV],by omega,fun i hi=>?_,fun a b ha hb hab=>?_⟩
  ·by_cases hiL:i<L.length
   ·rw[List.getElem_append_left hiL]
    obtain⟨q1,fq,o⟩:=s.rows i hiL
    exact⟨q1,fq,keep _ _ (s.ne hiL) o⟩
   ·have e1:i=L.length:=by simp at hi;omega
    subst e1
    rw[List.getElem_append_right (Nat.le_refl _)]
    simp only[Nat.sub_self,List.getElem_cons_zero]
    refine⟨hn,fw,keep _ _ ?_ ob⟩
    rintro rfl
    have g:=s.g
    unfold Lst at ob
    rw[g] at ob
    have:=congrArg (fun b:Option Blk=>b.map (·.e)) ob
    simp at this
  ·by_cases ha':a<L.length
   ·rw[List.getElem_append_left ha']
    by_cases hb':b<L.length
    ·rw[List.getElem_append_left hb']
     exact s.dist a b ha' hb' hab
    ·have e1:b=L.length:=by simp at hb;omega
     subst e1
     rw[List.getElem_append_right (Nat.le_refl _)]
     simp only[Nat.sub_self,List.getElem_cons_zero]
     exact hd a ha'
   ·have e1:a=L.length:=by simp at ha;omega
    subst e1
    have hb':b<L.length:=by simp at hb;omega
    rw[List.getElem_append_right (Nat.le_refl _),List.getElem_append_left hb']
    simp only[Nat.sub_self,List.getElem_cons_zero]
    exact (hd b hb').symm
end
structure StayT (lo:Nat) (h h':AH):Prop where
 len:h.length≤h'.length
 pre:∀ h0:AH,h0.length≤lo→h0<+:h→h0<+:h'
 get:∀ m b,h.get m=some b→b.e≠2→b.e≠27→h'.get m=some b
theorem StayT.refl {lo:Nat} {h:AH}:StayT lo h h:=⟨Nat.le_refl _,fun _ _ p=>p,fun _ _ g _ _=>g⟩
theorem StayT.of {lo:Nat} {h h':AH} (p:h<+:h'):StayT lo h h':=⟨pre_len p,fun _ _ q=>q.trans p,fun _ _ g _ _=>pre_get p g⟩
theorem StayT.trans {lo:Nat} {h h1 h2:AH} (a:StayT lo h h1) (b:StayT lo h1 h2):StayT lo h h2:=
 ⟨Nat.le_trans a.len b.len,fun h0 hl p=>b.pre h0 hl (a.pre h0 hl p),fun m c g h1 h2=>b.get m c (a.get m c g h1 h2) h1 h2⟩
theorem StayT.put {lo n:Nat} {h:AH} {b b':Blk} (g:h.get n=some b') (hb:b'.e=2∨b'.e=27) (hlo:lo≤n):StayT lo h (h.put n b):=
 ⟨by rw[len_put];exact Nat.le_refl _,fun h0 hl p=>pre_put p (by omega),fun m c g' h1 h2=>by
  rw[get_put_ne]
  ·exact g'
  ·rintro rfl
   rw[g] at g'
   cases g'
   rcases hb with hb|hb
   ·exact h1 hb
   ·exact h2 hb⟩
structure StayI (lo:Nat) (h h':AH):Prop where
 len:h.length≤h'.length
 pre:∀ h0:AH,h0.length≤lo→h0<+:h→h0<+:h'
 get:∀ m b,h.get m=some b→(b.e=2∨b.e=27)→h'.get m=some b
theorem StayI.refl {lo:Nat} {h:AH}:StayI lo h h:=⟨Nat.le_refl _,fun _ _ p=>p,fun _ _ g _=>g⟩
theorem StayI.trans {lo:Nat} {h h1 h2:AH} (a:StayI lo h h1) (b:StayI lo h1 h2):StayI lo h h2:=
 ⟨Nat.le_trans a.len b.len,fun h0 hl p=>b.pre h0 hl (a.pre h0 hl p),fun m c g h1=>b.get m c (a.get m c g h1) h1⟩
theorem StayI.put {lo n:Nat} {h:AH} {b b':Blk} (g:h.get n=some b') (hb:b'.e≠2∧b'.e≠27) (hlo:lo≤n):StayI lo h (h.put n b):=
 ⟨by rw[len_put];exact Nat.le_refl _,fun h0 hl p=>pre_put p (by omega),fun m c g' h1=>by
  rw[get_put_ne]
  ·exact g'
  ·rintro rfl
   rw[g] at g'
   cases g'
   rcases h1 with h1|h1
   ·exact hb.1 h1
   ·exact hb.2 h1⟩
def Col (T:List (List Int)) (i:Nat) (q:List Int):Prop:=q.length=5∧∀ x:Nat,1≤x→x<5→q.getD x 0=((bs T.length fun k=>decide (tb T k i=x):Nat):Int)
theorem Col.at {T:List (List Int)} {i x:Nat} {q:List Int} (c:Col T i q) (h:1≤x∧x<5):(cel .u32 q)[x]?=some (U32 (bs T.length fun k=>decide (tb T k i=x))):=by
 rw[cel_get (by rw[c.1];exact h.2),c.2 x h.1 h.2]
 rfl
theorem ixa_u {n off len:Nat} {kk:IntKind} {j:Nat} (h:j<len):ixaV len 1 (.pointer (some ⟨n,off,none⟩)) (.int kk (j:Int))=some (.pointer (some ⟨n,off+j,none⟩)):=by
 rw[ixaV_ptr (by omega),Int.toNat_natCast,Nat.mul_one]
theorem flat_cell {w c x:Nat} {L:List (List Int)} {v:Int} (hw:Wid w L) (hc:c<L.length) (hx:x<w):L.flatten.set (c*w+x) v=(L.set c ((L.getD c []).set x v)).flatten:=by
 have hq:(L.getD c []).length=w:=by
  rw[List.getD_eq_getElem?_getD,List.getElem?_eq_getElem hc]
  exact hw _ (List.getElem_mem hc)
 have e0:=flat_set (r:=L.getD c []) hw hc
 have e1:=flat_set (r:=(L.getD c []).set x v) hw hc
 have es:L.set c (L.getD c [])=L:=by
  rw[List.getD_eq_getElem?_getD,List.getElem?_eq_getElem hc]
  exact List.set_getElem_self hc
 rw[es] at e0
 have hrow:=mul_row (w:=w) hc
 have hl:(L.flatten.take (c*w)).length=c*w:=by
  rw[List.length_take,flat_len hw]
  omega
 rw[←e1]
 conv=>lhs;rw[←e0]
 rw[List.set_append_left _ _ (by rw[List.length_append,hl,hq];omega),List.set_append_right _ _ (by rw[hl];omega),hl,show c*w+x-c*w=x by omega]
structure ColT (h:AH) (nb:Nat) (full:Bool) (L:List (List Int)):Prop where
 g:h.get nb=some ⟨cel .u32 L.flatten,246,false,full⟩
 wid:Wid 5 L
def tv (nb len:Nat):Value:=.slice (some ⟨nb,0,none⟩) len 5
section
variable {h h':AH} {nb:Nat} {full:Bool} {L:List (List Int)}
theorem ColT.pre (o:ColT h nb full L) (p:h<+:h'):ColT h' nb full L:=⟨pre_get p o.g,o.wid⟩
theorem ColT.put_ne {m:Nat} {b:Blk} (o:ColT h nb full L) (e:m≠nb):ColT (h.put m b) nb full L:=⟨by rw[get_put_ne e];exact o.g,o.wid⟩
theorem ColT.get (o:ColT h nb full L) (hk:h'.get nb=h.get nb):ColT h' nb full L:=⟨by rw[hk];exact o.g,o.wid⟩
theorem ColT.ix {c len:Nat} {kk:IntKind} (hc:c<len):ixsV 5 (tv nb len) (.int kk (c:Int))=some (.pointer (some ⟨nb,c*5,none⟩)):=by
 unfold tv
 rw[ixsV_some,if_pos (by omega)]
 simp
theorem ColT.row (o:ColT h nb full L) {c:Nat} (hc:c<L.length):(L.getD c []).length=5:=by
 rw[List.getD_eq_getElem?_getD,List.getElem?_eq_getElem hc]
 exact o.wid _ (List.getElem_mem hc)
theorem ColT.rd (o:ColT h nb full L) {c x:Nat} (hc:c<L.length) (hx:x<5):h.rd1 nb (c*5+x)=some (.int .u32 ((L.getD c []).getD x 0)):=by
 rw[rd1_of o.g]
 have hf:=flat_len o.wid
 have hrow:=mul_row (w:=5) hc
 show (cel .u32 L.flatten)[c*5+x]?=_
 rw[cel_get (by omega)]
 have hg:=flat_get o.wid hc
 rw[←hg]
 rw[List.getD_eq_getElem?_getD,List.getD_eq_getElem?_getD,List.getElem?_take,if_pos hx,List.getElem?_drop]
theorem ColT.rdn (o:ColT h nb full L) {c:Nat} (hc:c<L.length):h.rdn nb (c*5) 5=some (cel .u32 (L.getD c [])):=by
 rw[rdn_of o.g]
 have hf:=flat_len o.wid
 have hrow:=mul_row (w:=5) hc
 show (if c*5+5≤(cel .u32 L.flatten).length then some (((cel .u32 L.flatten).drop (c*5)).take 5) else none)=_
 rw[if_pos (by rw[cel_len];omega),cel_drop,cel_take,flat_get o.wid hc]
theorem ColT.wr (o:ColT h nb full L) {c x:Nat} {v:Int} (hc:c<L.length) (hx:x<5) :
  ∃ h',h.wr nb (c*5+x) [.int .u32 v]=some h'∧h'=h.put nb ⟨cel .u32 (L.set c ((L.getD c []).set x v)).flatten,246,false,full⟩∧ColT h' nb full (L.set c ((L.getD c []).set x v)):=by
 have hf:=flat_len o.wid
 have hrow:=mul_row (w:=5) hc
 refine⟨_,?_,rfl,get_put_same (get_lt o.g),?_⟩
 ·rw[wr_of o.g,if_pos ⟨rfl,by simp only[cel_len,List.length_singleton];omega⟩,cel_set (by omega),flat_cell o.wid hc hx]
 ·intro q hq
  rcases List.mem_or_eq_of_mem_set hq with hq|rfl
  ·exact o.wid q hq
  ·rw[List.length_set]
   exact o.row hc
theorem ColT.els (o:ColT h nb full L):Els .u32 5 h (tv nb L.length) L:=by
 refine .inr ⟨nb,0,_,rfl,o.g,fun i hi=>?_⟩
 have:=mul_row (w:=5) hi
 simp only[cel_len,flat_len o.wid,Nat.zero_add,cel_drop,cel_take,flat_get o.wid hi]
 exact⟨by omega,trivial⟩
theorem ColT.way (o:ColT h nb full L) {lo:Nat} {ex:List Nat} (h1:lo≤nb) (h2:nb∉ex):WayX (246) .u32 5 h lo ex (tv nb L.length) L:=⟨o.wid,.inr ⟨nb,full,rfl,h1,h2,o.g⟩⟩
end
section
variable {rows:List (List Int)} {N i c:Nat}
end
section
variable {p:Int} {T:List (List Int)} {s:BS}
end
def lsF (x:Sch) (i n:Nat):List (List Int):=x.ps.map fun q=>(seg q i).take n
def fmX (x:Sch) (i:Nat):List (List Int):=if i=2 then trL (lsF x 2 (x.n*x.k).toNat) (x.n*x.k).toNat else lsF x i (pl x i).toNat
def nuX (x:Sch) (i:Nat):Int:=if i=2 then x.ps.length else pl x i
def pgO (p n:Int) (rows:List (List Int)) (b:Bool):Prg:=if b=true then shP p n rows else finP ⟨p,n,[],[]⟩ rows rows.length
def pgX (x:Sch) (b:Bool) (i:Nat):Prg:=pgO x.p (nuX x i) (fmX x i) b
theorem isX_facts {x:Sch} (h:isX x=true):SZ x∧isP x.p=true∧x.ps.length≤30∧∀ j,j<x.ps.length→okProd x (x.ps.getD j [])=true:=by
 unfold isX at h
 simp only[Bool.and_eq_true,decide_eq_true_eq] at h
 obtain⟨⟨h1,h2⟩,h3⟩:=h
 refine⟨szX_facts h1,?_,h2,fun j hj=>?_⟩
 ·unfold szX at h1
  simp only[Bool.and_eq_true] at h1
  exact h1.1.1.1
 ·rw[List.all_eq_true] at h3
  refine h3 _ ?_
  rw[List.getD_eq_getElem?_getD,List.getElem?_eq_getElem hj]
  exact List.getElem_mem hj
def prgC (x:Prg) (v w:Value):List Value:=[I64 x.p,I64 x.n,v,w]
structure Pr3 (h:AH) (nb:Nat) (x:Sch) (b:Bool) (v1 w1 v2 w2 v3 w3:Value):Prop where
 g:∃ fl,h.get nb=some ⟨prgC (pgX x b 0) v1 w1++prgC (pgX x b 1) v2 w2++prgC (pgX x b 2) v3 w3,70,false,fl⟩
 r1:PrgR h v1 w1 (pgX x b 0)
 r2:PrgR h v2 w2 (pgX x b 1)
 r3:PrgR h v3 w3 (pgX x b 2)
section
variable {h h':AH} {nb:Nat} {x:Sch} {b:Bool} {v1 w1 v2 w2 v3 w3:Value}
theorem Pr3.pre (o:Pr3 h nb x b v1 w1 v2 w2 v3 w3) (p:h<+:h'):Pr3 h' nb x b v1 w1 v2 w2 v3 w3:=
 ⟨by obtain⟨fl,g⟩:=o.g;exact⟨fl,pre_get p g⟩,o.r1.pre p,o.r2.pre p,o.r3.pre p⟩
theorem Pr3.at (o:Pr3 h nb x b v1 w1 v2 w2 v3 w3) {i:Nat} (hi:i<3):∃ y z,h.rd1 nb (i*4+2)=some y∧h.rdn nb (i*4) 4=some (prgC (pgX x b i) y z)∧PrgR h y z (pgX x b i):=by
 obtain⟨fl,g⟩:=o.g
 have hc:i=0∨i=1∨i=2:=by omega
 rcases hc with rfl|rfl|rfl
 ·exact⟨v1,w1,by rw[rd1_of g];rfl,by rw[rdn_of g];rfl,o.r1⟩
 ·exact⟨v2,w2,by rw[rd1_of g];rfl,by rw[rdn_of g];rfl,o.r2⟩
 ·exact⟨v3,w3,by rw[rd1_of g];rfl,by rw[rdn_of g];rfl,o.r3⟩
end
theorem ix4 {nb len i:Nat} {kk:IntKind} (hi:i<len):ixsV 4 (.slice (some ⟨nb,0,none⟩) len 4) (.int kk (i:Int))=some (.pointer (some ⟨nb,i*4,none⟩)):=by
 rw[ixsV_some,if_pos (by omega)]
 simp
theorem InE.move {k:IntKind} {w a b:Nat} {h h':AH} {v:Value} {L:List (List Int)} (o:InE k w a b h v L) (hk:∀ m bl,a≤m→m<b→h.get m=some bl→h'.get m=some bl):InE k w a b h' v L:=by
 rcases o with o|⟨m,e,full,h1,rfl,h2,h3⟩
 ·exact .inl o
 ·exact .inr ⟨m,e,full,h1,rfl,hk _ _ h1.1 h1.2 h2,h3⟩
theorem InP.move {a b:Nat} {h h':AH} {v w:Value} {x:Prg} (o:InP a b h v w x) (hk:∀ m bl,a≤m→m<b→h.get m=some bl→h'.get m=some bl):InP a b h' v w x:=by
 obtain⟨c,h1,h2,h3,h4⟩:=o
 exact⟨c,h1,h2,h3.move fun m bl q1 q2 g=>hk m bl q1 (by omega) g,h4.move fun m bl q1 q2 g=>hk m bl (by omega) q2 g⟩
end Go.Proofs.Ytapafdpnmakekaa.X

set_option linter.unusedVariables false
set_option linter.unusedSimpArgs false
set_option maxRecDepth 20000
set_option maxHeartbeats 4000000
namespace Go.Proofs.Ytapafdpnmakekaa.X
open Go Go.RowKit
open Nat (reduceEqDiff reduceAdd reduceSub reduceLeDiff)
theorem s_l01Matrix {v:Value} {rows:List (List Int)} {p n cols:Int} {h:AH} {Q:Value→AH→Prop} (hv:Rows h v rows) (hm:SmallM rows) (hp:2≤p∧p≤5)
  (hQ:Q (.bool (isMat p cols rows&&decide ((rows.length:Int)=n))) h):WF S 214 [I64 p,v,I64 n,I64 cols] h Q:=by
 refine WF_fn (fn:=c214) rfl rfl ?_
 dsimp only[c214,oO,oM,oS,oG,oK,oE,oL,oF,oX,oN]
 obtain⟨hm1,hm2⟩:=hm
 ((try simp (maxSteps:=3000000) (dsimp:=false) (disch:=first|omega|simp only[lnx];omega) only[↓ypre,ypost,↓reduceIte,reduceEqDiff,reduceAdd,reduceSub,reduceLeDiff,zz0,ynew,hv.len]);try simp only[yback])
 by_cases h1:(rows.length:Int)=n
 case neg=>
  ((try simp (maxSteps:=3000000) (dsimp:=false) (disch:=first|omega|simp only[lnx];omega) only[↓ypre,ypost,↓reduceIte,reduceEqDiff,reduceAdd,reduceSub,reduceLeDiff,zz0,ynew,decide_eq_true (show (rows.length:Int)≠n from h1)]);try simp only[yback])
  rw[decide_eq_false h1,Bool.and_false] at hQ
  exact hQ
 rw[decide_eq_true h1,Bool.and_true] at hQ
 ((try simp (maxSteps:=3000000) (dsimp:=false) (disch:=first|omega|simp only[lnx];omega) only[↓ypre,ypost,↓reduceIte,reduceEqDiff,reduceAdd,reduceSub,reduceLeDiff,zz0,ynew,decide_eq_false (show ¬ (rows.length:Int)≠n from fun y=>y h1)]);try simp only[yback])
 refine WC_loop_inv (fun m f K1=>∃ (i:Nat),m=rows.length-i∧i≤rows.length∧f 0=I64 p∧f 1=v∧f 3=I64 cols∧f 9=I64 i∧(K1=h)∧(∀ j,j<i→((rows.getD j []).length:Int)=cols∧allIn p (rows.getD j [])=true)) ?_ (rows.length-0) _ _ ⟨0,rfl,by omega,(by first|rfl|simp[upd_apply]),(by first|rfl|simp[upd_apply]),(by first|rfl|simp[upd_apply]),(by first|rfl|simp[upd_apply]),rfl,(by omega)⟩
 rintro m f K1 ⟨i,rfl,hi,f0,f1,f3,f9,hK,hj⟩
 subst hK
 by_cases hlt:(i:Int)<rows.length
 ·have hi':i<rows.length:=by omega
  obtain⟨n0,off0,x0,hix0,hrd0,i0⟩:=hv.row hi'
  have bl:=hm2.1 i hi'
  by_cases h2:((rows.getD i []).length:Int)=cols
  case neg=>
   have d2:=decide_eq_true (show ((rows.getD i []).length:Int)≠cols from h2)
   ((try simp (maxSteps:=3000000) (dsimp:=false) (disch:=first|omega|simp only[lnx];omega) only[↓ypre,ypost,↓reduceIte,reduceEqDiff,reduceAdd,reduceSub,reduceLeDiff,zz0,ynew,f0,f1,f3,f9,hv.len,decide_eq_true hlt,hix0,hrd0,i0.len,d2]);try simp only[yback])
   rw[isMat_no hi' (fun h=>h2 h.1)] at hQ
   exact hQ
  have d2:=decide_eq_false (show ¬ ((rows.getD i []).length:Int)≠cols from fun y=>y h2)
  ((try simp (maxSteps:=3000000) (dsimp:=false) (disch:=first|omega|simp only[lnx];omega) only[↓ypre,ypost,↓reduceIte,reduceEqDiff,reduceAdd,reduceSub,reduceLeDiff,zz0,ynew,f0,f1,f3,f9,hv.len,decide_eq_true hlt,hix0,hrd0,i0.len,d2]);try simp only[yback])
  refine WC_loop_inv (fun m f K2=>∃ (k:Nat),m=((rows.getD i []).length)-k∧k≤((rows.getD i []).length)∧f 0=I64 p∧f 1=v∧f 3=I64 cols∧f 9=I64 i∧f 10=I64 k∧(K2=K1)∧(∀ j,j<k→0≤(rows.getD i []).getD j 0∧(rows.getD i []).getD j 0<p)) ?_ (((rows.getD i []).length)-0) _ _ ⟨0,rfl,by omega,(by first|rfl|exact f0|(simp[upd_apply];done)),(by first|rfl|exact f1|(simp[upd_apply];done)),(by first|rfl|exact f3|(simp[upd_apply];done)),(by first|rfl|exact f9|(simp[upd_apply];done)),(by first|rfl|simp[upd_apply]),rfl,(by omega)⟩
  rintro m f K2 ⟨k,rfl,hk,f0,f1,f3,f9,f10,hK2,ha⟩
  subst hK2
  by_cases hlk:(k:Int)<(rows.getD i []).length
  ·obtain⟨n1,off1,hix1,hrd1⟩:=i0.cell (j:=k) (by omega)
   ((try simp (maxSteps:=3000000) (dsimp:=false) (disch:=first|omega|simp only[lnx];omega) only[↓ypre,ypost,↓reduceIte,reduceEqDiff,reduceAdd,reduceSub,reduceLeDiff,zz0,ynew,f0,f1,f3,f9,f10,hix0,hrd0,i0.len,decide_eq_true hlk,hix1,hrd1,wrap64_in]);try simp only[yback])
   refine s_l01In ?_
   by_cases h5:0≤(rows.getD i []).getD k 0∧(rows.getD i []).getD k 0≤p-1
   ·((try simp (maxSteps:=3000000) (dsimp:=false) (disch:=first|omega|simp only[lnx];omega) only[↓ypre,ypost,↓reduceIte,reduceEqDiff,reduceAdd,reduceSub,reduceLeDiff,zz0,ynew,f0,f1,f3,f9,f10,decide_eq_true h5,wrap64_in]);try simp only[yback])
    have ha':∀ j,j<k+1→0≤(rows.getD i []).getD j 0∧(rows.getD i []).getD j 0<p:=fun j hj'=>by
     rcases Nat.lt_succ_iff_lt_or_eq.1 hj' with q|rfl
     ·exact ha j q
     ·omega
    refine InvQ_go (((rows.getD i []).length)-(k+1)) (by omega) ⟨(k+1),rfl,by omega,(by first|rfl|exact f0|(simp only[upd_apply];rfl)|(show I64 _=_;congr 1;omega)),(by first|rfl|exact f1|(simp only[upd_apply];rfl)|(show I64 _=_;congr 1;omega)),(by first|rfl|exact f3|(simp only[upd_apply];rfl)|(show I64 _=_;congr 1;omega)),(by first|rfl|exact f9|(simp only[upd_apply];rfl)|(show I64 _=_;congr 1;omega)),(by first|rfl|exact f10|(simp only[upd_apply];rfl)|(show I64 _=_;congr 1;omega)),rfl,ha'⟩
   ·((try simp (maxSteps:=3000000) (dsimp:=false) (disch:=first|omega|simp only[lnx];omega) only[↓ypre,ypost,↓reduceIte,reduceEqDiff,reduceAdd,reduceSub,reduceLeDiff,zz0,ynew,f0,f1,f3,f9,f10,decide_eq_false h5]);try simp only[yback])
    rw[isMat_no hi' (fun h=>h5 (by have:=allIn_iff.1 h.2 k (by omega);omega))] at hQ
    exact hQ
  have ek:k=(rows.getD i []).length:=by omega
  subst ek
  ((try simp (maxSteps:=3000000) (dsimp:=false) (disch:=first|omega|simp only[lnx];omega) only[↓ypre,ypost,↓reduceIte,reduceEqDiff,reduceAdd,reduceSub,reduceLeDiff,zz0,ynew,f0,f1,f3,f9,f10,hix0,hrd0,i0.len,decide_eq_false hlk,wrap64_in]);try simp only[yback])
  have hj2:∀ j,j<i+1→((rows.getD j []).length:Int)=cols∧allIn p (rows.getD j [])=true:=fun j hj'=>by
   rcases Nat.lt_succ_iff_lt_or_eq.1 hj' with q|rfl
   ·exact hj j q
   ·exact⟨h2,allIn_iff.2 ha⟩
  refine InvQ_go (rows.length-(i+1)) (by omega) ⟨(i+1),rfl,by omega,(by first|rfl|exact f0|(simp only[upd_apply];rfl)|(show I64 _=_;congr 1;omega)),(by first|rfl|exact f1|(simp only[upd_apply];rfl)|(show I64 _=_;congr 1;omega)),(by first|rfl|exact f3|(simp only[upd_apply];rfl)|(show I64 _=_;congr 1;omega)),(by first|rfl|exact f9|(simp only[upd_apply];rfl)|(show I64 _=_;congr 1;omega)),rfl,hj2⟩
 have ei:i=rows.length:=by omega
 subst ei
 ((try simp (maxSteps:=3000000) (dsimp:=false) (disch:=first|omega|simp only[lnx];omega) only[↓ypre,ypost,↓reduceIte,reduceEqDiff,reduceAdd,reduceSub,reduceLeDiff,zz0,ynew,f0,f1,f3,f9,hv.len,decide_eq_false hlt]);try simp only[yback])
 rw[isMat_iff.2 hj] at hQ
 exact hQ
def dot (q ns:List Int):Nat→Int
 | 0=>0
 | j+1=>dot q ns j+q.getD j 0*ns.getD j 0
@[simp] theorem dot_0 {q ns:List Int}:dot q ns 0=0:=rfl
theorem dot_in {q ns:List Int} {p:Int} (hq:By 9 q) (hn:allIn p ns=true) (hp:2≤p∧p≤5):∀ {j:Nat},j≤ns.length→j≤9→0≤dot q ns j∧dot q ns j≤j*1275
 | 0,_,_=>by simp[dot]
 | j+1,h1,h2=>by
  have ih:=dot_in hq hn hp (j:=j) (by omega) (by omega)
  have b1:=hq.2 j (by omega)
  have b2:=allIn_iff.1 hn j (by omega)
  have m1:=Int.mul_nonneg b1.1 b2.1
  have m2:q.getD j 0*ns.getD j 0≤255*5:=Int.le_trans (Int.mul_le_mul_of_nonneg_right (show q.getD j 0≤255 by omega) b2.1) (Int.mul_le_mul_of_nonneg_left (by omega) (by decide))
  simp only[dot]
  omega
theorem i_atF {p:Int} {q ns:List Int} {v:Value} {h:AH} {Q:Value→AH→Prop} (hq:By 9 q) (hv:Ints h v ns) (hl:ns.length≤9) (hn:allIn p ns=true) (hp:2≤p∧p≤5)
  (hQ:∀ h',h<+:h'→Q (I64 ((dot q ns ns.length).tmod p)) h'):WF S 286 [I64 p,aggV .u8 q,v] h Q:=by
 refine WF_fn (fn:=c286) rfl rfl ?_
 dsimp only[c286,oO,oM,oS,oG,oK,oE,oL,oF,oX,oN]
 ((try simp (maxSteps:=3000000) (dsimp:=false) (disch:=first|omega|simp only[lnx];omega) only[↓ypre,ypost,↓reduceIte,reduceEqDiff,reduceAdd,reduceSub,reduceLeDiff,zz0,ynew,aggV,cel_all,cellsL_cel]);try simp only[yback])
 generalize hH1:AH.new h _=H1
 obtain⟨hb1,p1,n1⟩:=new_facts hH1
 have hq1:=hq.1
 have hv1:=hv.pre p1
 ((try simp (maxSteps:=3000000) (dsimp:=false) (disch:=first|omega|simp only[lnx];omega) only[↓ypre,ypost,↓reduceIte,reduceEqDiff,reduceAdd,reduceSub,reduceLeDiff,zz0,ynew,hv.len]);try simp only[yback])
 refine WC_loop_inv (fun m f K1=>∃ (i:Nat),m=ns.length-i∧i≤ns.length∧f 0=I64 p∧f 4=.pointer (some ⟨h.length,0,none⟩)∧f 7=I64 (dot q ns i)∧f 10=v∧f 11=I64 ns.length∧f 12=I64 i∧K1=H1) ?_ (ns.length-0) _ _ ⟨0,rfl,by omega,(by first|rfl|simp[upd_apply]),(by first|rfl|simp[upd_apply]),(by first|rfl|simp[upd_apply]),(by first|rfl|simp[upd_apply]),(by first|rfl|simp[upd_apply]),(by first|rfl|simp[upd_apply]),rfl⟩
 rintro m f K1 ⟨i,rfl,hi,f0,f4,f7,f10,f11,f12,rfl⟩
 by_cases hlt:(i:Int)<ns.length
 ·have hi':i<ns.length:=by omega
  obtain⟨n1',off1,hix1,hrd1⟩:=hv1.cell hi'
  have g1:=cel_get (k:=.u8) (q:=q) (j:=i) (by omega)
  have ixa:=ixa_u (n:=h.length) (off:=0) (len:=9) (kk:=.i64) (j:=i) (by omega)
  rw[Nat.zero_add] at ixa
  have b0:=dot_in hq hn hp (j:=i) (by omega) (by omega)
  have b1:=dot_in hq hn hp (j:=i+1) (by omega) (by omega)
  have b2:=hq.2 i (by omega)
  have b3:=allIn_iff.1 hn i hi'
  simp only[dot] at b1
  have b4:0≤q.getD i 0*ns.getD i 0:=Int.mul_nonneg b2.1 b3.1
  ((try simp (maxSteps:=3000000) (dsimp:=false) (disch:=first|omega|simp only[lnx];omega) only[↓ypre,ypost,↓reduceIte,reduceEqDiff,reduceAdd,reduceSub,reduceLeDiff,zz0,ynew,f0,f4,f7,f10,f11,f12,decide_eq_true hlt,hix1,hrd1,ixa,rd1_of hb1,g1,wrap64_in]);try simp only[yback])
  refine InvQ_go (ns.length-(i+1)) (by omega) ⟨(i+1),rfl,by omega,(by first|rfl|exact f0|(simp only[upd_apply];rfl)|(show I64 _=_;congr 1;omega)),(by first|rfl|exact f4|(simp only[upd_apply];rfl)|(show I64 _=_;congr 1;omega)),(by first|rfl|exact f7|(simp only[upd_apply];rfl)|(show I64 _=_;congr 1;omega)),(by first|rfl|exact f10|(simp only[upd_apply];rfl)|(show I64 _=_;congr 1;omega)),(by first|rfl|exact f11|(simp only[upd_apply];rfl)|(show I64 _=_;congr 1;omega)),(by first|rfl|exact f12|(simp only[upd_apply];rfl)|(show I64 _=_;congr 1;omega)),rfl⟩
 have ei:i=ns.length:=by omega
 subst ei
 ((try simp (maxSteps:=3000000) (dsimp:=false) (disch:=first|omega|simp only[lnx];omega) only[↓ypre,ypost,↓reduceIte,reduceEqDiff,reduceAdd,reduceSub,reduceLeDiff,zz0,ynew,f0,f4,f7,f10,f11,f12,decide_eq_false hlt]);try simp only[yback])
 ((try simp (maxSteps:=3000000) (dsimp:=false) (disch:=first|omega|simp only[lnx];omega) only[↓ypre,ypost,↓reduceIte,reduceEqDiff,reduceAdd,reduceSub,reduceLeDiff,zz0,ynew,f0,f4,f7,f10,f11,f12,bin_rem (show p≠0 by omega)]);try simp only[yback])
 exact hQ _ p1
theorem flat_at {w i k:Nat} {L:List (List Int)} (hw:Wid w L) (hi:i<L.length) (hk:k<w):L.flatten.getD (i*w+k) 0=(L.getD i []).getD k 0:=by
 have hf:=flat_get hw hi
 have h1:=congrArg (fun l=>l[k]?) hf
 simp only[List.getElem?_take,hk,if_true,List.getElem?_drop] at h1
 rw[List.getD_eq_getElem?_getD,h1]
 rfl
theorem allIn_flat {w:Nat} {p:Int} {L:List (List Int)} (hm:isMat p w L=true):allIn p L.flatten=true:=by
 simp only[allIn,List.all_eq_true,List.mem_flatten]
 rintro x ⟨r,hr,hx⟩
 simp only[isMat,List.all_eq_true,Bool.and_eq_true] at hm
 have:=(hm r hr).2
 simp only[allIn,List.all_eq_true] at this
 exact this x hx
theorem isMat_wid {w:Nat} {p:Int} {L:List (List Int)} (hm:isMat p w L=true):Wid w L:=wid_of fun i hi=>by
 have:=(isMat_iff.1 hm i hi).1
 omega
theorem s_l01At {p:Int} {q:List Int} {rows:List (List Int)} {w:Nat} {v:Value} {h:AH} {Q:Value→AH→Prop} (hq:By 9 q) (hv:Rows h v rows) (hm:isMat p w rows=true) (hl:rows.length*w≤9) (hp:2≤p∧p≤5) (hw:1≤w)
  (hQ:∀ h',h<+:h'→Q (I64 (dot q rows.flatten rows.flatten.length)) h'):WF S 299 [aggV .u8 q,v] h Q:=by
 refine WF_fn (fn:=c299) rfl rfl ?_
 dsimp only[c299,oO,oM,oS,oG,oK,oE,oL,oF,oX,oN]
 ((try simp (maxSteps:=3000000) (dsimp:=false) (disch:=first|omega|simp only[lnx];omega) only[↓ypre,ypost,↓reduceIte,reduceEqDiff,reduceAdd,reduceSub,reduceLeDiff,zz0,ynew,aggV,cel_all,cellsL_cel]);try simp only[yback])
 generalize hH1:AH.new h _=H1
 obtain⟨hb1,p1,n1⟩:=new_facts hH1
 have hq1:=hq.1
 have hv1:=hv.pre p1
 have wd:=isMat_wid hm
 have fl:=flat_len wd
 have hn:=allIn_flat hm
 have hrl:rows.length≤9:=Nat.le_trans (Nat.le_mul_of_pos_right _ hw) hl
 ((try simp (maxSteps:=3000000) (dsimp:=false) (disch:=first|omega|simp only[lnx];omega) only[↓ypre,ypost,↓reduceIte,reduceEqDiff,reduceAdd,reduceSub,reduceLeDiff,zz0,ynew]);try simp only[yback])
 refine WC_loop_inv (fun m f K1=>∃ (i:Nat),m=rows.length-i∧i≤rows.length∧f 1=v∧f 2=.pointer (some ⟨h.length,0,none⟩)∧f 5=I64 (dot q rows.flatten (i*w))∧f 6=I64 ((i*w:Nat):Int)∧f 7=I64 i∧(K1=H1)) ?_ (rows.length-0) _ _ ⟨0,rfl,by omega,(by first|rfl|simp[upd_apply]),(by first|rfl|simp[upd_apply]),(by first|rfl|simp[upd_apply]),(by first|rfl|simp[upd_apply]),(by first|rfl|simp[upd_apply]),rfl⟩
 rintro m f K1 ⟨i,rfl,hi,f1,f2,f5,f6,f7,hK⟩
 subst hK
 by_cases hlt:(i:Int)<rows.length
 ·have hi':i<rows.length:=by omega
  obtain⟨n0,off0,x0,hix0,hrd0,i0⟩:=hv1.row hi'
  have hwi:(rows.getD i []).length=w:=by
   have:=(isMat_iff.1 hm i hi').1
   omega
  have hmw:=mul_row (w:=w) hi'
  ((try simp (maxSteps:=3000000) (dsimp:=false) (disch:=first|omega|simp only[lnx];omega) only[↓ypre,ypost,↓reduceIte,reduceEqDiff,reduceAdd,reduceSub,reduceLeDiff,zz0,ynew,f1,f2,f5,f6,f7,hv1.len,decide_eq_true hlt]);try simp only[yback])
  refine WC_loop_inv (fun m f K2=>∃ (k:Nat),m=w-k∧k≤w∧f 1=v∧f 2=.pointer (some ⟨h.length,0,none⟩)∧f 5=I64 (dot q rows.flatten (i*w+k))∧f 6=I64 ((i*w+k:Nat):Int)∧f 7=I64 i∧f 8=I64 k∧(K2=K1)) ?_ (w-0) _ _ ⟨0,rfl,by omega,(by first|rfl|exact f1|(simp[upd_apply];done)),(by first|rfl|exact f2|(simp[upd_apply];done)),(by first|rfl|exact f5|(simp[upd_apply];done)),(by first|rfl|exact f6|(simp[upd_apply];done)),(by first|rfl|exact f7|(simp[upd_apply];done)),(by first|rfl|simp[upd_apply]),rfl⟩
  rintro m f K2 ⟨k,rfl,hk,f1,f2,f5,f6,f7,f8,hK2⟩
  subst hK2
  by_cases hlk:(k:Int)<w
  ·have hk':k<w:=by omega
   obtain⟨n1,off1,hix1,hrd1⟩:=i0.cell (j:=k) (by omega)
   have fa:=flat_at wd hi' hk'
   have g1:=cel_get (k:=.u8) (q:=q) (j:=i*w+k) (by omega)
   have ixa:=ixa_u (n:=h.length) (off:=0) (len:=9) (kk:=.i64) (j:=i*w+k) (by omega)
   rw[Nat.zero_add] at ixa
   have b0:=dot_in hq hn hp (j:=i*w+k) (by omega) (by omega)
   have b1:=dot_in hq hn hp (j:=i*w+k+1) (by omega) (by omega)
   have b2:=hq.2 (i*w+k) (by omega)
   have b3:=allIn_iff.1 hn (i*w+k) (by omega)
   simp only[dot] at b1
   rw[fa] at b1 b3
   have b4:0≤q.getD (i*w+k) 0*(rows.getD i []).getD k 0:=Int.mul_nonneg b2.1 b3.1
   have ed:dot q rows.flatten (i*w+k)+q.getD (i*w+k) 0*(rows.getD i []).getD k 0=dot q rows.flatten (i*w+k+1):=by
    simp only[dot]
    rw[fa]
   have hlk2:decide ((k:Int)<((rows.getD i []).length:Int))=true:=decide_eq_true (by omega)
   ((try simp (maxSteps:=3000000) (dsimp:=false) (disch:=first|omega|simp only[lnx];omega) only[↓ypre,ypost,↓reduceIte,reduceEqDiff,reduceAdd,reduceSub,reduceLeDiff,zz0,ynew,f1,f2,f5,f6,f7,f8,hix0,hrd0,i0.len,hlk2,hix1,hrd1,ixa,rd1_of hb1,g1,wrap64_in]);try simp only[yback])
   rw[ed]
   refine InvQ_go (w-(k+1)) (by omega) ⟨(k+1),rfl,by omega,(by first|rfl|exact f1|(simp only[upd_apply];rfl)|(show I64 _=_;congr 1;omega)),(by first|rfl|exact f2|(simp only[upd_apply];rfl)|(show I64 _=_;congr 1;omega)),(by first|rfl|exact f5|(simp only[upd_apply];rfl)|(show I64 _=_;congr 1;omega)),(by first|rfl|exact f6|(simp only[upd_apply];rfl)|(show I64 _=_;congr 1;omega)),(by first|rfl|exact f7|(simp only[upd_apply];rfl)|(show I64 _=_;congr 1;omega)),(by first|rfl|exact f8|(simp only[upd_apply];rfl)|(show I64 _=_;congr 1;omega)),rfl⟩
  have ek:k=w:=by omega
  subst ek
  have hlk2:decide ((k:Int)<((rows.getD i []).length:Int))=false:=decide_eq_false (by omega)
  ((try simp (maxSteps:=3000000) (dsimp:=false) (disch:=first|omega|simp only[lnx];omega) only[↓ypre,ypost,↓reduceIte,reduceEqDiff,reduceAdd,reduceSub,reduceLeDiff,zz0,ynew,f1,f2,f5,f6,f7,f8,hix0,hrd0,i0.len,hlk2,wrap64_in]);try simp only[yback])
  have es:i*k+k=(i+1)*k:=by rw[Nat.succ_mul]
  refine InvQ_go (rows.length-(i+1)) (by omega) ⟨(i+1),rfl,by omega,(by first|rfl|exact f1|(simp only[upd_apply];rfl)|(show I64 _=_;congr 1;omega)),(by first|rfl|exact f2|(simp only[upd_apply];rfl)|(show I64 _=_;congr 1;omega)),(by rw[←es];exact f5),(by rw[←es];exact f6),(by first|rfl|exact f7|(simp only[upd_apply];rfl)|(show I64 _=_;congr 1;omega)),rfl⟩
 have ei:i=rows.length:=by omega
 subst ei
 ((try simp (maxSteps:=3000000) (dsimp:=false) (disch:=first|omega|simp only[lnx];omega) only[↓ypre,ypost,↓reduceIte,reduceEqDiff,reduceAdd,reduceSub,reduceLeDiff,zz0,ynew,f1,f2,f5,f6,f7,hv1.len,decide_eq_false hlt]);try simp only[yback])
 rw[fl] at hQ
 exact hQ _ p1
theorem i_Grow {n:Int} {h:AH} {Q:Value→AH→Prop} (hn:1≤n∧n≤1048576) (hQ:Q (sl h.length 0) (h.new ⟨[],2,false,false⟩)):WF S 287 [.slice none 0 0,I64 n] h Q:=by
 refine WF_fn (fn:=c287) rfl rfl ?_
 dsimp only[c287,oO,oM,oS,oG,oK,oE,oL,oF,oX,oN]
 ((try simp (maxSteps:=3000000) (dsimp:=false) (disch:=first|omega|simp only[lnx];omega) only[↓ypre,ypost,↓reduceIte,reduceEqDiff,reduceAdd,reduceSub,reduceLeDiff,zz0,ynew,decide_eq_false (show ¬ n<0 by omega),capV_nil,show lenV (.slice none 0 0)=some (I64 0) from rfl,wrap64_in,Int.sub_zero,decide_eq_true (show (0:Int)<n by omega),decide_eq_true (show n>0 by omega)]);try simp only[yback])
 have s1:slcV 1 (.slice none 0 0) none (some (I64 0))=some (.slice none 0 0):=rfl
 ((try simp (maxSteps:=3000000) (dsimp:=false) (disch:=first|omega|simp only[lnx];omega) only[↓ypre,ypost,↓reduceIte,reduceEqDiff,reduceAdd,reduceSub,reduceLeDiff,zz0,ynew,omapF_none,omapF_some,s1]);try simp only[yback])
 have e1:appzV 2 1 8 (.slice none 0 0) (I64 n) h=some (.slice (some ⟨h.length,0,none⟩) n.toNat 1,h.new ⟨[],2,false,false⟩):=by
  rw[appzV_nil,if_pos (by omega)]
 ((try simp (maxSteps:=3000000) (dsimp:=false) (disch:=first|omega|simp only[lnx];omega) only[↓ypre,ypost,↓reduceIte,reduceEqDiff,reduceAdd,reduceSub,reduceLeDiff,zz0,ynew,e1]);try simp only[yback])
 have s2:slcV 1 (.slice (some ⟨h.length,0,none⟩) n.toNat 1) none (some (.int .i64 ((0:Nat):Int)))=some (sl h.length 0):=by
  simp[slcV,boundV,sl]
 ((try simp (maxSteps:=3000000) (dsimp:=false) (disch:=first|omega|simp only[lnx];omega) only[↓ypre,ypost,↓reduceIte,reduceEqDiff,reduceAdd,reduceSub,reduceLeDiff,zz0,ynew,omapF_none,omapF_some,s2]);try simp only[yback])
 exact hQ
theorem Lst.appL {H:AH} {n:Nat} {l ns:List Int} {full:Bool} {v:Value} (o:Lst H n l full) (hv:Ints H v ns) (h0:0<ns.length) (hl:(l.length:Int)+ns.length≤1048576) {Q:Value→AH→Prop}
  (hQ:∀ H',H'.length=H.length+1→(∀ h0:AH,h0.length≤n→h0<+:H→h0<+:H')→Lst H' H.length (l++ns) false→Q (sl H.length (l++ns).length) H') :
  OQ (appV 2 1 8 (sl n l.length) v H) Q:=by
 obtain⟨n',off,rfl,hr⟩:=hv.vals.rdn (by simpa using h0)
 rw[List.length_map] at hr
 have e:appV 2 1 8 (sl n l.length) (.slice (some ⟨n',off,none⟩) (ns.map (Value.int .i64)).length 1) H=some (sl H.length (l++ns).length,(H.kill n).new ⟨(l++ns).map (Value.int .i64),2,false,false⟩):=by
  simp only[appV,xop,ev,sl,if_true,Nat.mul_one,List.length_map,hr]
  rw[if_pos (by omega),if_neg (by omega)]
  unfold Lst at o
  simp[o]
 rw[e,OQ_some]
 exact hQ _ (by rw[len_new,len_kill]) (fun h0 q p=>pre_new (pre_kill p q)) (get_new_eq (by rw[len_kill]))
theorem i_Concat {v:Value} {L:List (List Int)} {w:Nat} {h:AH} {Q:Value→AH→Prop} (hv:Rows h v L) (hw:Wid w L) (h1:1≤w∧w≤1000) (h2:1≤L.length∧L.length≤1000)
  (hQ:∀ n full h',h.length≤n→h<+:h'→Lst h' n L.flatten full→Q (sl n L.flatten.length) h'):WF S 165 [v] h Q:=by
 refine WF_fn (fn:=c165) rfl rfl ?_
 dsimp only[c165,oO,oM,oS,oG,oK,oE,oL,oF,oX,oN]
 have hwl:∀ i,i<L.length→(L.getD i []).length=w:=fun i hi=>hw _ (by rw[List.getD_eq_getElem?_getD,List.getElem?_eq_getElem hi];exact List.getElem_mem hi)
 have hLw:L.length*w≤1000*1000:=Nat.mul_le_mul h2.2 h1.2
 have hLw1:1*1≤L.length*w:=Nat.mul_le_mul h2.1 h1.1
 ((try simp (maxSteps:=3000000) (dsimp:=false) (disch:=first|omega|simp only[lnx];omega) only[↓ypre,ypost,↓reduceIte,reduceEqDiff,reduceAdd,reduceSub,reduceLeDiff,zz0,ynew,hv.len]);try simp only[yback])
 refine WC_loop_inv (fun m f K1=>∃ (i:Nat),m=L.length-i∧i≤L.length∧f 0=v∧f 3=I64 ((i*w:Nat):Int)∧f 9=v∧f 10=I64 L.length∧f 11=I64 i∧(K1=h)) ?_ (L.length-0) _ _ ⟨0,rfl,by omega,(by first|rfl|simp[upd_apply]),(by first|rfl|simp[upd_apply]),(by first|rfl|simp[upd_apply]),(by first|rfl|simp[upd_apply]),(by first|rfl|simp[upd_apply]),rfl⟩
 rintro m f K1 ⟨i,rfl,hi,f0,f3,f9,f10,f11,hK⟩
 subst hK
 by_cases hlt:(i:Int)<L.length
 ·have hi':i<L.length:=by omega
  obtain⟨n0,off0,x0,hix0,hrd0,i0⟩:=hv.row hi'
  have hm:=mul_row (w:=w) hi'
  have hc:(((i*w:Nat):Int)+((L.getD i []).length:Int))=(((i+1)*w:Nat):Int):=by rw[hwl i hi',Nat.succ_mul];omega
  have hb:((i+1)*w:Nat)≤1000000:=by rw[Nat.succ_mul];omega
  ((try simp (maxSteps:=3000000) (dsimp:=false) (disch:=first|omega|simp only[lnx];omega) only[↓ypre,ypost,↓reduceIte,reduceEqDiff,reduceAdd,reduceSub,reduceLeDiff,zz0,ynew,f0,f3,f9,f10,f11,decide_eq_true hlt,hix0,hrd0,i0.len,hc,wrap64_in,decide_eq_false (show ¬ (((i+1)*w:Nat):Int)<0 by omega)]);try simp only[yback])
  refine InvQ_go (L.length-(i+1)) (by omega) ⟨(i+1),rfl,by omega,(by first|rfl|exact f0|(simp only[upd_apply];rfl)|(show I64 _=_;congr 1;omega)),(by first|rfl|exact f3|(simp only[upd_apply];rfl)|(show I64 _=_;congr 1;omega)),(by first|rfl|exact f9|(simp only[upd_apply];rfl)|(show I64 _=_;congr 1;omega)),(by first|rfl|exact f10|(simp only[upd_apply];rfl)|(show I64 _=_;congr 1;omega)),(by first|rfl|exact f11|(simp only[upd_apply];rfl)|(show I64 _=_;congr 1;omega)),rfl⟩
 have ei:i=L.length:=by omega
 subst ei
 ((try simp (maxSteps:=3000000) (dsimp:=false) (disch:=first|omega|simp only[lnx];omega) only[↓ypre,ypost,↓reduceIte,reduceEqDiff,reduceAdd,reduceSub,reduceLeDiff,zz0,ynew,f0,f3,f9,f10,f11,decide_eq_false hlt]);try simp only[yback])
 refine i_Grow (by omega) ?_
 generalize hH1:AH.new K1 _=H1
 obtain⟨hb1,p1,n1⟩:=new_facts hH1
 have l0:Lst H1 K1.length (L.take 0).flatten false:=hb1
 ((try simp (maxSteps:=3000000) (dsimp:=false) (disch:=first|omega|simp only[lnx];omega) only[↓ypre,ypost,↓reduceIte,reduceEqDiff,reduceAdd,reduceSub,reduceLeDiff,zz0,ynew,f0,f3,f9,f10,f11,hv.len]);try simp only[yback])
 refine WC_loop_inv (fun m f K2=>∃ (i:Nat) (kn:Nat) (fu:Bool),m=L.length-i∧i≤L.length∧f 6=sl kn (L.take i).flatten.length∧f 25=v∧f 26=I64 L.length∧f 27=I64 i∧(K1<+:K2)∧(Lst K2 kn (L.take i).flatten fu)∧(K1.length≤kn)) ?_ (L.length-0) _ _ ⟨0,K1.length,false,rfl,by omega,(by first|rfl|simp[upd_apply]),(by first|rfl|simp[upd_apply]),(by first|rfl|simp[upd_apply]),(by first|rfl|simp[upd_apply]),p1,l0,Nat.le_refl _⟩
 rintro m f K2 ⟨i,kn,fu,rfl,hi,f6,f25,f26,f27,pp,lo,hk⟩
 by_cases hlt:(i:Int)<L.length
 ·have hi':i<L.length:=by omega
  obtain⟨n0,off0,x0,hix0,hrd0,i0⟩:=(hv.pre pp).row hi'
  have et:(L.take i).flatten++L.getD i []=(L.take (i+1)).flatten:=by
   rw[take_next (d:=[]) hi',List.flatten_append]
   simp
  have lt:(L.take i).flatten.length=i*w:=by
   rw[flat_len (fun q hq=>hw q (List.mem_of_mem_take hq)),List.length_take,Nat.min_eq_left (by omega)]
  have hm:=mul_row (w:=w) hi'
  have hwi:=hwl i hi'
  ((try simp (maxSteps:=3000000) (dsimp:=false) (disch:=first|omega|simp only[lnx];omega) only[↓ypre,ypost,↓reduceIte,reduceEqDiff,reduceAdd,reduceSub,reduceLeDiff,zz0,ynew,f6,f25,f26,f27,decide_eq_true hlt,hix0,hrd0]);try simp only[yback])
  refine lo.appL i0 (by omega) (by omega) fun H5 l5 pre5 lo5=>?_
  rw[et] at lo5 ⊢
  ((try simp (maxSteps:=3000000) (dsimp:=false) (disch:=first|omega|simp only[lnx];omega) only[↓ypre,ypost,↓reduceIte,reduceEqDiff,reduceAdd,reduceSub,reduceLeDiff,zz0,ynew,f6,f25,f26,f27,wrap64_in]);try simp only[yback])
  refine InvQ_go (L.length-(i+1)) (by omega) ⟨(i+1),K2.length,false,rfl,by omega,(by first|rfl|exact f6|(simp only[upd_apply];rfl)|(show I64 _=_;congr 1;omega)),(by first|rfl|exact f25|(simp only[upd_apply];rfl)|(show I64 _=_;congr 1;omega)),(by first|rfl|exact f26|(simp only[upd_apply];rfl)|(show I64 _=_;congr 1;omega)),(by first|rfl|exact f27|(simp only[upd_apply];rfl)|(show I64 _=_;congr 1;omega)),(pre5 _ hk pp),lo5,(by have:=pre_len pp;omega)⟩
 have ei:i=L.length:=by omega
 subst ei
 rw[List.take_of_length_le (Nat.le_refl _)] at lo f6
 ((try simp (maxSteps:=3000000) (dsimp:=false) (disch:=first|omega|simp only[lnx];omega) only[↓ypre,ypost,↓reduceIte,reduceEqDiff,reduceAdd,reduceSub,reduceLeDiff,zz0,ynew,f6,f25,f26,f27,decide_eq_false hlt]);try simp only[yback])
 exact hQ _ _ _ hk pp lo
def mOK (x:Sch) (L R:List (List Int)):Bool:=(isMat x.p x.m L&&decide ((L.length:Int)=x.n))&&(isMat x.p x.k R&&decide ((R.length:Int)=x.m))
def mcX (x:Sch) (L R:List (List Int)):Int:=if isX x=true then (if mOK x L R=true then 0 else 2) else 1
theorem i_matricesCode {v u z:Value} {x:Sch} {L R:List (List Int)} {h:AH} {Q:Value→AH→Prop} (hv:Prods h v x.ps) (hl:SmallX x.ps) (hu:Rows h u L) (hL:SmallM L) (hz:Rows h z R) (hR:SmallM R)
  (hQ:∀ h',h<+:h'→Q (I64 (mcX x L R)) h'):WF S 162 [schV x v,u,z] h Q:=by
 refine WF_fn (fn:=c162) rfl rfl ?_
 dsimp only[c162,oO,oM,oS,oG,oK,oE,oL,oF,oX,oN]
 ((try simp (maxSteps:=3000000) (dsimp:=false) (disch:=first|omega|simp only[lnx];omega) only[↓ypre,ypost,↓reduceIte,reduceEqDiff,reduceAdd,reduceSub,reduceLeDiff,zz0,ynew,schV,hv.one]);try simp only[yback])
 generalize hH1:AH.new h _=H1
 obtain⟨hb1,p1,n1⟩:=new_facts hH1
 ((try simp (maxSteps:=3000000) (dsimp:=false) (disch:=first|omega|simp only[lnx];omega) only[↓ypre,ypost,↓reduceIte,reduceEqDiff,reduceAdd,reduceSub,reduceLeDiff,zz0,ynew,rdn_of hb1]);try simp only[yback])
 refine i_IsScheme (x:=x) (hv.pre p1) hl fun H2 p2=>?_
 have p12:=p1.trans p2
 have hb2:=pre_get p2 hb1
 have hQ2:=hQ _ p12
 unfold mcX at hQ2
 cases h1:isX x with
 | false=>
  rw[h1,if_neg (by decide)] at hQ2
  ((try simp (maxSteps:=3000000) (dsimp:=false) (disch:=first|omega|simp only[lnx];omega) only[↓ypre,ypost,↓reduceIte,reduceEqDiff,reduceAdd,reduceSub,reduceLeDiff,zz0,ynew]);try simp only[yback])
  exact hQ2
 | true=>
  rw[h1,if_pos rfl] at hQ2
  unfold mOK at hQ2
  ((try simp (maxSteps:=3000000) (dsimp:=false) (disch:=first|omega|simp only[lnx];omega) only[↓ypre,ypost,↓reduceIte,reduceEqDiff,reduceAdd,reduceSub,reduceLeDiff,zz0,ynew,rd1_of hb2]);try simp only[yback])
  refine i_isMatrix (hu.pre p12) hL.1 hL.2.1 ?_
  cases h2:(isMat x.p x.m L&&decide ((L.length:Int)=x.n)) with
  | false=>
   rw[h2,Bool.false_and,if_neg (by decide)] at hQ2
   ((try simp (maxSteps:=3000000) (dsimp:=false) (disch:=first|omega|simp only[lnx];omega) only[↓ypre,ypost,↓reduceIte,reduceEqDiff,reduceAdd,reduceSub,reduceLeDiff,zz0,ynew]);try simp only[yback])
   exact hQ2
  | true=>
   rw[h2,Bool.true_and] at hQ2
   ((try simp (maxSteps:=3000000) (dsimp:=false) (disch:=first|omega|simp only[lnx];omega) only[↓ypre,ypost,↓reduceIte,reduceEqDiff,reduceAdd,reduceSub,reduceLeDiff,zz0,ynew,rd1_of hb2]);try simp only[yback])
   refine i_isMatrix (hz.pre p12) hR.1 hR.2.1 ?_
   cases h3:(isMat x.p x.k R&&decide ((R.length:Int)=x.m)) with
   | false=>
    rw[h3,if_neg (by decide)] at hQ2
    ((try simp (maxSteps:=3000000) (dsimp:=false) (disch:=first|omega|simp only[lnx];omega) only[↓ypre,ypost,↓reduceIte,reduceEqDiff,reduceAdd,reduceSub,reduceLeDiff,zz0,ynew]);try simp only[yback])
    exact hQ2
   | true=>
    rw[h3,if_pos rfl] at hQ2
    ((try simp (maxSteps:=3000000) (dsimp:=false) (disch:=first|omega|simp only[lnx];omega) only[↓ypre,ypost,↓reduceIte,reduceEqDiff,reduceAdd,reduceSub,reduceLeDiff,zz0,ynew]);try simp only[yback])
    exact hQ2
def valI (p:Int) (l r q:List Int):Int:=(dot (seg q 0) l l.length).tmod p*(dot (seg q 1) r r.length).tmod p
def stM (p:Int) (l r:List Int) (ps:List (List Int)):Nat→Nat→Int
 | 0,_=>0
 | t+1,j=>(stM p l r ps t j+(ps.getD t []).getD (18+j) 0*valI p l r (ps.getD t [])).tmod p
theorem valI_in {p:Int} {l r q:List Int} (hp:2≤p∧p≤5) (hq:By 27 q) (hl:l.length≤9) (hr:r.length≤9) (al:allIn p l=true) (ar:allIn p r=true):0≤valI p l r q∧valI p l r q≤16:=by
 have d1:=dot_in (hq.seg (i:=0) (by omega)) al hp (Nat.le_refl _) hl
 have d2:=dot_in (hq.seg (i:=1) (by omega)) ar hp (Nat.le_refl _) hr
 have t1:=tmod_nn (J:=p) d1.1 (by omega)
 have t2:=tmod_nn (J:=p) d2.1 (by omega)
 refine⟨Int.mul_nonneg t1.1 t2.1,?_⟩
 have:valI p l r q≤4*4:=Int.le_trans (Int.mul_le_mul_of_nonneg_right (show _≤(4:Int) by omega) t2.1) (Int.mul_le_mul_of_nonneg_left (by omega) (by decide))
 omega
theorem stM_in {p:Int} {l r:List Int} {ps:List (List Int)} (hp:2≤p∧p≤5) (hps:Byt 27 ps) (hw:Wid 27 ps) (hl:l.length≤9) (hr:r.length≤9) (al:allIn p l=true) (ar:allIn p r=true):∀ {t:Nat},t≤ps.length→∀ j,j<9→0≤stM p l r ps t j∧stM p l r ps t j<p
 | 0,_,j,_=>by simp only[stM];omega
 | t+1,ht,j,hj=>by
  have ih:=stM_in hp hps hw hl hr al ar (t:=t) (by omega) j hj
  have hq:By 27 (ps.getD t []):=⟨hw _ (by rw[List.getD_eq_getElem?_getD,List.getElem?_eq_getElem (by omega)];exact List.getElem_mem _),fun i hi=>hps t (by omega) i hi⟩
  have v:=valI_in hp hq hl hr al ar
  have c:=hq.2 (18+j) (by omega)
  have m:=Int.mul_nonneg c.1 v.1
  simp only[stM]
  exact tmod_nn (by omega) (by omega)
theorem gen_set {N c:Nat} {f g:Nat→Int} (hc:c<N) (x:Int) (hx:x=f c):(gen N fun j=>if j<c then f j else g j).set c x=gen N fun j=>if j<c+1 then f j else g j:=by
 refine gen_ext (by rw[List.length_set,gen_len]) fun j hj=>?_
 rw[List.getD_eq_getElem?_getD,List.getElem?_set]
 by_cases e:c=j
 ·subst e
  rw[if_pos rfl,if_pos (by rw[gen_len];exact hc),if_pos (by omega),hx]
  rfl
 ·rw[if_neg e,←List.getD_eq_getElem?_getD,gen_get hj]
  by_cases h1:j<c
  ·rw[if_pos h1,if_pos (by omega)]
  ·rw[if_neg h1,if_neg (by omega)]
theorem zrep_gen:∀ {N:Nat},zrep N [I64 0]=(gen N fun _=>0).map (Value.int .i64)
 | 0=>rfl
 | N+1=>by
  have e:(gen (N+1) fun _=>(0:Int))=0::gen N fun _=>0:=by
   refine (gen_ext (by simp[gen_len]) fun i hi=>?_).symm
   cases i with
   | zero=>rfl
   | succ i=>
    rw[List.getD_cons_succ,gen_get (by omega)]
  rw[e,zrep,zrep_gen (N:=N)]
  rfl
theorem mks_gen {N:Nat} {h:AH} (hN:N≤1000000):mksV 2 1 8 [I64 0] (I64 N) h=some (sl h.length N,h.new ⟨(gen N fun _=>0).map (Value.int .i64),2,false,true⟩):=by
 rw[mksV_int,if_pos (by omega),Int.toNat_natCast,zrep_gen]
 rfl
theorem i_makes {p:Int} {N:Nat} {v u z:Value} {l r:List Int} {ps:List (List Int)} {h:AH} {Q:Value→AH→Prop} (hv:Prods h v ps) (hl:ps.length≤30) (hp:2≤p∧p≤5) (ll:l.length≤9) (lr:r.length≤9) (al:allIn p l=true) (ar:allIn p r=true)
  (hN:1≤N∧N≤9) (hu:Ints h u l) (hz:Ints h z r) (hQ:∀ n full h',h.length≤n→h<+:h'→Lst h' n (gen N (stM p l r ps ps.length)) full→Q (sl n N) h'):WF S 164 [I64 p,v,I64 N,u,z] h Q:=by
 refine WF_fn (fn:=c164) rfl rfl ?_
 dsimp only[c164,oO,oM,oS,oG,oK,oE,oL,oF,oX,oN]
 ((try simp (maxSteps:=3000000) (dsimp:=false) (disch:=first|omega|simp only[lnx];omega) only[↓ypre,ypost,↓reduceIte,reduceEqDiff,reduceAdd,reduceSub,reduceLeDiff,zz0,ynew,mks_gen (N:=N) (h:=h) (by omega)]);try simp only[yback])
 generalize hH1:AH.new h _=H1
 obtain⟨hb1,p1,n1⟩:=new_facts hH1
 have lo0:Lst H1 h.length (gen N (stM p l r ps 0)) true:=hb1
 have z27:=zeros27
 ((try simp (maxSteps:=3000000) (dsimp:=false) (disch:=first|omega|simp only[lnx];omega) only[↓ypre,ypost,↓reduceIte,reduceEqDiff,reduceAdd,reduceSub,reduceLeDiff,zz0,ynew,hv.1.len]);try simp only[yback])
 refine WC_loop_inv (fun m f K1=>∃ (t:Nat),m=ps.length-t∧t≤ps.length∧f 0=I64 p∧f 3=u∧f 4=z∧f 11=sl h.length N∧f 18=v∧f 19=I64 ps.length∧f 20=I64 t∧(h<+:K1)∧(Lst K1 h.length (gen N (stM p l r ps t)) true)) ?_ (ps.length-0) _ _ ⟨0,rfl,by omega,(by first|rfl|simp[upd_apply]),(by first|rfl|simp[upd_apply]),(by first|rfl|simp[upd_apply]),(by first|rfl|simp[upd_apply]),(by first|rfl|simp[upd_apply]),(by first|rfl|simp[upd_apply]),(by first|rfl|simp[upd_apply]),p1,lo0⟩
 rintro m f K1 ⟨t,rfl,ht,f0,f3,f4,f11,f18,f19,f20,pp,lo⟩
 have kh:=pre_len pp
 have klt:=lo.lt
 by_cases hlt:(t:Int)<ps.length
 ·have hj':t<ps.length:=by omega
  have hvK:=hv.pre pp
  obtain⟨n5',off5,hix,hrn,hr1⟩:=hvK.1.at hj'
  have r27:=hrn 0 27 (by omega)
  have wi:=hvK.1.wid hj'
  have hby:=hvK.by hj'
  have tk:(ps.getD t []).take 27=ps.getD t []:=List.take_of_length_le (by omega)
  rw[List.drop_zero,tk,Nat.add_zero] at r27
  have sin:=stM_in hp hv.2 hvK.1.widL ll lr al ar (t:=t) ht
  have stn:∀ j,stM p l r ps (t+1) j=(stM p l r ps t j+(ps.getD t []).getD (18+j) 0*valI p l r (ps.getD t [])).tmod p:=fun _=>rfl
  generalize hq:ps.getD t []=q at *
  have w1:∀ (h1:AH) (e:TypeId),(h1.new ⟨[.int .u8 0,.int .u8 0,.int .u8 0,.int .u8 0,.int .u8 0,.int .u8 0,.int .u8 0,.int .u8 0,.int .u8 0,.int .u8 0,.int .u8 0,.int .u8 0,.int .u8 0,.int .u8 0,.int .u8 0,.int .u8 0,.int .u8 0,.int .u8 0,.int .u8 0,.int .u8 0,.int .u8 0,.int .u8 0,.int .u8 0,.int .u8 0,.int .u8 0,.int .u8 0,.int .u8 0],e,false,true⟩).wr h1.length 0 (cel .u8 q)=some (h1.new ⟨cel .u8 q,e,false,true⟩):=fun h1 e=>wr_all (by rw[cel_len,wi];rfl)
  ((try simp (maxSteps:=3000000) (dsimp:=false) (disch:=first|omega|simp only[lnx];omega) only[↓ypre,ypost,↓reduceIte,reduceEqDiff,reduceAdd,reduceSub,reduceLeDiff,zz0,ynew,f0,f3,f4,f11,f18,f19,f20,decide_eq_true hlt,hix,r27,cel_all,cellsL_cel,cel_len,wi,↓w1,cel_take,tk,wrap64_in]);try simp only[yback])
  have s0:Value.agg (cel .u8 (q.take 9)).toArray=aggV .u8 (seg q 0):=by simp[aggV,seg]
  have s1:Value.agg (cel .u8 ((q.drop 9).take 9)).toArray=aggV .u8 (seg q 1):=by simp[aggV,seg]
  rw[s0]
  generalize hH3:AH.new K1 _=H3
  obtain⟨hb3,p3,n3⟩:=new_facts hH3
  refine i_atF (hby.seg (by omega)) (hu.pre (pp.trans p3)) ll al hp fun H4 p4=>?_
  have hb4:=pre_get p4 hb3
  refine⟨p4,?_⟩
  ((try simp (maxSteps:=3000000) (dsimp:=false) (disch:=first|omega|simp only[lnx];omega) only[↓ypre,ypost,↓reduceIte,reduceEqDiff,reduceAdd,reduceSub,reduceLeDiff,zz0,ynew,f0,f3,f4,f11,f18,f19,f20,rdn_of hb4,cel_len,wi,cel_drop,cel_take]);try simp only[yback])
  rw[s1]
  refine i_atF (hby.seg (by omega)) (hz.pre (pp.trans (p3.trans p4))) lr ar hp fun H5 p5=>?_
  have p35:=p3.trans (p4.trans p5)
  have hb5:=pre_get p5 hb4
  have vin:=valI_in hp hby ll lr al ar
  have evq:(dot (seg q 0) l l.length).tmod p*(dot (seg q 1) r r.length).tmod p=valI p l r q:=rfl
  have l5:=lo.pre p35
  have k5:=pre_len p35
  ((try simp (maxSteps:=3000000) (dsimp:=false) (disch:=first|omega|simp only[lnx];omega) only[↓ypre,ypost,↓reduceIte,reduceEqDiff,reduceAdd,reduceSub,reduceLeDiff,zz0,ynew,f0,f3,f4,f11,f18,f19,f20,wrap64_in,evq,show lenV (sl h.length N)=some (I64 N) from rfl]);try simp only[yback])
  have mx0:gen N (stM p l r ps t)=gen N fun j=>if j<0 then stM p l r ps (t+1) j else stM p l r ps t j:=gen_congr fun j _=>by rw[if_neg (by omega)]
  rw[mx0] at l5
  refine WC_loop_inv (fun m f K2=>∃ (c:Nat),m=N-c∧c≤N∧f 0=I64 p∧f 3=u∧f 4=z∧f 11=sl h.length N∧f 18=v∧f 19=I64 ps.length∧f 20=I64 t∧f 13=.pointer (some ⟨K1.length,0,none⟩)∧f 14=I64 (valI p l r q)∧f 36=I64 N∧f 37=I64 c∧(h<+:K2)∧(Lst K2 h.length (gen N fun j=>if j<c then stM p l r ps (t+1) j else stM p l r ps t j) true)∧(∃ e,K2.get K1.length=some ⟨cel .u8 q,e,false,true⟩)) ?_ (N-0) _ _ ⟨0,rfl,by omega,(by first|rfl|exact f0|(simp[upd_apply];done)),(by first|rfl|exact f3|(simp[upd_apply];done)),(by first|rfl|exact f4|(simp[upd_apply];done)),(by first|rfl|exact f11|(simp[upd_apply];done)),(by first|rfl|exact f18|(simp[upd_apply];done)),(by first|rfl|exact f19|(simp[upd_apply];done)),(by first|rfl|exact f20|(simp[upd_apply];done)),(by first|rfl|simp[upd_apply]),(by first|rfl|simp[upd_apply]),(by first|rfl|simp[upd_apply]),(by first|rfl|simp[upd_apply]),pp.trans p35,l5,⟨_,hb5⟩⟩
  rintro m f K2 ⟨c,rfl,hc,f0,f3,f4,f11,f18,f19,f20,f13,f14,f36,f37,p2,l2,b2⟩
  obtain⟨e2,b2⟩:=b2
  by_cases hlc:(c:Int)<N
  ·have hc':c<N:=by omega
   have ixd:ixsV 1 (sl h.length N) (I64 c)=some (.pointer (some ⟨h.length,c,none⟩)):=by
    rw[Lst.ix (by omega),Int.toNat_natCast]
   have rd:=l2.rd (j:=c) (by rw[gen_len];exact hc')
   rw[gen_get hc',if_neg (Nat.lt_irrefl _)] at rd
   have g1:=cel_get (k:=.u8) (q:=q) (j:=18+c) (by omega)
   have ixa:=ixa_u (n:=K1.length) (off:=18) (len:=9) (kk:=.i64) (j:=c) (by omega)
   have c1:=hby.2 (18+c) (by omega)
   have c2:=sin c (by omega)
   have c3:=Int.mul_nonneg c1.1 vin.1
   have c4:q.getD (18+c) 0*valI p l r q≤255*16:=Int.le_trans (Int.mul_le_mul_of_nonneg_right c1.2 vin.1) (Int.mul_le_mul_of_nonneg_left vin.2 (by decide))
   obtain⟨H6,w6,e6,l6⟩:=l2.wr (j:=c) (x:=(stM p l r ps t c+q.getD (18+c) 0*valI p l r q).tmod p) (by rw[gen_len];exact hc')
   rw[gen_set hc' _ (by rw[stn])] at l6
   ((try simp (maxSteps:=3000000) (dsimp:=false) (disch:=first|omega|simp only[lnx];omega) only[↓ypre,ypost,↓reduceIte,reduceEqDiff,reduceAdd,reduceSub,reduceLeDiff,zz0,ynew,f0,f3,f4,f11,f18,f19,f20,f13,f14,f36,f37,decide_eq_true hlc,ixd,rd,ixa,rd1_of b2,g1,wrap64_in,bin_rem (show p≠0 by omega),w6]);try simp only[yback])
   have b6:∃ e,H6.get K1.length=some ⟨cel .u8 q,e,false,true⟩:=⟨e2,by rw[e6,get_put_ne (by omega)];exact b2⟩
   refine InvQ_go (N-(c+1)) (by omega) ⟨(c+1),rfl,by omega,(by first|rfl|exact f0|(simp only[upd_apply];rfl)|(show I64 _=_;congr 1;omega)),(by first|rfl|exact f3|(simp only[upd_apply];rfl)|(show I64 _=_;congr 1;omega)),(by first|rfl|exact f4|(simp only[upd_apply];rfl)|(show I64 _=_;congr 1;omega)),(by first|rfl|exact f11|(simp only[upd_apply];rfl)|(show I64 _=_;congr 1;omega)),(by first|rfl|exact f18|(simp only[upd_apply];rfl)|(show I64 _=_;congr 1;omega)),(by first|rfl|exact f19|(simp only[upd_apply];rfl)|(show I64 _=_;congr 1;omega)),(by first|rfl|exact f20|(simp only[upd_apply];rfl)|(show I64 _=_;congr 1;omega)),(by first|rfl|exact f13|(simp only[upd_apply];rfl)|(show I64 _=_;congr 1;omega)),(by first|rfl|exact f14|(simp only[upd_apply];rfl)|(show I64 _=_;congr 1;omega)),(by first|rfl|exact f36|(simp only[upd_apply];rfl)|(show I64 _=_;congr 1;omega)),(by first|rfl|exact f37|(simp only[upd_apply];rfl)|(show I64 _=_;congr 1;omega)),(by rw[e6];exact pre_put p2 (Nat.le_refl _)),l6,b6⟩
  have ec:c=N:=by omega
  subst ec
  ((try simp (maxSteps:=3000000) (dsimp:=false) (disch:=first|omega|simp only[lnx];omega) only[↓ypre,ypost,↓reduceIte,reduceEqDiff,reduceAdd,reduceSub,reduceLeDiff,zz0,ynew,f0,f3,f4,f11,f18,f19,f20,f13,f14,f36,f37,decide_eq_false hlc,wrap64_in]);try simp only[yback])
  rw[gen_congr (g':=stM p l r ps (t+1)) (fun j hj=>by rw[if_pos hj])] at l2
  refine InvQ_go (ps.length-(t+1)) (by omega) ⟨(t+1),rfl,by omega,(by first|rfl|exact f0|(simp only[upd_apply];rfl)|(show I64 _=_;congr 1;omega)),(by first|rfl|exact f3|(simp only[upd_apply];rfl)|(show I64 _=_;congr 1;omega)),(by first|rfl|exact f4|(simp only[upd_apply];rfl)|(show I64 _=_;congr 1;omega)),(by first|rfl|exact f11|(simp only[upd_apply];rfl)|(show I64 _=_;congr 1;omega)),(by first|rfl|exact f18|(simp only[upd_apply];rfl)|(show I64 _=_;congr 1;omega)),(by first|rfl|exact f19|(simp only[upd_apply];rfl)|(show I64 _=_;congr 1;omega)),(by first|rfl|exact f20|(simp only[upd_apply];rfl)|(show I64 _=_;congr 1;omega)),p2,l2⟩
 have et:t=ps.length:=by omega
 subst et
 ((try simp (maxSteps:=3000000) (dsimp:=false) (disch:=first|omega|simp only[lnx];omega) only[↓ypre,ypost,↓reduceIte,reduceEqDiff,reduceAdd,reduceSub,reduceLeDiff,zz0,ynew,f0,f3,f4,f11,f18,f19,f20,decide_eq_false hlt]);try simp only[yback])
 exact hQ _ _ _ (Nat.le_refl _) pp lo
theorem mcX_0 {x:Sch} {L R:List (List Int)} (h:mcX x L R=0):isX x=true∧isMat x.p x.m L=true∧(L.length:Int)=x.n∧isMat x.p x.k R=true∧(R.length:Int)=x.m:=by
 unfold mcX at h
 split at h
 ·rename_i h1
  split at h
  ·rename_i h2
   simp only[mOK,Bool.and_eq_true,decide_eq_true_eq] at h2
   exact⟨h1,h2.1.1,h2.1.2,h2.2.1,h2.2.2⟩
  ·omega
 ·omega
structure MF (x:Sch) (L R:List (List Int)) (n m k:Nat):Prop where
 en:x.n=n
 em:x.m=m
 ek:x.k=k
 b:1≤n∧n≤3∧1≤m∧m≤3∧1≤k∧k≤3
 nk:1≤n*k∧n*k≤9
 wL:Wid m L
 wR:Wid k R
 lL:L.length=n
 lR:R.length=m
 fL:L.flatten.length≤9
 fR:R.flatten.length≤9
 aL:allIn x.p L.flatten=true
 aR:allIn x.p R.flatten=true
 hm:isMat x.p m L=true
 hr:isMat x.p k R=true
theorem mf_of {x:Sch} {L R:List (List Int)} (h:mcX x L R=0):∃ n m k,MF x L R n m k:=by
 obtain⟨hx,m1,l1,m2,l2⟩:=mcX_0 h
 obtain⟨zz,hp,hl30,ho⟩:=isX_facts hx
 obtain⟨p,⟨n1,n2⟩,⟨k1,k2⟩,⟨j1,j2⟩,_,_,_⟩:=zz
 obtain⟨n,hn⟩:∃ n:Nat,x.n=n:=⟨x.n.toNat,by omega⟩
 obtain⟨m,hm⟩:∃ m:Nat,x.m=m:=⟨x.m.toNat,by omega⟩
 obtain⟨k,hk⟩:∃ k:Nat,x.k=k:=⟨x.k.toNat,by omega⟩
 rw[hm] at m1
 rw[hk] at m2
 have wL:=isMat_wid m1
 have wR:=isMat_wid m2
 have b1:n*m≤3*3:=Nat.mul_le_mul (by omega) (by omega)
 have b2:m*k≤3*3:=Nat.mul_le_mul (by omega) (by omega)
 have b3:n*k≤3*3:=Nat.mul_le_mul (by omega) (by omega)
 have b4:1*1≤n*k:=Nat.mul_le_mul (by omega) (by omega)
 have lL:L.length=n:=by omega
 have lR:R.length=m:=by omega
 exact⟨n,m,k,hn,hm,hk,by omega,by omega,wL,wR,lL,lR,by rw[flat_len wL,lL];omega,by rw[flat_len wR,lR];omega,allIn_flat m1,allIn_flat m2,m1,m2⟩
def mpF (x:Sch) (L R:List (List Int)):List (List Int):=parts (gen (x.n*x.k).toNat (stM x.p L.flatten R.flatten x.ps x.ps.length)) x.k.toNat x.n.toNat
def mpR (x:Sch) (L R:List (List Int)):List (List Int)×Int:=if mcX x L R=0 then (mpF x L R,0) else ([],mcX x L R)
theorem i_MakeProduct {v u z:Value} {x:Sch} {L R:List (List Int)} {h:AH} {Q:Value→AH→Prop} (hv:Prods h v x.ps) (hl:SmallX x.ps) (hu:Rows h u L) (hL:SmallM L) (hz:Rows h z R) (hR:SmallM R)
  (hQ:∀ v' h',h<+:h'→OwnRows h h' v' (mpR x L R).1→Q (.tuple #[v',I64 (mpR x L R).2]) h'):WF S 21 [schV x v,u,z] h Q:=by
 refine WF_fn (fn:=c21) rfl rfl ?_
 dsimp only[c21,oO,oM,oS,oG,oK,oE,oL,oF,oX,oN]
 ((try simp (maxSteps:=3000000) (dsimp:=false) (disch:=first|omega|simp only[lnx];omega) only[↓ypre,ypost,↓reduceIte,reduceEqDiff,reduceAdd,reduceSub,reduceLeDiff,zz0,ynew,schV,hv.one]);try simp only[yback])
 generalize hH1:AH.new h _=H1
 obtain⟨hb1,p1,n1⟩:=new_facts hH1
 ((try simp (maxSteps:=3000000) (dsimp:=false) (disch:=first|omega|simp only[lnx];omega) only[↓ypre,ypost,↓reduceIte,reduceEqDiff,reduceAdd,reduceSub,reduceLeDiff,zz0,ynew,rdn_of hb1]);try simp only[yback])
 refine i_matricesCode (x:=x) (hv.pre p1) hl (hu.pre p1) hL (hz.pre p1) hR fun H2 p2=>?_
 have p12:=p1.trans p2
 have hb2:=pre_get p2 hb1
 unfold mpR at hQ
 by_cases hc:mcX x L R=0
 case neg=>
  rw[if_neg hc] at hQ
  ((try simp (maxSteps:=3000000) (dsimp:=false) (disch:=first|omega|simp only[lnx];omega) only[↓ypre,ypost,↓reduceIte,reduceEqDiff,reduceAdd,reduceSub,reduceLeDiff,zz0,ynew,decide_eq_true (show mcX x L R≠0 from hc)]);try simp only[yback])
  exact hQ _ _ p12 (.inl ⟨rfl,rfl⟩)
 rw[if_pos hc] at hQ
 obtain⟨hx,_⟩:=mcX_0 hc
 obtain⟨zz,hp,hl30,ho⟩:=isX_facts hx
 have hp5:=isP_in hp
 obtain⟨n,m,k,mf⟩:=mf_of hc
 have b:=mf.b
 have nk:=mf.nk
 have lL:=mf.lL
 have lR:=mf.lR
 ((try simp (maxSteps:=3000000) (dsimp:=false) (disch:=first|omega|simp only[lnx];omega) only[↓ypre,ypost,↓reduceIte,reduceEqDiff,reduceAdd,reduceSub,reduceLeDiff,zz0,ynew,decide_eq_false (show ¬ mcX x L R≠0 from fun y=>y hc),rd1_of hb2]);try simp only[yback])
 refine i_Concat (hu.pre p12) mf.wL (by omega) (by omega) fun nl fl H3 e3 p3 o3=>?_
 refine⟨p3,?_⟩
 ((try simp (maxSteps:=3000000) (dsimp:=false) (disch:=first|omega|simp only[lnx];omega) only[↓ypre,ypost,↓reduceIte,reduceEqDiff,reduceAdd,reduceSub,reduceLeDiff,zz0,ynew]);try simp only[yback])
 refine i_Concat (hz.pre (p12.trans p3)) mf.wR (by omega) (by omega) fun nr fr H4 e4 p4 o4=>?_
 refine⟨p4,?_⟩
 have enk:IntKind.i64.wrap (x.n*x.k)=((n*k:Nat):Int):=by
  rw[mf.en,mf.ek,←Int.natCast_mul,wrap64_in (by omega) (by omega)]
 ((try simp (maxSteps:=3000000) (dsimp:=false) (disch:=first|omega|simp only[lnx];omega) only[↓ypre,ypost,↓reduceIte,reduceEqDiff,reduceAdd,reduceSub,reduceLeDiff,zz0,ynew,enk]);try simp only[yback])
 have p14:=p12.trans (p3.trans p4)
 refine i_makes (N:=n*k) (hv.pre p14) hl30 hp5 mf.fL mf.fR mf.aL mf.aR nk (o3.pre p4).ints o4.ints fun no fo H5 e5 p5 o5=>?_
 refine⟨p5,?_⟩
 have hb5:=pre_get (p3.trans (p4.trans p5)) hb2
 ((try simp (maxSteps:=3000000) (dsimp:=false) (disch:=first|omega|simp only[lnx];omega) only[↓ypre,ypost,↓reduceIte,reduceEqDiff,reduceAdd,reduceSub,reduceLeDiff,zz0,ynew,rd1_of hb5]);try simp only[yback])
 rw[mf.ek]
 have gl:=gen_len (N:=n*k) (g:=stM x.p L.flatten R.flatten x.ps x.ps.length)
 have oi:=o5.ints
 rw[gl] at oi
 refine i_parted (w:=k) (n:=n) oi (by omega) (by omega) (by omega) fun v6 H6 p6 o6=>?_
 ((try simp (maxSteps:=3000000) (dsimp:=false) (disch:=first|omega|simp only[lnx];omega) only[↓ypre,ypost,↓reduceIte,reduceEqDiff,reduceAdd,reduceSub,reduceLeDiff,zz0,ynew]);try simp only[yback])
 have eF:parts (gen (n*k) (stM x.p L.flatten R.flatten x.ps x.ps.length)) k n=mpF x L R:=by
  unfold mpF
  rw[mf.en,mf.ek,←Int.natCast_mul,Int.toNat_natCast,Int.toNat_natCast,Int.toNat_natCast]
 rw[eF] at o6
 have pp:=p14.trans p5
 exact hQ _ _ (pp.trans p6) (o6.lo (pre_len pp))
end Go.Proofs.Ytapafdpnmakekaa.X

set_option linter.unusedVariables false
set_option linter.unusedSimpArgs false
set_option maxRecDepth 20000
set_option maxHeartbeats 4000000
namespace Go.Proofs.Ytapafdpnmakekaa.X
open Go Go.RowKit
theorem tmod_dvd (x p:Int):p∣x-x.tmod p:=⟨x.tdiv p,by have:=Int.mul_tdiv_add_tmod x p;omega⟩
theorem dvd_small {p x:Int} (h:p∣x) (h0:0≤x∧x<p):x=0:=by
 have:=Int.emod_eq_zero_of_dvd h
 rw[Int.emod_eq_of_lt h0.1 h0.2] at this
 exact this
theorem dvd_eq {p x y:Int} (h:p∣x-y) (hx:0≤x∧x<p) (hy:0≤y∧y<p):x=y:=by
 by_cases hxy:y≤x
 ·have:=dvd_small h ⟨by omega,by omega⟩
  omega
 ·have h2:p∣y-x:=by
   obtain⟨c,hc⟩:=h
   exact⟨-c,by rw[Int.mul_neg];omega⟩
  have:=dvd_small h2 ⟨by omega,by omega⟩
  omega
end Go.Proofs.Ytapafdpnmakekaa.X
