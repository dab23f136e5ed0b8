/- Texts of one claim, put together by merge.py: XQ1, XR1, XQ2, XF34, XF35, XR2, XF11, XF12, XF13, XF14, XF15, XQ3, XD9, XDA, XDB, XDC, XDF, XDG, XDI, XDJ, XDK, XZ1, XZ2, XZ3, XZ4, XZ5, XZ6, XDL, XDM, XP7, XU2, XU3, XU4, XU5, XW1, XV1, XM2, XM3, XM5, XP9, XM6, XDN, XDD, XDO, XZ7, XV2, XZ8, XB1, XB2, XB3, XB4, XV3, XV4, XQ4, XN1, XN2. -/
import Derived.Test.YtapafdpnmakekaaFL7
import Derived.Test.YtapafdpnmakekaaFL8
set_option linter.unusedVariables false
set_option linter.unusedSimpArgs false
set_option maxRecDepth 20000
set_option maxHeartbeats 4000000
namespace Go.Proofs.Ytapafdpnmakekaa.X
def sm:Nat→(Nat→Int)→Int
 | 0,_=>0
 | n+1,f=>sm n f+f n
theorem sm_ext {f g:Nat→Int}:∀ {n:Nat},(∀ i,i<n→f i=g i)→sm n f=sm n g
 | 0,_=>rfl
 | n+1,h=>by rw[sm,sm,sm_ext (fun i hi=>h i (by omega)),h n (by omega)]
theorem sm_zero {n:Nat}:sm n (fun _=>0)=0:=by
 induction n with
 | zero=>rfl
 | succ n ih=>rw[sm,ih];rfl
theorem sm_zero' {f:Nat→Int} {n:Nat} (h:∀ i,i<n→f i=0):sm n f=0:=by rw[sm_ext h,sm_zero]
theorem sm_add {f g:Nat→Int} {n:Nat}:sm n (fun i=>f i+g i)=sm n f+sm n g:=by
 induction n with
 | zero=>rfl
 | succ n ih=>simp only[sm,ih];omega
theorem sm_mul {f:Nat→Int} {c:Int} {n:Nat}:sm n (fun i=>c*f i)=c*sm n f:=by
 induction n with
 | zero=>simp[sm]
 | succ n ih=>simp only[sm,ih,Int.mul_add]
theorem sm_mulr {f:Nat→Int} {c:Int} {n:Nat}:sm n (fun i=>f i*c)=sm n f*c:=by
 induction n with
 | zero=>simp[sm]
 | succ n ih=>simp only[sm,ih,Int.add_mul]
theorem sm_comm {f:Nat→Nat→Int} {n m:Nat}:sm n (fun i=>sm m (fun j=>f i j))=sm m (fun j=>sm n (fun i=>f i j)):=by
 induction n with
 | zero=>simp only[sm];exact sm_zero.symm
 | succ n ih=>simp only[sm,ih];rw[←sm_add]
theorem sm_left {f:Nat→Int} {n:Nat}:sm (n+1) f=f 0+sm n (fun i=>f (i+1)):=by
 induction n with
 | zero=>simp[sm]
 | succ n ih=>rw[sm,ih,sm];omega
theorem sm_split {f:Nat→Int} {n m:Nat}:sm (n+m) f=sm n f+sm m (fun i=>f (n+i)):=by
 induction m with
 | zero=>simp[sm]
 | succ m ih=>rw[←Nat.add_assoc,sm,ih,sm];omega
theorem sm_rows {f:Nat→Int} {n m:Nat}:sm (n*m) f=sm n (fun a=>sm m (fun b=>f (a*m+b))):=by
 induction n with
 | zero=>simp[sm]
 | succ n ih=>rw[Nat.succ_mul,sm_split,ih,sm]
theorem sm_delta {f:Nat→Int} {n a:Nat} (h:a<n):sm n (fun i=>if i=a then f i else 0)=f a:=by
 induction n with
 | zero=>omega
 | succ n ih=>
  rw[sm]
  by_cases e:a=n
  ·subst e
   rw[if_pos rfl,sm_zero' (fun i hi=>if_neg (by omega))]
   omega
  ·rw[ih (by omega),if_neg (by omega)]
   omega
def Cg (p a b:Int):Prop:=p∣a-b
theorem Cg.rfl' {p a:Int}:Cg p a a:=⟨0,by omega⟩
theorem Cg.of {p a b:Int} (h:a=b):Cg p a b:=by subst h;exact .rfl'
theorem Cg.symm {p a b:Int} (h:Cg p a b):Cg p b a:=by
 obtain⟨k,h⟩:=h
 exact⟨-k,by rw[Int.mul_neg];omega⟩
theorem Cg.trans {p a b c:Int} (h:Cg p a b) (g:Cg p b c):Cg p a c:=by
 obtain⟨k,h⟩:=h
 obtain⟨l,g⟩:=g
 exact⟨k+l,by rw[Int.mul_add];omega⟩
theorem Cg.add {p a b c d:Int} (h:Cg p a b) (g:Cg p c d):Cg p (a+c) (b+d):=by
 obtain⟨k,h⟩:=h
 obtain⟨l,g⟩:=g
 exact⟨k+l,by rw[Int.mul_add];omega⟩
theorem Cg.mul {p a b c d:Int} (h:Cg p a b) (g:Cg p c d):Cg p (a*c) (b*d):=by
 obtain⟨k,h⟩:=h
 obtain⟨l,g⟩:=g
 exact⟨k*c+b*l,by grind⟩
theorem Cg.sm {p:Int} {f g:Nat→Int}:∀ {n:Nat},(∀ i,i<n→Cg p (f i) (g i))→Cg p (sm n f) (sm n g)
 | 0,_=>.rfl'
 | n+1,h=>(Cg.sm fun i hi=>h i (by omega)).add (h n (by omega))
def Fld (p:Int):Prop:=2≤p∧∀ x,¬ p∣x→∃ w,Cg p (w*x) 1
def dl (a b:Nat):Int:=if a=b then 1 else 0
theorem dim_le {p:Int} (hp:Fld p):∀ (r s:Nat) (U V:Nat→Nat→Int),(∀ i j,i<s→j<s→Cg p (sm r fun k=>U i k*V k j) (dl i j))→s≤r
 | 0,0,U,V,h=>Nat.le_refl _
 | 0,s+1,U,V,h=>by
  have:=h 0 0 (by omega) (by omega)
  obtain⟨k,hk⟩:=this
  simp only[sm,dl,if_true] at hk
  have:p∣1:=⟨-k,by rw[Int.mul_neg];omega⟩
  have:=Int.le_of_dvd (by omega) this
  have:=hp.1
  omega
 | r+1,0,U,V,h=>by omega
 | r+1,s+1,U,V,h=>by
  -- a place where the last row is not 0
  have h1:∃ k,k<r+1∧¬ p∣U s k:=by
   refine Classical.byContradiction fun hn=>?_
   have hz:∀ k,k<r+1→p∣U s k:=fun k hk=>Classical.byContradiction fun hd=>hn ⟨k,hk,hd⟩
   have h2:=h s s (by omega) (by omega)
   have h3:Cg p (sm (r+1) fun k=>U s k*V k s) (sm (r+1) fun _=>0):=Cg.sm fun k hk=>by
    obtain⟨q,hq⟩:=hz k hk
    exact⟨q*V k s,by rw[hq,←Int.mul_assoc];omega⟩
   rw[sm_zero] at h3
   have h4:=h3.symm.trans h2
   obtain⟨k,hk⟩:=h4
   simp only[dl,if_true] at hk
   have h5:p∣1:=⟨-k,by rw[Int.mul_neg];omega⟩
   have:=Int.le_of_dvd (by omega) h5
   have:=hp.1
   omega
  obtain⟨k0,hk0,hd⟩:=h1
  obtain⟨w,hw⟩:=hp.2 _ hd
  -- the places without k0
  let nx:Nat→Nat:=fun k=>if k=k0 then r else k
  have hsum:∀ (f:Nat→Int),sm (r+1) f=sm r (fun k=>f (nx k))+f k0:=fun f=>by
   by_cases e:k0=r
   ·subst e
    rw[sm,sm_ext (f:=fun k=>f (nx k)) (g:=f) fun i hi=>by show f (if i=k0 then k0 else i)=f i;rw[if_neg (by omega)]]
   ·have e1:sm r (fun k=>f (nx k))=sm r f+sm r (fun k=>if k=k0 then f r-f k else 0):=by
     rw[←sm_add]
     refine sm_ext fun i hi=>?_
     show f (if i=k0 then r else i)=_
     by_cases e2:i=k0
     ·rw[if_pos e2,if_pos e2];omega
     ·rw[if_neg e2,if_neg e2];omega
    rw[e1,sm_delta (f:=fun k=>f r-f k) (by omega),sm]
    show _+f r=_+(f r-f k0)+f k0
    omega
  refine Nat.succ_le_succ (dim_le hp r s (fun i k=>U i (nx k)-U i k0*w*U s (nx k)) (fun k j=>V (nx k) j) fun i j hi hj=>?_)
  have a1:=h i j (by omega) (by omega)
  have a2:=h s j (by omega) (by omega)
  rw[hsum] at a1 a2
  have a3:sm r (fun k=>(U i (nx k)-U i k0*w*U s (nx k))*V (nx k) j)=sm r (fun k=>U i (nx k)*V (nx k) j)+(- (U i k0*w))*sm r (fun k=>U s (nx k)*V (nx k) j):=by
   rw[←sm_mul,←sm_add]
   exact sm_ext fun k hk=>by grind
  rw[a3]
  have e0:dl s j=0:=if_neg (by omega)
  rw[e0] at a2
  generalize sm r (fun k=>U i (nx k)*V (nx k) j)=x1 at *
  generalize sm r (fun k=>U s (nx k)*V (nx k) j)=x2 at *
  obtain⟨q1,a1⟩:=a1
  obtain⟨q2,a2⟩:=a2
  obtain⟨q3,hw⟩:=hw
  exact⟨q1-U i k0*w*q2+U i k0*V k0 j*q3,by grind⟩
structure Rk (p:Int) (A:Nat→Nat→Int) (n w R:Nat):Prop where
 up:∃ X Y:Nat→Nat→Int,∀ i j,i<n→j<w→Cg p (A i j) (sm R fun r=>X i r*Y r j)
 lo:∃ P Q:Nat→Nat→Int,∀ a b,a<R→b<R→Cg p (sm n fun i=>sm w fun j=>P a i*A i j*Q j b) (dl a b)
theorem Rk.nil {p:Int} {A:Nat→Nat→Int} {n:Nat}:Rk p A n 0 0:=
 ⟨⟨fun _ _=>0,fun _ _=>0,fun _ _ _ h=>by omega⟩,⟨fun _ _=>0,fun _ _=>0,fun _ _ h=>by omega⟩⟩
theorem Rk.none {p:Int} {A:Nat→Nat→Int} {w:Nat}:Rk p A 0 w 0:=
 ⟨⟨fun _ _=>0,fun _ _=>0,fun _ _ h=>by omega⟩,⟨fun _ _=>0,fun _ _=>0,fun _ _ h=>by omega⟩⟩
theorem Rk.pivot {p:Int} {A B:Nat→Nat→Int} {n w R:Nat} (hp:Fld p) (h:Rk p B n w R) (hs:¬ p∣A 0 0) (hz:∀ i,i<n→Cg p (A (i+1) 0) 0) (hB:∀ i j,i<n→j<w→B i j=A (i+1) (j+1)):Rk p A (n+1) (w+1) (R+1):=by
 obtain⟨⟨X,Y,hu⟩,⟨P,Q,hl⟩⟩:=h
 obtain⟨s',hw⟩:=hp.2 _ hs
 refine⟨⟨fun i r=>if r=0 then (if i=0 then 1 else 0) else (if i=0 then 0 else X (i-1) (r-1)),fun r j=>if r=0 then A 0 j else if j=0 then 0 else Y (r-1) (j-1),fun i j hi hj=>?_⟩,
  ⟨fun a i=>if a=0 then (if i=0 then s' else 0) else (if i=0 then 0 else P (a-1) (i-1)),
   fun j b=>if b=0 then (if j=0 then 1 else 0) else (if j=0 then-(s'*sm w fun l=>A 0 (l+1)*Q l (b-1)) else Q (j-1) (b-1)),fun a b ha hb=>?_⟩⟩
 ·rw[sm_left]
  simp only[if_true,Nat.add_sub_cancel,Nat.succ_ne_zero,if_false,Nat.add_one_ne_zero]
  cases i with
  | zero=>
   simp only[if_true]
   rw[sm_zero' fun r _=>by simp]
   exact .of (by omega)
  | succ i=>
   simp only[Nat.succ_ne_zero,if_false,Nat.add_sub_cancel,Nat.add_one_ne_zero]
   cases j with
   | zero=>
    refine (hz i (by omega)).trans (.of ?_)
    rw[sm_zero' fun r _=>by simp]
    omega
   | succ j=>
    have:=hu i j (by omega) (by omega)
    rw[hB i j (by omega) (by omega)] at this
    refine this.trans (.of ?_)
    simp only[Nat.succ_ne_zero,if_false,Nat.add_sub_cancel,Nat.add_one_ne_zero,Int.zero_mul,Int.zero_add]
 ·rw[sm_left]
  simp only[if_true,Nat.add_sub_cancel,Nat.succ_ne_zero,if_false,Nat.add_one_ne_zero]
  cases a with
  | zero=>
   simp only[if_true,Int.zero_mul,sm_zero,Int.add_zero]
   rw[sm_left]
   simp only[if_true,Nat.add_sub_cancel,Nat.succ_ne_zero,if_false,Nat.add_one_ne_zero]
   cases b with
   | zero=>
    simp only[if_true,Int.mul_zero,sm_zero,Int.add_zero,Int.mul_one]
    exact hw
   | succ b=>
    simp only[Nat.succ_ne_zero,if_false,Nat.add_sub_cancel,Nat.add_one_ne_zero]
    have e:(sm w fun i=>s'*A 0 (i+1)*Q i b)=s'*sm w fun l=>A 0 (l+1)*Q l b:=by
     rw[←sm_mul]
     exact sm_ext fun l _=>Int.mul_assoc _ _ _
    rw[e]
    have e0:dl 0 (b+1)=0:=if_neg (by omega)
    rw[e0]
    generalize (sm w fun l=>A 0 (l+1)*Q l b)=z
    obtain⟨q,hq⟩:=hw
    exact⟨- (s'*z)*q,by grind⟩
  | succ a=>
   simp only[Nat.succ_ne_zero,if_false,Nat.add_sub_cancel,Nat.add_one_ne_zero,Int.zero_mul,sm_zero,Int.zero_add]
   cases b with
   | zero=>
    have e0:dl (a+1) 0=0:=if_neg (by omega)
    rw[e0]
    have:Cg p (sm n fun i=>sm (w+1) fun j=>P a i*A (i+1) j*if j=0 then 1 else 0) (sm n fun i=>0):=Cg.sm fun i hi=>by
     rw[sm_left]
     simp only[if_true,Nat.succ_ne_zero,if_false,Nat.add_one_ne_zero,Int.mul_zero,sm_zero,Int.add_zero,Int.mul_one]
     have:=(Cg.rfl' (a:=P a i)).mul (hz i hi)
     rwa [Int.mul_zero] at this
    rw[sm_zero] at this
    simpa using this
   | succ b=>
    have e0:dl (a+1) (b+1)=dl a b:=by simp[dl]
    rw[e0]
    simp only[Nat.succ_ne_zero,if_false,Nat.add_sub_cancel,Nat.add_one_ne_zero]
    refine Cg.trans ?_ (hl a b (by omega) (by omega))
    refine Cg.sm fun i hi=>?_
    rw[sm_left]
    simp only[if_true,Nat.succ_ne_zero,if_false,Nat.add_sub_cancel,Nat.add_one_ne_zero]
    have e1:(sm w fun j=>P a i*B i j*Q j b)=sm w fun j=>P a i*A (i+1) (j+1)*Q j b:=sm_ext fun j hj=>by rw[hB i j hi hj]
    rw[e1]
    have z:=hz i hi
    generalize (sm w fun j=>P a i*A (i+1) (j+1)*Q j b)=y
    generalize (sm w fun l=>A 0 (l+1)*Q l b)=x
    obtain⟨q,hq⟩:=z
    exact⟨- (P a i*s'*x)*q,by grind⟩
theorem Rk.rows {p:Int} {A B:Nat→Nat→Int} {n w R:Nat} (h:Rk p B n w R) (G H:Nat→Nat→Int) (hG:∀ l j,l<n→j<w→Cg p (B l j) (sm n fun i=>G l i*A i j)) (hH:∀ i j,i<n→j<w→Cg p (A i j) (sm n fun l=>H i l*B l j)):Rk p A n w R:=by
 obtain⟨⟨X,Y,hu⟩,⟨P,Q,hl⟩⟩:=h
 refine⟨⟨fun i r=>sm n fun l=>H i l*X l r,Y,fun i j hi hj=>?_⟩,⟨fun a i=>sm n fun l=>P a l*G l i,Q,fun a b ha hb=>?_⟩⟩
 ·refine (hH i j hi hj).trans ?_
  have h1:Cg p (sm n fun l=>H i l*B l j) (sm n fun l=>H i l*sm R fun r=>X l r*Y r j):=Cg.sm fun l hl'=>Cg.rfl'.mul (hu l j hl' hj)
  refine h1.trans (.of ?_)
  have h2:(sm n fun l=>H i l*sm R fun r=>X l r*Y r j)=sm n fun l=>sm R fun r=>H i l*X l r*Y r j:=sm_ext fun l _=>by
   rw[←sm_mul]
   exact sm_ext fun r _=>(Int.mul_assoc _ _ _).symm
  rw[h2,sm_comm]
  exact sm_ext fun r _=>sm_mulr
 ·refine Cg.trans ?_ (hl a b ha hb)
  have h1:Cg p (sm n fun l=>sm w fun j=>P a l*B l j*Q j b) (sm n fun l=>sm w fun j=>P a l*(sm n fun i=>G l i*A i j)*Q j b):=
   Cg.sm fun l hl'=>Cg.sm fun j hj=>(Cg.rfl'.mul (hG l j hl' hj)).mul .rfl'
  refine Cg.trans (.of ?_) h1.symm
  have h2:(sm n fun i=>sm w fun j=>(sm n fun l=>P a l*G l i)*A i j*Q j b)=sm n fun i=>sm w fun j=>sm n fun l=>P a l*G l i*A i j*Q j b:=sm_ext fun i _=>sm_ext fun j _=>by
   rw[←sm_mulr,←sm_mulr]
  have h3:(sm n fun l=>sm w fun j=>P a l*(sm n fun i=>G l i*A i j)*Q j b)=sm n fun l=>sm w fun j=>sm n fun i=>P a l*G l i*A i j*Q j b:=sm_ext fun l _=>sm_ext fun j _=>by
   rw[←sm_mul,←sm_mulr]
   exact sm_ext fun i _=>by grind
  rw[h2,h3]
  have h4:(sm n fun i=>sm w fun j=>sm n fun l=>P a l*G l i*A i j*Q j b)=sm n fun i=>sm n fun l=>sm w fun j=>P a l*G l i*A i j*Q j b:=sm_ext fun i _=>sm_comm
  have h5:(sm n fun l=>sm w fun j=>sm n fun i=>P a l*G l i*A i j*Q j b)=sm n fun l=>sm n fun i=>sm w fun j=>P a l*G l i*A i j*Q j b:=sm_ext fun l _=>sm_comm
  rw[h4,h5]
  exact sm_comm
structure Rk3 (p:Int) (T:Nat→Nat→Nat→Int) (I J K R:Nat):Prop where
 up:∃ (X:Nat→Nat→Int) (Y:Nat→Nat→Nat→Int),∀ i j k,i<I→j<J→k<K→Cg p (T i j k) (sm R fun r=>X i r*Y r j k)
 lo:∃ (P:Nat→Nat→Int) (Q:Nat→Nat→Nat→Int),∀ a b,a<R→b<R→Cg p (sm I fun i=>sm J fun j=>sm K fun k=>P a i*T i j k*Q j k b) (dl a b)
theorem lin_lt {j k J K:Nat} (hj:j<J) (hk:k<K):j*K+k<J*K:=by
 have:=Nat.mul_le_mul_right K (show j+1≤J from hj)
 rw[Nat.succ_mul] at this
 omega
theorem Rk.three {p:Int} {A:Nat→Nat→Int} {T:Nat→Nat→Nat→Int} {I J K R:Nat} (h:Rk p A I (J*K) R) (hT:∀ i j k,i<I→j<J→k<K→T i j k=A i (j*K+k)):Rk3 p T I J K R:=by
 obtain⟨⟨X,Y,hu⟩,⟨P,Q,hl⟩⟩:=h
 refine⟨⟨X,fun r j k=>Y r (j*K+k),fun i j k hi hj hk=>?_⟩,⟨P,fun j k b=>Q (j*K+k) b,fun a b ha hb=>?_⟩⟩
 ·rw[hT i j k hi hj hk]
  exact hu i _ hi (lin_lt hj hk)
 ·refine Cg.trans (.of ?_) (hl a b ha hb)
  refine sm_ext fun i hi=>?_
  rw[sm_rows]
  exact sm_ext fun j hj=>sm_ext fun k hk=>by rw[hT i j k hi hj hk]
theorem Rk3.le {p:Int} {T:Nat→Nat→Nat→Int} {I J K R S:Nat} (hp:Fld p) (h:Rk3 p T I J K R) {X:Nat→Nat→Int} {Y:Nat→Nat→Nat→Int} (hu:∀ i j k,i<I→j<J→k<K→Cg p (T i j k) (sm S fun r=>X i r*Y r j k)):R≤S:=by
 obtain⟨_,⟨P,Q,hl⟩⟩:=h
 refine dim_le hp S R (fun a r=>sm I fun i=>P a i*X i r) (fun r b=>sm J fun j=>sm K fun k=>Y r j k*Q j k b) fun a b ha hb=>?_
 refine Cg.trans ?_ (hl a b ha hb)
 have h1:Cg p (sm I fun i=>sm J fun j=>sm K fun k=>P a i*T i j k*Q j k b) (sm I fun i=>sm J fun j=>sm K fun k=>P a i*(sm S fun r=>X i r*Y r j k)*Q j k b):=
  Cg.sm fun i hi=>Cg.sm fun j hj=>Cg.sm fun k hk=>(Cg.rfl'.mul (hu i j k hi hj hk)).mul .rfl'
 refine Cg.trans (.of ?_) h1.symm
 have h2:(sm I fun i=>sm J fun j=>sm K fun k=>P a i*(sm S fun r=>X i r*Y r j k)*Q j k b)=sm I fun i=>sm S fun r=>sm J fun j=>sm K fun k=>P a i*X i r*(Y r j k*Q j k b):=sm_ext fun i _=>by
  rw[sm_comm (n:=S)]
  refine sm_ext fun j _=>?_
  rw[sm_comm (n:=S)]
  refine sm_ext fun k _=>?_
  rw[←sm_mul,←sm_mulr]
  exact sm_ext fun r _=>by grind
 rw[h2,sm_comm (n:=I)]
 refine sm_ext fun r _=>?_
 rw[←sm_mulr]
 refine sm_ext fun i _=>?_
 rw[←sm_mul]
 refine sm_ext fun j _=>?_
 rw[←sm_mul]
theorem Rk3.eq {p:Int} {T:Nat→Nat→Nat→Int} {I J K R S:Nat} (hp:Fld p) (h:Rk3 p T I J K R) (g:Rk3 p T I J K S):R=S:=by
 obtain⟨X,Y,hu⟩:=h.up
 obtain⟨X',Y',hu'⟩:=g.up
 exact Nat.le_antisymm (h.le hp hu') (g.le hp hu)
theorem Rk3.add {p:Int} {T A B:Nat→Nat→Nat→Int} {c:Int} {I J K R a b:Nat} (hp:Fld p) (h:Rk3 p T I J K R) (hA:Rk3 p A I J K a) (hB:Rk3 p B I J K b) (e:∀ i j k,i<I→j<J→k<K→Cg p (T i j k) (A i j k+c*B i j k)):R≤a+b:=by
 obtain⟨X,Y,hu⟩:=hA.up
 obtain⟨X',Y',hu'⟩:=hB.up
 refine h.le hp (X:=fun i r=>if r<a then X i r else X' i (r-a)) (Y:=fun r j k=>if r<a then Y r j k else c*Y' (r-a) j k) fun i j k hi hj hk=>?_
 refine (e i j k hi hj hk).trans (((hu i j k hi hj hk).add (Cg.rfl'.mul (hu' i j k hi hj hk))).trans (.of ?_))
 rw[sm_split,←sm_mul]
 congr 1
 ·exact sm_ext fun r hr=>by rw[if_pos hr,if_pos hr]
 ·exact sm_ext fun r hr=>by rw[if_neg (by omega),if_neg (by omega),Nat.add_sub_cancel_left];grind
end Go.Proofs.Ytapafdpnmakekaa.X

set_option linter.unusedVariables false
set_option linter.unusedSimpArgs false
set_option maxRecDepth 20000
set_option maxHeartbeats 4000000
namespace Go.Proofs.Ytapafdpnmakekaa.X
open Go Go.RowKit
theorem tmod_dvd (x p:Int):p∣x-x.tmod p:=⟨x.tdiv p,by have:=Int.mul_tdiv_add_tmod x p;omega⟩
theorem dvd_small {p x:Int} (h:p∣x) (h0:0≤x∧x<p):x=0:=by
 have:=Int.emod_eq_zero_of_dvd h
 rw[Int.emod_eq_of_lt h0.1 h0.2] at this
 exact this
theorem dvd_eq {p x y:Int} (h:p∣x-y) (hx:0≤x∧x<p) (hy:0≤y∧y<p):x=y:=by
 by_cases hxy:y≤x
 ·have:=dvd_small h ⟨by omega,by omega⟩
  omega
 ·have h2:p∣y-x:=by
   obtain⟨c,hc⟩:=h
   exact⟨-c,by rw[Int.mul_neg];omega⟩
  have:=dvd_small h2 ⟨by omega,by omega⟩
  omega
theorem md_dvd (p x:Int):p∣x-md p x:=by
 unfold md
 obtain⟨a,ha⟩:=tmod_dvd x p
 obtain⟨b,hb⟩:=tmod_dvd (x.tmod p+p) p
 exact⟨a+b-1,by grind⟩
end Go.Proofs.Ytapafdpnmakekaa.X

set_option linter.unusedVariables false
set_option linter.unusedSimpArgs false
set_option maxRecDepth 20000
set_option maxHeartbeats 4000000
namespace Go.Proofs.Ytapafdpnmakekaa.X
end Go.Proofs.Ytapafdpnmakekaa.X

set_option linter.unusedVariables false
set_option linter.unusedSimpArgs false
set_option maxRecDepth 20000
set_option maxHeartbeats 4000000
namespace Go.Proofs.Ytapafdpnmakekaa.X
open Go Go.RowKit
theorem firstAt_spec {q:Nat→Bool}:∀ {m i:Nat},(firstAt q m i = -1∧∀ j,i≤j→j<i+m→q j=false)∨∃ r:Nat,firstAt q m i=r∧i≤r∧r<i+m∧q r=true
 | 0,i=>.inl ⟨rfl,fun j h1 h2=>by omega⟩
 | m+1,i=>by
  unfold firstAt
  by_cases h:q i=true
  ·rw[if_pos h]
   exact .inr ⟨i,rfl,Nat.le_refl _,by omega,h⟩
  ·rw[if_neg h]
   rcases firstAt_spec (q:=q) (m:=m) (i:=i+1) with⟨h1,h2⟩|⟨r,h1,h2,h3,h4⟩
   ·refine .inl ⟨h1,fun j h3 h4=>?_⟩
    by_cases e:j=i
    ·subst e
     simpa using h
    ·exact h2 j (by omega) (by omega)
   ·exact .inr ⟨r,h1,by omega,by omega,h4⟩
section
variable (t:Ten) (f e:Int)
end
def mmV (isMax:Bool) (x:Value) (l:List Value):Option Value:=match x with
 | .int k a=>(xmm isMax a l).map fun b=>.int k b
 | _=>none
theorem WX_mm {S:XS} {f:Fr} {h:AH} {Q:Value→AH→Prop} {b:Bool} {x:Operand} {l:List Operand}:WX S (.mm b x l) f h Q=WV (mmV b (ev f x) (l.map (ev f))) fun v=>Q v h:=by
 rw[WX_op (fun _=>rfl)]
 have:xop (.mm b x l) f h=(mmV b (ev f x) (l.map (ev f))).map (·,h):=by
  simp only[xop,mmV]
  generalize ev f x=vx
  cases vx<;>try rfl
  simp only
  generalize xmm b _ _=r
  cases r<;>rfl
 rw[this]
 cases mmV b (ev f x) (l.map (ev f))<;>simp[OQ_some,WV_some,OQ_none,WV_none]
def DoneS (N:Nat) (g:Nat→Int) (l:List Int) (m:Int):Prop:=l.length=N∧∀ n:Nat,(n:Int)<m→l.getD n 0=g n
theorem DoneS.step {N:Nat} {g:Nat→Int} {l:List Int} {m:Int} (d:DoneS N g l m) (hm:0≤m∧m<N) {x:Int} (hx:x=g m.toNat):DoneS N g (l.set m.toNat x) (m+1):=by
 refine⟨by rw[List.length_set];exact d.1,fun n hn=>?_⟩
 rw[set_getD (by rw[d.1];omega)]
 split
 ·rename_i e
  rw[e,hx]
 ·exact d.2 n (by omega)
theorem DoneS.all {N:Nat} {g:Nat→Int} {l:List Int} {m:Int} (d:DoneS N g l m) (hm:m=N):l=gen N g:=gen_ext d.1 fun n hn=>d.2 n (by omega)
structure KrS (t u s:Ten) (v w:Value) (h0 h:AH) (b5 nb:Nat) (l:List Int):Prop where
 hp:h0<+:h
 lo:h0.length+3≤nb∧nb<b5
 g1:OwnB h h0.length [I64 t.p,I64 t.i,I64 t.j,I64 t.k,v] true
 g2:OwnB h (h0.length+1) [I64 u.p,I64 u.i,I64 u.j,I64 u.k,w] true
 g3:∃ c,c.length=5∧OwnB h (h0.length+2) c true
 g5:OwnB h b5 [I64 s.p,I64 s.i,I64 s.j,I64 s.k,.slice (some ⟨nb,0,none⟩) (s.i*s.j*s.k).toNat 1] true
 gn:OwnB h nb (l.map (Value.int .i64)) true
theorem KrS.pre {t u s:Ten} {v w:Value} {h0 h h':AH} {b5 nb:Nat} {l:List Int} (a:KrS t u s v w h0 h b5 nb l) (p:h<+:h'):KrS t u s v w h0 h' b5 nb l:=by
 obtain⟨c,c1,c2⟩:=a.g3
 exact⟨a.hp.trans p,a.lo,a.g1.pre p,a.g2.pre p,⟨c,c1,c2.pre p⟩,a.g5.pre p,a.gn.pre p⟩
def DoneZ (N:Nat) (g:Nat→Int) (l:List Int) (m:Int):Prop:=DoneS N g l m∧∀ n:Nat,m≤(n:Int)→l.getD n 0=0
theorem DoneZ.step {N:Nat} {g:Nat→Int} {l:List Int} {m:Int} (d:DoneZ N g l m) (hm:0≤m∧m<N) {x:Int} (hx:x=g m.toNat):DoneZ N g (l.set m.toNat x) (m+1):=by
 refine⟨d.1.step hm hx,fun n hn=>?_⟩
 rw[set_getD (by rw[d.1.1];omega),if_neg (by omega)]
 exact d.2 n (by omega)
theorem DoneZ.skip {N:Nat} {g:Nat→Int} {l:List Int} {m:Int} (d:DoneZ N g l m) (hm:0≤m∧m<N) (hx:g m.toNat=0):DoneZ N g l (m+1):=by
 refine⟨⟨d.1.1,fun n hn=>?_⟩,fun n hn=>d.2 n (by omega)⟩
 by_cases h:(n:Int)<m
 ·exact d.1.2 n h
 ·have:n=m.toNat:=by omega
  rw[d.2 n (by omega),this,hx]
section
variable {t u:Ten}
end
theorem lst_app {n:Nat} {l:List Int} {full:Bool} {H:AH} {x:Int} {e':TypeId} {ro fu:Bool} (o:Lst H n l full) (hl:(l.length:Int)≤1048576) {Q:Value→AH→Prop}
  (hQ:∀ H':AH,H'.length=H.length+2→Kp n H H'→Lst H' (H.length+1) (l++[x]) false→Q (sl (H.length+1) (l++[x]).length) H') :
  OQ (appV 2 1 8 (sl n l.length) (.slice (some ⟨H.length,0,none⟩) 1 1) (H.new ⟨[I64 x],e',ro,fu⟩)) Q:=by
 have hn:(H.new ⟨[I64 x],e',ro,fu⟩).rdn H.length 0 1=some [I64 x]:=by rw[rdn_new_same];rfl
 have hk:(H.new ⟨[I64 x],e',ro,fu⟩).get n=some ⟨l.map (Value.int .i64),2,false,full⟩:=get_new_any o
 have hkb:=o.lt
 unfold sl
 rw[app_own hk (by simp) hn (by omega),OQ_some,len_new]
 have:=hQ (((H.new ⟨[I64 x],e',ro,fu⟩).kill n).new ⟨l.map (Value.int .i64)++[I64 x],2,false,false⟩) (by rw[len_new,len_kill,len_new]) ⟨by rw[len_new,len_kill,len_new];omega,fun j hj hne=>by
   rw[show (((H.new ⟨[I64 x],e',ro,fu⟩).kill n).new ⟨l.map (Value.int .i64)++[I64 x],2,false,false⟩).get j=((H.new ⟨[I64 x],e',ro,fu⟩).kill n).get j from prefix_get (pre_new (List.prefix_refl _)) (by rw[len_kill,len_new];omega),get_kill_ne (Ne.symm hne)]
   exact prefix_get (pre_new (List.prefix_refl _)) hj⟩ (by unfold Lst;rw[get_new_eq (by rw[len_kill,len_new])];simp)
 unfold sl at this
 rw[List.length_append,List.length_singleton] at this
 exact this
structure TenB (t:Ten):Prop where
 p:-1000≤t.p∧t.p≤1000
 i:-1000≤t.i∧t.i≤1000
 j:-1000≤t.j∧t.j≤1000
 k:-1000≤t.k∧t.k≤1000
 ns:t.ns.length≤1000
theorem OwnI.blk {h h':AH} {v:Value} {ns:List Int} (o:OwnI h h' v ns):∃ m e,h.length≤m∧v=sl m ns.length∧h'.get m=some ⟨ns.map (Value.int .i64),e,false,true⟩:=by
 obtain⟨m,e,h1,rfl,h3⟩:=o
 exact⟨m,e,h1,rfl,h3⟩
theorem pick_in {l:List Int} {a b:Int} (hl:∀ x∈l,a≤x∧x≤b) {j:Nat} (hj:j<l.length):a≤l.getD j 0∧l.getD j 0≤b:=by
 rw[List.getD_eq_getElem?_getD,List.getElem?_eq_getElem hj]
 exact hl _ (List.getElem_mem _)
structure Cod (h:AH) (cv:Value) (code:List (List Int)):Prop where
 els:Els .u8 1 h cv code
 byt:Byt 1 code
 len:code.length≤1000000
theorem Cod.pre {h h':AH} {cv:Value} {code:List (List Int)} (c:Cod h cv code) (p:h<+:h'):Cod h' cv code:=⟨c.els.pre p,c.byt,c.len⟩
theorem xresn {f:Fr} {h:AH} {t n m e:Nat} {c:List Value} {ro fl:Bool} (hf:f t=.pointer (some ⟨n,0,none⟩)) (hb:h.get n=some ⟨c,e,ro,fl⟩) (hc:c.length=m):xres1 f h (.celln t m)=some (.agg c.toArray):=by
 rw[xres1_cells,hf,rdnV_ptr]
 simp only[rdn_of hb]
 subst hc
 simp
theorem mmT {a b:Int}:mmV true (.int .i64 a) [.int .i64 b]=some (I64 (max a b)):=by
 simp only[mmV,xmm]
 by_cases h:a≤b
 ·simp[h,Int.max_def]
  try omega
 ·simp[h,Int.max_def]
  try omega
theorem getq {l:List Value} {i:Nat} (hi:i<l.length):l[i]?=some (l.getD i undef):=by
 rw[List.getD_eq_getElem?_getD,List.getElem?_eq_getElem hi]
 rfl
structure RowD (lo:Nat) (H:AH) (kb:Nat) (fu:Bool) (rows:List (List Int)) (B:Nat→Nat) (cs:List Value):Prop where
 get:H.get kb=some ⟨cs,27,false,fu⟩
 len:cs.length=rows.length
 low:lo≤kb
 row:∀ i,i<rows.length→lo≤B i∧cs.getD i undef=sl (B i) (rows.getD i []).length∧(∃ f,Lst H (B i) (rows.getD i []) f)∧B i≠kb
 inc:∀ i j,i<j→j<rows.length→B i<B j
theorem RowD.kp {lo kb n:Nat} {H H':AH} {fu:Bool} {rows:List (List Int)} {B:Nat→Nat} {cs:List Value} (r:RowD lo H kb fu rows B cs) (k:Kp n H H') (hn:n<lo):RowD lo H' kb fu rows B cs:=
 ⟨k.get (by have:=r.low;omega) r.get,r.len,r.low,fun i hi=>by
  obtain⟨h1,h2,⟨f,h3⟩,h4⟩:=r.row i hi
  exact⟨h1,h2,⟨f,k.get (by omega) h3⟩,h4⟩,r.inc⟩
theorem RowD.rows {lo kb:Nat} {H:AH} {fu:Bool} {rows:List (List Int)} {B:Nat→Nat} {cs:List Value} (r:RowD lo H kb fu rows B cs):Rows H (sl kb rows.length) rows:=by
 refine⟨cs,.inr ⟨kb,0,_,by rw[r.len];rfl,r.get,by simp,fun i hi=>?_⟩,r.len,fun i hi=>?_⟩
 ·show cs[0+i]?=_
  rw[Nat.zero_add]
  exact getq hi
 ·obtain⟨h1,h2,⟨f,h3⟩,h4⟩:=r.row i hi
  rw[h2]
  exact h3.ints
theorem getD_snocD {α:Type} {l:List α} {x d:α} {j:Nat}:(l++[x]).getD j d=if j<l.length then l.getD j d else if j=l.length then x else d:=by
 rw[List.getD_eq_getElem?_getD,List.getD_eq_getElem?_getD]
 by_cases h:j<l.length
 ·rw[List.getElem?_append_left h,if_pos h]
 ·rw[List.getElem?_append_right (by omega),if_neg h]
  split
  ·rename_i e
   simp[e]
  ·rw[List.getElem?_eq_none (by simp;omega)]
   rfl
end Go.Proofs.Ytapafdpnmakekaa.X

set_option linter.unusedVariables false
set_option linter.unusedSimpArgs false
set_option maxRecDepth 20000
set_option maxHeartbeats 4000000
namespace Go.Proofs.Ytapafdpnmakekaa.X
open Go Go.RowKit
open Nat (reduceEqDiff reduceAdd reduceSub reduceLeDiff)
theorem takeD {L:List (List Int)} {m:Nat} (h:m<L.length):L.take (m+1)=L.take m++[L.getD m []]:=by
 rw[List.take_add_one,List.getElem?_eq_getElem h,List.getD_eq_getElem?_getD,List.getElem?_eq_getElem h]
 rfl
theorem Els.rdAll {k:IntKind} {w:Nat} {h:AH} {v:Value} {L:List (List Int)} (e:Els k w h v L) (hl:0<L.length) :
  ∃ b off,v=.slice (some ⟨b,off,none⟩) L.length w∧h.rdn b off (L.length*w)=some (cel k L.flatten):=by
 rcases e with⟨rfl,-⟩|⟨b,off,blk,h1,h2,h3⟩
 ·simp at hl
 refine⟨b,off,h1,?_⟩
 have key:∀ m,m≤L.length→off+m*w≤blk.c.length∨m=0∧True→(blk.c.drop off).take (m*w)=cel k (L.take m).flatten:=by
  intro m hm _
  induction m with
  | zero=>simp[cel]
  | succ m ih=>
   obtain⟨g1,g2⟩:=h3 m (by omega)
   rw[Nat.succ_mul,List.take_add,ih (by omega) (by left;omega),takeD (by omega),List.flatten_append,List.drop_drop,g2]
   simp[cel]
 have hb:=(h3 (L.length-1) (by omega)).1
 have hb':off+L.length*w≤blk.c.length:=by
  have:L.length*w=(L.length-1)*w+w:=by
   rw[←Nat.succ_mul]
   congr 1
   omega
  omega
 rw[rdn_of h2,if_pos hb',key _ (Nat.le_refl _) (Or.inl hb'),List.take_length]
theorem set_flat {w:Nat} {q:List Int} (hq:q.length=w):∀ {L:List (List Int)} {j:Nat},Wid w L→j<L.length→L.flatten.take (j*w)++q++L.flatten.drop (j*w+w)=(L.set j q).flatten
 | [],j,_,h=>by simp at h
 | r::L,0,hw,_=>by
  have:=hw r (by simp)
  simp[←this]
 | r::L,j+1,hw,h=>by
  have hr:=hw r (by simp)
  have ih:=set_flat hq (L:=L) (j:=j) (fun x hx=>hw x (by simp[hx])) (by simpa using h)
  rw[List.set_cons_succ,List.flatten_cons,List.flatten_cons,←ih,Nat.succ_mul]
  rw[List.take_append,List.drop_append,List.take_of_length_le (by omega),List.drop_eq_nil_of_le (by omega),List.nil_append,
   show j*w+w-r.length=j*w by omega,show j*w+w+w-r.length=j*w+w by omega]
  simp only[List.append_assoc]
theorem splice_flat {k:IntKind} {w:Nat} {q:List Int} {L:List (List Int)} {j:Nat} (hq:q.length=w) (hw:Wid w L) (hj:j<L.length):splice (cel k L.flatten) (j*w) (cel k q)=cel k (L.set j q).flatten:=by
 rw[splice_eq,←set_flat hq hw hj]
 simp only[cel,List.map_append,List.map_take,List.map_drop,List.length_map,hq]
structure SchB (x:Sch):Prop where
 p:-1000≤x.p∧x.p≤1000
 n:-1000≤x.n∧x.n≤1000
 m:-1000≤x.m∧x.m≤1000
 k:-1000≤x.k∧x.k≤1000
 l:SmallX x.ps
theorem copy_zero {k:IntKind} {w bytes:Nat} {e:TypeId} {H:AH} {v:Value} {L:List (List Int)} (he:Els k w H v L) (hl:0<L.length) (hs:(L.length:Int)*bytes≤140737488355328∧(L.length:Int)≤9223372036854775807) {Q:Value→AH→Prop}
  (hQ:∀ H':AH,H'.length=H.length+2→H<+:H'→H'.get (H.length+1)=some ⟨cel k L.flatten,e,false,false⟩→Q (.slice (some ⟨H.length+1,0,none⟩) L.length w) H') :
  OQ (appV e w bytes (.slice (some ⟨H.length,0,none⟩) 0 w) v (H.new ⟨[],e,false,true⟩)) Q:=by
 obtain⟨b,off,rfl,hrd⟩:=(he.pre (pre_new (List.prefix_refl _):H<+:H.new ⟨[],e,false,true⟩)).rdAll hl
 rw[app_zeroW (k:=H.length) get_new_same hrd hl hs,OQ_some,len_new]
 have p:H<+:((H.new ⟨[],e,false,true⟩).kill H.length).new ⟨cel k L.flatten,e,false,false⟩:=pre_new (pre_kill (pre_new (List.prefix_refl _)) (Nat.le_refl _))
 exact hQ _ (by rw[len_new,len_kill,len_new]) p (get_new_eq (by rw[len_kill,len_new]))
theorem byt_set {L:List (List Int)} {a e j0:Nat} {d:Int} (b:Byt 27 L) (ha:a<L.length) (he:e<L.length) (hd:0≤d∧d≤255):Byt 27 (L.set e ((L.getD a []).set j0 d)):=by
 intro i hi j hj
 rw[List.length_set] at hi
 by_cases hie:i=e
 ·subst hie
  rw[List.getD_eq_getElem?_getD (l:=L.set i _),List.getElem?_set_self hi,Option.getD_some]
  by_cases hjj:j0=j
  ·subst hjj
   by_cases hl:j0<(L.getD a []).length
   ·rw[List.getD_eq_getElem?_getD,List.getElem?_set_self hl,Option.getD_some]
    exact hd
   ·rw[List.getD_eq_getElem?_getD,List.getElem?_eq_none (by rw[List.length_set];omega),Option.getD_none]
    omega
  ·rw[List.getD_eq_getElem?_getD,List.getElem?_set_ne hjj,←List.getD_eq_getElem?_getD]
   exact b a ha j hj
 ·rw[List.getD_eq_getElem?_getD (l:=L.set e _),List.getElem?_set_ne (Ne.symm hie),←List.getD_eq_getElem?_getD]
  exact b i hi j hj
theorem wid_set {w e:Nat} {L:List (List Int)} {q:List Int} (hw:Wid w L) (hq:q.length=w):Wid w (L.set e q):=by
 intro r hr
 rcases List.mem_or_eq_of_mem_set hr with h|h
 ·exact hw r h
 ·rw[h];exact hq
theorem s_l01Bad {h0 h:AH} {n lo:Nat} {v:Value} {x:Sch} {Q:Value→AH→Prop} (s:Src h0 h n) (xb:SchB x) (hlo:n<lo∧lo≤h.length) (hv:SchD lo h v x) (h9:-100≤x.k∧x.k≤100) (nk:NK v)
  (hQ:∀ (x':Sch) (v':Value) (h':AH),Kp n h h'→Src h0 h' n→SchD lo h' v' x'→SchB x'→NK v'→Q (schV x' v') h'):WF S 269 [srcP n,schV x v] h Q:=by
 refine WF_fn (fn:=c269) rfl rfl ?_
 dsimp only[c269,oO,oM,oS,oG,oK,oE,oL,oF,oX,oN]
 have lt:=s.lt
 have l0:=pre_len s.p
 have v1:isOne v=true:=hv.now.one
 obtain⟨b1,b2,b3,b4,b5⟩:=xb
 ((try simp (maxSteps:=3000000) (dsimp:=false) (disch:=first|omega|simp only[lnx];omega) only[↓ypre,ypost,↓reduceIte,reduceEqDiff,reduceAdd,reduceSub,reduceLeDiff,zz0,ynew,schV,v1]);try simp only[yback])
 generalize hH1:AH.new h _=H1
 obtain⟨hb1,p1,n1⟩:=new_facts hH1
 generalize hH2:AH.new H1 _=H2
 obtain⟨hb2,p2,n2⟩:=new_facts hH2
 have old:∀ (x':Sch) (h':AH) (B B':Blk),x'.ps=x.ps→Kp n h h'→Src h0 h' n→SchB x'→Q (schV x' v) ((h'.put H1.length B).put h.length B'):=fun x' h' B B' e kk ss tb=>by
  have kf:Kp n h ((h'.put H1.length B).put h.length B'):=(kk.putb (m:=H1.length) (by omega)).putb (m:=h.length) (by omega)
  exact hQ x' v _ kf ((ss.putb (by omega) (by omega)).putb (by omega) (by omega)) (fun h2 k2 k3=>by rw[e];exact hv.kp kf hlo.1 h2 k2 k3) tb nk
 refine s_l01Next (s.kp (p1.trans p2)) fun r H3 k3 l3 s3 hr _=>?_
 have g1:=k3.get (by omega) (pre_get p2 hb1)
 have g2:=k3.get (by omega) hb2
 have kk3:Kp n h H3:=(Kp.of (p1.trans p2)).trans k3
 by_cases r0:r=0
 ·((try simp (maxSteps:=3000000) (dsimp:=false) (disch:=first|omega|simp only[lnx];omega) only[↓ypre,ypost,↓reduceIte,reduceEqDiff,reduceAdd,reduceSub,reduceLeDiff,zz0,ynew,decide_eq_true r0,fillL,zrep]);try simp only[yback])
  generalize hH4:AH.new H3 _=H4
  obtain⟨hb4,p4,n4⟩:=new_facts hH4
  have kv:=kp_new (n:=n) (ns:=[0,4,7,3]) hH4 (by omega)
  refine s_l01Pick (s3.kp p4) kv (by simp) (by simp) fun j H5 k5 l5 s5 hj=>?_
  have bp:=pick_in (l:=[0,4,7,3]) (a:=0) (b:=7) (by simp) hj
  generalize ([0,4,7,3]:List Int).getD j 0=p at bp
  have g1:=k5.get (by omega) (pre_get p4 g1)
  have g2:=k5.get (by omega) (pre_get p4 g2)
  have lg1:=get_lt g1
  have lg2:=get_lt g2
  ((try simp (maxSteps:=3000000) (dsimp:=false) (disch:=first|omega|simp only[lnx];omega) only[↓ypre,ypost,↓reduceIte,reduceEqDiff,reduceAdd,reduceSub,reduceLeDiff,zz0,ynew,wr_of g1,v1,wr_of g2,splice_eq,rdn_put_same]);try simp only[yback])
  exact old ⟨p,x.n,x.m,x.k,x.ps⟩ H5 _ _ rfl (kk3.trans ((Kp.of p4).trans k5)) s5 ⟨by show -1000≤p∧p≤1000;omega,b2,b3,b4,b5⟩
 by_cases r1:r=1
 ·((try simp (maxSteps:=3000000) (dsimp:=false) (disch:=first|omega|simp only[lnx];omega) only[↓ypre,ypost,↓reduceIte,reduceEqDiff,reduceAdd,reduceSub,reduceLeDiff,zz0,ynew,decide_eq_false r0,decide_eq_true r1,fillL,zrep]);try simp only[yback])
  generalize hH4:AH.new H3 _=H4
  obtain⟨hb4,p4,n4⟩:=new_facts hH4
  have kv:=kp_new (n:=n) (ns:=[0,4,-1]) hH4 (by omega)
  refine s_l01Pick (s3.kp p4) kv (by simp) (by simp) fun j H5 k5 l5 s5 hj=>?_
  have bp:=pick_in (l:=[0,4,-1]) (a:=-1) (b:=4) (by simp) hj
  generalize ([0,4,-1]:List Int).getD j 0=p at bp
  have g1:=k5.get (by omega) (pre_get p4 g1)
  have g2:=k5.get (by omega) (pre_get p4 g2)
  have lg1:=get_lt g1
  have lg2:=get_lt g2
  ((try simp (maxSteps:=3000000) (dsimp:=false) (disch:=first|omega|simp only[lnx];omega) only[↓ypre,ypost,↓reduceIte,reduceEqDiff,reduceAdd,reduceSub,reduceLeDiff,zz0,ynew,wr_of g1,v1,wr_of g2,splice_eq,rdn_put_same]);try simp only[yback])
  exact old ⟨x.p,p,x.m,x.k,x.ps⟩ H5 _ _ rfl (kk3.trans ((Kp.of p4).trans k5)) s5 ⟨b1,by show -1000≤p∧p≤1000;omega,b3,b4,b5⟩
 by_cases r2:r=2
 ·((try simp (maxSteps:=3000000) (dsimp:=false) (disch:=first|omega|simp only[lnx];omega) only[↓ypre,ypost,↓reduceIte,reduceEqDiff,reduceAdd,reduceSub,reduceLeDiff,zz0,ynew,decide_eq_false r0,decide_eq_false r1,decide_eq_true r2,rd1_of g1,wrap64_in,fillL,zrep]);try simp only[yback])
  generalize hH4:AH.new H3 _=H4
  obtain⟨hb4,p4,n4⟩:=new_facts hH4
  have kv:=kp_new (n:=n) (ns:=[0,4,x.k-1]) hH4 (by omega)
  refine s_l01Pick (s3.kp p4) kv (by simp) (by simp) fun j H5 k5 l5 s5 hj=>?_
  have bp:=pick_in (l:=[0,4,x.k-1]) (a:=-1000) (b:=1000) (by simp;omega) hj
  generalize ([0,4,x.k-1]:List Int).getD j 0=p at bp
  have g1:=k5.get (by omega) (pre_get p4 g1)
  have g2:=k5.get (by omega) (pre_get p4 g2)
  have lg1:=get_lt g1
  have lg2:=get_lt g2
  ((try simp (maxSteps:=3000000) (dsimp:=false) (disch:=first|omega|simp only[lnx];omega) only[↓ypre,ypost,↓reduceIte,reduceEqDiff,reduceAdd,reduceSub,reduceLeDiff,zz0,ynew,wr_of g1,v1,wr_of g2,splice_eq,rdn_put_same]);try simp only[yback])
  exact old ⟨x.p,x.n,x.m,p,x.ps⟩ H5 _ _ rfl (kk3.trans ((Kp.of p4).trans k5)) s5 ⟨b1,b2,b3,bp,b5⟩
 have lg1:=get_lt g1
 have lg2:=get_lt g2
 have e3:=(hv.kp kk3 hlo.1).now
 have hl:=e3.1.len
 have kf:Kp n h (H3.put H1.length ⟨[I64 x.p,I64 x.n,I64 x.m,I64 x.k,v],26,false,true⟩):=kk3.putb (m:=H1.length) (by omega)
 have done:Q (schV x v) (H3.put H1.length ⟨[I64 x.p,I64 x.n,I64 x.m,I64 x.k,v],26,false,true⟩):=hQ x v _ kf (s3.putb (by omega) (by omega)) (hv.kp kf hlo.1) ⟨b1,b2,b3,b4,b5⟩ nk
 by_cases r3:r=3∨r=4∨r=5
 case neg=>
  ((try simp (maxSteps:=3000000) (dsimp:=false) (disch:=first|omega|simp only[lnx];omega) only[↓ypre,ypost,↓reduceIte,reduceEqDiff,reduceAdd,reduceSub,reduceLeDiff,zz0,ynew,decide_eq_false r0,decide_eq_false r1,decide_eq_false r2,decide_eq_false (show ¬ r=3 by omega),decide_eq_false (show ¬ r=4 by omega),decide_eq_false (show ¬ r=5 by omega),v1,rdn_of g1,wr_of g2,splice_eq,rdn_put_same]);try simp only[yback])
  exact done
 by_cases hk:(x.ps.length:Int)>0
 case neg=>
  rcases r3 with rfl|rfl|rfl
  ·((try simp (maxSteps:=3000000) (dsimp:=false) (disch:=first|omega|simp only[lnx];omega) only[↓ypre,ypost,↓reduceIte,reduceEqDiff,reduceAdd,reduceSub,reduceLeDiff,zz0,ynew,decide_eq_false r0,decide_eq_false r1,decide_eq_false r2,decide_eq_true (show (3:Int)=3 from rfl),rd1_of g1,hl,decide_eq_false hk,v1,rdn_of g1,wr_of g2,splice_eq,rdn_put_same]);try simp only[yback])
   exact done
  ·((try simp (maxSteps:=3000000) (dsimp:=false) (disch:=first|omega|simp only[lnx];omega) only[↓ypre,ypost,↓reduceIte,reduceEqDiff,reduceAdd,reduceSub,reduceLeDiff,zz0,ynew,decide_eq_false r0,decide_eq_false r1,decide_eq_false r2,decide_eq_false (show ¬ (4:Int)=3 by omega),decide_eq_true (show (4:Int)=4 from rfl),rd1_of g1,hl,decide_eq_false hk,v1,rdn_of g1,wr_of g2,splice_eq,rdn_put_same]);try simp only[yback])
   exact done
  ·((try simp (maxSteps:=3000000) (dsimp:=false) (disch:=first|omega|simp only[lnx];omega) only[↓ypre,ypost,↓reduceIte,reduceEqDiff,reduceAdd,reduceSub,reduceLeDiff,zz0,ynew,decide_eq_false r0,decide_eq_false r1,decide_eq_false r2,decide_eq_false (show ¬ (5:Int)=3 by omega),decide_eq_false (show ¬ (5:Int)=4 by omega),decide_eq_true (show (5:Int)=5 from rfl),rd1_of g1,hl,decide_eq_false hk,v1,rdn_of g1,wr_of g2,splice_eq,rdn_put_same]);try simp only[yback])
   exact done
 obtain⟨vb,vo,hve,hrd⟩:=e3.1.rdAll (by omega)
 rcases r3 with rfl|rfl|rfl
 ·((try simp (maxSteps:=3000000) (dsimp:=false) (disch:=first|omega|simp only[lnx];omega) only[↓ypre,ypost,↓reduceIte,reduceEqDiff,reduceAdd,reduceSub,reduceLeDiff,zz0,ynew,decide_eq_false r0,decide_eq_false r1,decide_eq_false r2,decide_eq_true (show (3:Int)=3 from rfl),rd1_of g1,hl,decide_eq_true hk,fillL,zrep]);try simp only[yback])
  refine copy_zero e3.1 (by omega) (by unfold SmallX at b5;omega) fun H4 l4 p4 g4=>?_
  have n3:=s3.lt
  have s4:=s3.kp p4
  obtain⟨L,hL⟩:∃ L:Nat,L=x.ps.length:=⟨_,rfl⟩
  refine WO_cut (fun f:Fr=>f 0=srcP n∧f 3=.pointer (some ⟨h.length,0,none⟩)∧f 4=.pointer (some ⟨H1.length,0,none⟩)∧f 5=I64 x.ps.length∧f 43=.slice (some ⟨H3.length+1,0,none⟩) x.ps.length 27∧True) ⟨(by first|rfl|simp[upd_apply]),(by first|rfl|simp[upd_apply]),(by first|rfl|simp[upd_apply]),(by first|rfl|simp[upd_apply]),(by first|rfl|simp[upd_apply]),trivial⟩ ?_
  rintro f ⟨f0,f3,f4,f5,f43,-⟩
  ((try simp (maxSteps:=3000000) (dsimp:=false) (disch:=first|omega|simp only[lnx];omega) only[↓ypre,ypost,↓reduceIte,reduceEqDiff,reduceAdd,reduceSub,reduceLeDiff,zz0,ynew,f0,f3,f4,f5,f43]);try simp only[yback])
  refine s_l01Next s4 fun a H5 k5 l5 s5 ha _=>?_
  have ha:=ha (by omega)
  obtain⟨a,rfl⟩:∃ a':Nat,a=a':=⟨a.toNat,by omega⟩
  have g5:=k5.get (by omega) g4
  have w27:Wid 27 x.ps:=e3.1.widL
  have e5:Els .u8 27 H5 (.slice (some ⟨H3.length+1,0,none⟩) x.ps.length 27) x.ps:=(blk_kN (lo:=H3.length+1) g5 w27 (Nat.le_refl _)).now
  obtain⟨na,oa,ixa,rda⟩:=e5.rdw (i:=a) (by omega)
  have hqa:(x.ps.getD a []).length=27:=e5.wid (by omega)
  ((try simp (maxSteps:=3000000) (dsimp:=false) (disch:=first|omega|simp only[lnx];omega) only[↓ypre,ypost,↓reduceIte,reduceEqDiff,reduceAdd,reduceSub,reduceLeDiff,zz0,ynew,f0,f3,f4,f5,f43,ixa,rda,zeros27,cel_len,cel_all,hqa,List.length_replicate,sp27z hqa]);try simp only[yback])
  generalize hH6:AH.new H5 _=H6
  obtain⟨g6,p6,n6⟩:=new_facts hH6
  refine s_l01Next (s5.kp p6) fun c0 H7 k7 l7 s7 hc _=>?_
  have hc:=hc (by omega)
  obtain⟨c0,rfl⟩:∃ c':Nat,c0=c':=⟨c0.toNat,by omega⟩
  have n5:=s5.lt
  have g6:=k7.get (by omega) g6
  refine WO_cut (fun f:Fr=>f 0=srcP n∧f 3=.pointer (some ⟨h.length,0,none⟩)∧f 4=.pointer (some ⟨H1.length,0,none⟩)∧f 5=I64 x.ps.length∧f 6=.slice (some ⟨H3.length+1,0,none⟩) x.ps.length 27∧f 7=.pointer (some ⟨H5.length,0,none⟩)∧f 51=I64 c0∧True) ⟨(by first|rfl|exact f0|simp[upd_apply,f0]),(by first|rfl|exact f3|simp[upd_apply,f3]),(by first|rfl|exact f4|simp[upd_apply,f4]),(by first|rfl|exact f5|simp[upd_apply,f5]),(by first|rfl|simp[upd_apply]),(by first|rfl|simp[upd_apply]),(by first|rfl|simp[upd_apply]),trivial⟩ ?_
  rintro f ⟨f0,f3,f4,f5,f6,f7,f51,-⟩
  ((try simp (maxSteps:=3000000) (dsimp:=false) (disch:=first|omega|simp only[lnx];omega) only[↓ypre,ypost,↓reduceIte,reduceEqDiff,reduceAdd,reduceSub,reduceLeDiff,zz0,ynew,f0,f3,f4,f5,f6,f7,f51]);try simp only[yback])
  refine s_l01Next s7 fun d H8 k8 l8 s8 hd _=>?_
  have hd:=hd (by omega)
  have g6:=k8.get (by omega) g6
  have ic:=ixa_u (n:=H5.length) (off:=9) (len:=9) (kk:=.i64) (j:=c0) (by omega)
  refine WO_cut (fun f:Fr=>f 0=srcP n∧f 3=.pointer (some ⟨h.length,0,none⟩)∧f 4=.pointer (some ⟨H1.length,0,none⟩)∧f 5=I64 x.ps.length∧f 6=.slice (some ⟨H3.length+1,0,none⟩) x.ps.length 27∧f 7=.pointer (some ⟨H5.length,0,none⟩)∧f 51=I64 c0∧f 53=I64 d∧True) ⟨(by first|rfl|exact f0|simp[upd_apply,f0]),(by first|rfl|exact f3|simp[upd_apply,f3]),(by first|rfl|exact f4|simp[upd_apply,f4]),(by first|rfl|exact f5|simp[upd_apply,f5]),(by first|rfl|exact f6|simp[upd_apply,f6]),(by first|rfl|exact f7|simp[upd_apply,f7]),(by first|rfl|exact f51|simp[upd_apply,f51]),(by first|rfl|simp[upd_apply]),trivial⟩ ?_
  rintro f ⟨f0,f3,f4,f5,f6,f7,f51,f53,-⟩
  have st:=cel_set (k:=.u8) (q:=x.ps.getD a []) (j:=9+c0) (x:=d) (by omega)
  ((try simp (maxSteps:=3000000) (dsimp:=false) (disch:=first|omega|simp only[lnx];omega) only[↓ypre,ypost,↓reduceIte,reduceEqDiff,reduceAdd,reduceSub,reduceLeDiff,zz0,ynew,f0,f3,f4,f5,f6,f7,f51,f53,wrap8_in,ic,wr_of g6,st,cel_len,hqa]);try simp only[yback])
  refine⟨by omega,?_⟩
  generalize hq':(x.ps.getD a []).set (9+c0) d=q'
  have lq':q'.length=27:=by rw[←hq',List.length_set];exact hqa
  generalize hH9:AH.put H8 _ _=H9
  have n7:=s7.lt
  have n8:=s8.lt
  have lg6:=get_lt g6
  have l9:H9.length=H8.length:=by rw[←hH9,len_put]
  have g9:H9.get H5.length=some ⟨cel .u8 q',138,false,true⟩:=hH9▸get_put_same lg6
  have s9:Src h0 H9 n:=hH9▸s8.putb (by omega) (by omega)
  have k59:Kp n H5 H9:=hH9▸(((Kp.of p6).trans k7).trans k8).putb (by omega)
  refine s_l01Next s9 fun e H10 k10 l10 s10 he _=>?_
  have he:=he (by omega)
  obtain⟨e,rfl⟩:∃ e':Nat,e=e':=⟨e.toNat,by omega⟩
  refine⟨⟨_,rfl,k10⟩,?_⟩
  have g10:=k10.get (by omega) g9
  have kA:=k59.trans k10
  have g510:=kA.get (by omega) g5
  have ie:ixsV 27 (.slice (some ⟨H3.length+1,0,none⟩) x.ps.length 27) (I64 e)=some (.pointer (some ⟨H3.length+1,e*27,none⟩)):=by
   rw[ixsV_some,if_pos (by omega),Int.toNat_natCast,Nat.zero_add]
  refine WO_cut (fun f:Fr=>f 0=srcP n∧f 3=.pointer (some ⟨h.length,0,none⟩)∧f 4=.pointer (some ⟨H1.length,0,none⟩)∧f 6=.slice (some ⟨H3.length+1,0,none⟩) x.ps.length 27∧f 7=.pointer (some ⟨H5.length,0,none⟩)∧f 57=.slice (some ⟨H3.length+1,0,none⟩) x.ps.length 27∧f 58=srcP n∧f 60=I64 e∧True) ⟨(by first|rfl|exact f0|simp[upd_apply,f0]),(by first|rfl|exact f3|simp[upd_apply,f3]),(by first|rfl|exact f4|simp[upd_apply,f4]),(by first|rfl|exact f6|simp[upd_apply,f6]),(by first|rfl|exact f7|simp[upd_apply,f7]),(by first|rfl|simp[upd_apply]),(by first|rfl|simp[upd_apply]),(by first|rfl|simp[upd_apply]),trivial⟩ ?_
  rintro f ⟨f0,f3,f4,f6,f7,f57,f58,f60,-⟩
  have rd27:H10.rdn H5.length 0 27=some (cel .u8 q'):=by
   rw[rdn_of g10,if_pos (by rw[cel_len,lq'];omega),List.drop_zero,List.take_of_length_le (by rw[cel_len,lq'];exact Nat.le_refl _)]
  have fl:=flat_len w27
  have sf:=splice_flat (k:=.u8) lq' w27 (j:=e) (by omega)
  have g1:=kA.get (by omega) (k5.get (by omega) (pre_get p4 g1))
  have g2:=kA.get (by omega) (k5.get (by omega) (pre_get p4 g2))
  have lg1:=get_lt g1
  have lg2:=get_lt g2
  have o1:isOne (.slice (some ⟨H3.length+1,0,none⟩) x.ps.length 27)=true:=rfl
  have oc:cellsL (.slice (some ⟨H3.length+1,0,none⟩) x.ps.length 27)=[.slice (some ⟨H3.length+1,0,none⟩) x.ps.length 27]:=rfl
  ((try simp (maxSteps:=3000000) (dsimp:=false) (disch:=first|omega|simp only[lnx];omega) only[↓ypre,ypost,↓reduceIte,reduceEqDiff,reduceAdd,reduceSub,reduceLeDiff,zz0,ynew,f0,f3,f4,f6,f7,f57,f58,f60,rd27,ie,wr_of g510,cel_len,cel_all,lq',sf,fl,wr_of g1,wr_of g2,splice_eq]);try simp only[yback])
  refine⟨by omega,by omega,?_⟩
  ((try simp (maxSteps:=3000000) (dsimp:=false) (disch:=first|omega|simp only[lnx];omega) only[↓ypre,ypost,↓reduceIte,reduceEqDiff,reduceAdd,reduceSub,reduceLeDiff,zz0,ynew,f0,f3,f4,f6,f7,f57,f58,f60,wr_of g1,wr_of g2,splice_eq,rdn_put_same]);try simp only[yback])
  have kk:=(((kk3.trans (Kp.of p4)).trans k5).trans kA)
  have el:(x.ps.set e q').length=x.ps.length:=List.length_set
  rw[←el]
  refine hQ ⟨x.p,x.n,x.m,x.k,x.ps.set e q'⟩ _ _ (((kk.putb (m:=H1.length) (by omega)).putb (m:=h.length) (by omega)).putb (m:=H3.length+1) (by omega)) (((s10.putb (m:=H1.length) (by omega) (by omega)).putb (m:=h.length) (by omega) (by omega)).putb (m:=H3.length+1) (by omega) (by omega)) ?_ ⟨b1,b2,b3,b4,by unfold SmallX at b5 ⊢;rw[el];exact b5⟩ (.inr ⟨_,_,_,rfl⟩)
  have bt:Byt 27 (x.ps.set e q'):=hq'▸byt_set e3.2 (by omega) (by omega) (by omega)
  have lgk:=get_lt g510
  exact fun h2 k2 k3=>⟨blk_kN (lo:=lo) (m:=H3.length+1) (get_put_same (by rw[len_put,len_put];omega)) (wid_set w27 lq') (by omega) h2 k2 k3,bt⟩
 ·((try simp (maxSteps:=3000000) (dsimp:=false) (disch:=first|omega|simp only[lnx];omega) only[↓ypre,ypost,↓reduceIte,reduceEqDiff,reduceAdd,reduceSub,reduceLeDiff,zz0,ynew,decide_eq_false r0,decide_eq_false r1,decide_eq_false r2,decide_eq_false (show ¬ (4:Int)=3 by omega),decide_eq_true (show (4:Int)=4 from rfl),rd1_of g1,hl,decide_eq_true hk,fillL,zrep]);try simp only[yback])
  refine copy_zero e3.1 (by omega) (by unfold SmallX at b5;omega) fun H4 l4 p4 g4=>?_
  have n3:=s3.lt
  have s4:=s3.kp p4
  obtain⟨L,hL⟩:∃ L:Nat,L=x.ps.length:=⟨_,rfl⟩
  refine WO_cut (fun f:Fr=>f 0=srcP n∧f 3=.pointer (some ⟨h.length,0,none⟩)∧f 4=.pointer (some ⟨H1.length,0,none⟩)∧f 5=I64 x.ps.length∧f 43=.slice (some ⟨H3.length+1,0,none⟩) x.ps.length 27∧True) ⟨(by first|rfl|exact f0|simp[upd_apply,f0]),(by first|rfl|exact f3|simp[upd_apply,f3]),(by first|rfl|exact f4|simp[upd_apply,f4]),(by first|rfl|exact f5|simp[upd_apply,f5]),(by first|rfl|exact f43|simp[upd_apply,f43]),trivial⟩ ?_
  rintro f ⟨f0,f3,f4,f5,f43,-⟩
  ((try simp (maxSteps:=3000000) (dsimp:=false) (disch:=first|omega|simp only[lnx];omega) only[↓ypre,ypost,↓reduceIte,reduceEqDiff,reduceAdd,reduceSub,reduceLeDiff,zz0,ynew,f0,f3,f4,f5,f43]);try simp only[yback])
  refine s_l01Next s4 fun a H5 k5 l5 s5 ha _=>?_
  have ha:=ha (by omega)
  obtain⟨a,rfl⟩:∃ a':Nat,a=a':=⟨a.toNat,by omega⟩
  have g5:=k5.get (by omega) g4
  have w27:Wid 27 x.ps:=e3.1.widL
  have e5:Els .u8 27 H5 (.slice (some ⟨H3.length+1,0,none⟩) x.ps.length 27) x.ps:=(blk_kN (lo:=H3.length+1) g5 w27 (Nat.le_refl _)).now
  obtain⟨na,oa,ixa,rda⟩:=e5.rdw (i:=a) (by omega)
  have hqa:(x.ps.getD a []).length=27:=e5.wid (by omega)
  ((try simp (maxSteps:=3000000) (dsimp:=false) (disch:=first|omega|simp only[lnx];omega) only[↓ypre,ypost,↓reduceIte,reduceEqDiff,reduceAdd,reduceSub,reduceLeDiff,zz0,ynew,f0,f3,f4,f5,f43,ixa,rda,zeros27,cel_len,cel_all,hqa,List.length_replicate,sp27z hqa]);try simp only[yback])
  generalize hH6:AH.new H5 _=H6
  obtain⟨g6,p6,n6⟩:=new_facts hH6
  refine s_l01Next (s5.kp p6) fun c0 H7 k7 l7 s7 hc _=>?_
  have hc:=hc (by omega)
  obtain⟨c0,rfl⟩:∃ c':Nat,c0=c':=⟨c0.toNat,by omega⟩
  have n5:=s5.lt
  have g6:=k7.get (by omega) g6
  refine WO_cut (fun f:Fr=>f 0=srcP n∧f 3=.pointer (some ⟨h.length,0,none⟩)∧f 4=.pointer (some ⟨H1.length,0,none⟩)∧f 5=I64 x.ps.length∧f 6=.slice (some ⟨H3.length+1,0,none⟩) x.ps.length 27∧f 7=.pointer (some ⟨H5.length,0,none⟩)∧f 51=I64 c0∧True) ⟨(by first|rfl|exact f0|simp[upd_apply,f0]),(by first|rfl|exact f3|simp[upd_apply,f3]),(by first|rfl|exact f4|simp[upd_apply,f4]),(by first|rfl|exact f5|simp[upd_apply,f5]),(by first|rfl|exact f6|simp[upd_apply,f6]),(by first|rfl|exact f7|simp[upd_apply,f7]),(by first|rfl|exact f51|simp[upd_apply,f51]),trivial⟩ ?_
  rintro f ⟨f0,f3,f4,f5,f6,f7,f51,-⟩
  ((try simp (maxSteps:=3000000) (dsimp:=false) (disch:=first|omega|simp only[lnx];omega) only[↓ypre,ypost,↓reduceIte,reduceEqDiff,reduceAdd,reduceSub,reduceLeDiff,zz0,ynew,f0,f3,f4,f5,f6,f7,f51]);try simp only[yback])
  refine s_l01Next s7 fun d H8 k8 l8 s8 hd _=>?_
  have hd:=hd (by omega)
  have g6:=k8.get (by omega) g6
  have ic:=ixa_u (n:=H5.length) (off:=9) (len:=9) (kk:=.i64) (j:=c0) (by omega)
  refine WO_cut (fun f:Fr=>f 0=srcP n∧f 3=.pointer (some ⟨h.length,0,none⟩)∧f 4=.pointer (some ⟨H1.length,0,none⟩)∧f 5=I64 x.ps.length∧f 6=.slice (some ⟨H3.length+1,0,none⟩) x.ps.length 27∧f 7=.pointer (some ⟨H5.length,0,none⟩)∧f 51=I64 c0∧f 53=I64 d∧True) ⟨(by first|rfl|exact f0|simp[upd_apply,f0]),(by first|rfl|exact f3|simp[upd_apply,f3]),(by first|rfl|exact f4|simp[upd_apply,f4]),(by first|rfl|exact f5|simp[upd_apply,f5]),(by first|rfl|exact f6|simp[upd_apply,f6]),(by first|rfl|exact f7|simp[upd_apply,f7]),(by first|rfl|exact f51|simp[upd_apply,f51]),(by first|rfl|exact f53|simp[upd_apply,f53]),trivial⟩ ?_
  rintro f ⟨f0,f3,f4,f5,f6,f7,f51,f53,-⟩
  have st:=cel_set (k:=.u8) (q:=x.ps.getD a []) (j:=9+c0) (x:=d) (by omega)
  ((try simp (maxSteps:=3000000) (dsimp:=false) (disch:=first|omega|simp only[lnx];omega) only[↓ypre,ypost,↓reduceIte,reduceEqDiff,reduceAdd,reduceSub,reduceLeDiff,zz0,ynew,f0,f3,f4,f5,f6,f7,f51,f53,wrap8_in,ic,wr_of g6,st,cel_len,hqa]);try simp only[yback])
  refine⟨by omega,?_⟩
  generalize hq':(x.ps.getD a []).set (9+c0) d=q'
  have lq':q'.length=27:=by rw[←hq',List.length_set];exact hqa
  generalize hH9:AH.put H8 _ _=H9
  have n7:=s7.lt
  have n8:=s8.lt
  have lg6:=get_lt g6
  have l9:H9.length=H8.length:=by rw[←hH9,len_put]
  have g9:H9.get H5.length=some ⟨cel .u8 q',138,false,true⟩:=hH9▸get_put_same lg6
  have s9:Src h0 H9 n:=hH9▸s8.putb (by omega) (by omega)
  have k59:Kp n H5 H9:=hH9▸(((Kp.of p6).trans k7).trans k8).putb (by omega)
  refine s_l01Next s9 fun e H10 k10 l10 s10 he _=>?_
  have he:=he (by omega)
  obtain⟨e,rfl⟩:∃ e':Nat,e=e':=⟨e.toNat,by omega⟩
  refine⟨⟨_,rfl,k10⟩,?_⟩
  have g10:=k10.get (by omega) g9
  have kA:=k59.trans k10
  have g510:=kA.get (by omega) g5
  have ie:ixsV 27 (.slice (some ⟨H3.length+1,0,none⟩) x.ps.length 27) (I64 e)=some (.pointer (some ⟨H3.length+1,e*27,none⟩)):=by
   rw[ixsV_some,if_pos (by omega),Int.toNat_natCast,Nat.zero_add]
  refine WO_cut (fun f:Fr=>f 0=srcP n∧f 3=.pointer (some ⟨h.length,0,none⟩)∧f 4=.pointer (some ⟨H1.length,0,none⟩)∧f 6=.slice (some ⟨H3.length+1,0,none⟩) x.ps.length 27∧f 7=.pointer (some ⟨H5.length,0,none⟩)∧f 57=.slice (some ⟨H3.length+1,0,none⟩) x.ps.length 27∧f 58=srcP n∧f 60=I64 e∧True) ⟨(by first|rfl|exact f0|simp[upd_apply,f0]),(by first|rfl|exact f3|simp[upd_apply,f3]),(by first|rfl|exact f4|simp[upd_apply,f4]),(by first|rfl|exact f6|simp[upd_apply,f6]),(by first|rfl|exact f7|simp[upd_apply,f7]),(by first|rfl|exact f57|simp[upd_apply,f57]),(by first|rfl|exact f58|simp[upd_apply,f58]),(by first|rfl|exact f60|simp[upd_apply,f60]),trivial⟩ ?_
  rintro f ⟨f0,f3,f4,f6,f7,f57,f58,f60,-⟩
  have rd27:H10.rdn H5.length 0 27=some (cel .u8 q'):=by
   rw[rdn_of g10,if_pos (by rw[cel_len,lq'];omega),List.drop_zero,List.take_of_length_le (by rw[cel_len,lq'];exact Nat.le_refl _)]
  have fl:=flat_len w27
  have sf:=splice_flat (k:=.u8) lq' w27 (j:=e) (by omega)
  have g1:=kA.get (by omega) (k5.get (by omega) (pre_get p4 g1))
  have g2:=kA.get (by omega) (k5.get (by omega) (pre_get p4 g2))
  have lg1:=get_lt g1
  have lg2:=get_lt g2
  have o1:isOne (.slice (some ⟨H3.length+1,0,none⟩) x.ps.length 27)=true:=rfl
  have oc:cellsL (.slice (some ⟨H3.length+1,0,none⟩) x.ps.length 27)=[.slice (some ⟨H3.length+1,0,none⟩) x.ps.length 27]:=rfl
  ((try simp (maxSteps:=3000000) (dsimp:=false) (disch:=first|omega|simp only[lnx];omega) only[↓ypre,ypost,↓reduceIte,reduceEqDiff,reduceAdd,reduceSub,reduceLeDiff,zz0,ynew,f0,f3,f4,f6,f7,f57,f58,f60,rd27,ie,wr_of g510,cel_len,cel_all,lq',sf,fl,wr_of g1,wr_of g2,splice_eq]);try simp only[yback])
  refine⟨by omega,by omega,?_⟩
  ((try simp (maxSteps:=3000000) (dsimp:=false) (disch:=first|omega|simp only[lnx];omega) only[↓ypre,ypost,↓reduceIte,reduceEqDiff,reduceAdd,reduceSub,reduceLeDiff,zz0,ynew,f0,f3,f4,f6,f7,f57,f58,f60,wr_of g1,wr_of g2,splice_eq,rdn_put_same]);try simp only[yback])
  have kk:=(((kk3.trans (Kp.of p4)).trans k5).trans kA)
  have el:(x.ps.set e q').length=x.ps.length:=List.length_set
  rw[←el]
  refine hQ ⟨x.p,x.n,x.m,x.k,x.ps.set e q'⟩ _ _ (((kk.putb (m:=H1.length) (by omega)).putb (m:=h.length) (by omega)).putb (m:=H3.length+1) (by omega)) (((s10.putb (m:=H1.length) (by omega) (by omega)).putb (m:=h.length) (by omega) (by omega)).putb (m:=H3.length+1) (by omega) (by omega)) ?_ ⟨b1,b2,b3,b4,by unfold SmallX at b5 ⊢;rw[el];exact b5⟩ (.inr ⟨_,_,_,rfl⟩)
  have bt:Byt 27 (x.ps.set e q'):=hq'▸byt_set e3.2 (by omega) (by omega) (by omega)
  have lgk:=get_lt g510
  exact fun h2 k2 k3=>⟨blk_kN (lo:=lo) (m:=H3.length+1) (get_put_same (by rw[len_put,len_put];omega)) (wid_set w27 lq') (by omega) h2 k2 k3,bt⟩
 ·((try simp (maxSteps:=3000000) (dsimp:=false) (disch:=first|omega|simp only[lnx];omega) only[↓ypre,ypost,↓reduceIte,reduceEqDiff,reduceAdd,reduceSub,reduceLeDiff,zz0,ynew,decide_eq_false r0,decide_eq_false r1,decide_eq_false r2,decide_eq_false (show ¬ (5:Int)=3 by omega),decide_eq_false (show ¬ (5:Int)=4 by omega),decide_eq_true (show (5:Int)=5 from rfl),rd1_of g1,hl,decide_eq_true hk,fillL,zrep]);try simp only[yback])
  refine copy_zero e3.1 (by omega) (by unfold SmallX at b5;omega) fun H4 l4 p4 g4=>?_
  have n3:=s3.lt
  have s4:=s3.kp p4
  obtain⟨L,hL⟩:∃ L:Nat,L=x.ps.length:=⟨_,rfl⟩
  refine WO_cut (fun f:Fr=>f 0=srcP n∧f 3=.pointer (some ⟨h.length,0,none⟩)∧f 4=.pointer (some ⟨H1.length,0,none⟩)∧f 5=I64 x.ps.length∧f 43=.slice (some ⟨H3.length+1,0,none⟩) x.ps.length 27∧True) ⟨(by first|rfl|exact f0|simp[upd_apply,f0]),(by first|rfl|exact f3|simp[upd_apply,f3]),(by first|rfl|exact f4|simp[upd_apply,f4]),(by first|rfl|exact f5|simp[upd_apply,f5]),(by first|rfl|exact f43|simp[upd_apply,f43]),trivial⟩ ?_
  rintro f ⟨f0,f3,f4,f5,f43,-⟩
  ((try simp (maxSteps:=3000000) (dsimp:=false) (disch:=first|omega|simp only[lnx];omega) only[↓ypre,ypost,↓reduceIte,reduceEqDiff,reduceAdd,reduceSub,reduceLeDiff,zz0,ynew,f0,f3,f4,f5,f43]);try simp only[yback])
  refine s_l01Next s4 fun a H5 k5 l5 s5 ha _=>?_
  have ha:=ha (by omega)
  obtain⟨a,rfl⟩:∃ a':Nat,a=a':=⟨a.toNat,by omega⟩
  have g5:=k5.get (by omega) g4
  have w27:Wid 27 x.ps:=e3.1.widL
  have e5:Els .u8 27 H5 (.slice (some ⟨H3.length+1,0,none⟩) x.ps.length 27) x.ps:=(blk_kN (lo:=H3.length+1) g5 w27 (Nat.le_refl _)).now
  obtain⟨na,oa,ixa,rda⟩:=e5.rdw (i:=a) (by omega)
  have hqa:(x.ps.getD a []).length=27:=e5.wid (by omega)
  ((try simp (maxSteps:=3000000) (dsimp:=false) (disch:=first|omega|simp only[lnx];omega) only[↓ypre,ypost,↓reduceIte,reduceEqDiff,reduceAdd,reduceSub,reduceLeDiff,zz0,ynew,f0,f3,f4,f5,f43,ixa,rda,zeros27,cel_len,cel_all,hqa,List.length_replicate,sp27z hqa]);try simp only[yback])
  generalize hH6:AH.new H5 _=H6
  obtain⟨g6,p6,n6⟩:=new_facts hH6
  refine s_l01Next (s5.kp p6) fun c0 H7 k7 l7 s7 hc _=>?_
  have hc:=hc (by omega)
  obtain⟨c0,rfl⟩:∃ c':Nat,c0=c':=⟨c0.toNat,by omega⟩
  have n5:=s5.lt
  have g6:=k7.get (by omega) g6
  refine WO_cut (fun f:Fr=>f 0=srcP n∧f 3=.pointer (some ⟨h.length,0,none⟩)∧f 4=.pointer (some ⟨H1.length,0,none⟩)∧f 5=I64 x.ps.length∧f 6=.slice (some ⟨H3.length+1,0,none⟩) x.ps.length 27∧f 7=.pointer (some ⟨H5.length,0,none⟩)∧f 51=I64 c0∧True) ⟨(by first|rfl|exact f0|simp[upd_apply,f0]),(by first|rfl|exact f3|simp[upd_apply,f3]),(by first|rfl|exact f4|simp[upd_apply,f4]),(by first|rfl|exact f5|simp[upd_apply,f5]),(by first|rfl|exact f6|simp[upd_apply,f6]),(by first|rfl|exact f7|simp[upd_apply,f7]),(by first|rfl|exact f51|simp[upd_apply,f51]),trivial⟩ ?_
  rintro f ⟨f0,f3,f4,f5,f6,f7,f51,-⟩
  ((try simp (maxSteps:=3000000) (dsimp:=false) (disch:=first|omega|simp only[lnx];omega) only[↓ypre,ypost,↓reduceIte,reduceEqDiff,reduceAdd,reduceSub,reduceLeDiff,zz0,ynew,f0,f3,f4,f5,f6,f7,f51]);try simp only[yback])
  refine s_l01Next s7 fun d H8 k8 l8 s8 hd _=>?_
  have hd:=hd (by omega)
  have g6:=k8.get (by omega) g6
  have ic:=ixa_u (n:=H5.length) (off:=9) (len:=9) (kk:=.i64) (j:=c0) (by omega)
  refine WO_cut (fun f:Fr=>f 0=srcP n∧f 3=.pointer (some ⟨h.length,0,none⟩)∧f 4=.pointer (some ⟨H1.length,0,none⟩)∧f 5=I64 x.ps.length∧f 6=.slice (some ⟨H3.length+1,0,none⟩) x.ps.length 27∧f 7=.pointer (some ⟨H5.length,0,none⟩)∧f 51=I64 c0∧f 53=I64 d∧True) ⟨(by first|rfl|exact f0|simp[upd_apply,f0]),(by first|rfl|exact f3|simp[upd_apply,f3]),(by first|rfl|exact f4|simp[upd_apply,f4]),(by first|rfl|exact f5|simp[upd_apply,f5]),(by first|rfl|exact f6|simp[upd_apply,f6]),(by first|rfl|exact f7|simp[upd_apply,f7]),(by first|rfl|exact f51|simp[upd_apply,f51]),(by first|rfl|exact f53|simp[upd_apply,f53]),trivial⟩ ?_
  rintro f ⟨f0,f3,f4,f5,f6,f7,f51,f53,-⟩
  have st:=cel_set (k:=.u8) (q:=x.ps.getD a []) (j:=9+c0) (x:=d) (by omega)
  ((try simp (maxSteps:=3000000) (dsimp:=false) (disch:=first|omega|simp only[lnx];omega) only[↓ypre,ypost,↓reduceIte,reduceEqDiff,reduceAdd,reduceSub,reduceLeDiff,zz0,ynew,f0,f3,f4,f5,f6,f7,f51,f53,wrap8_in,ic,wr_of g6,st,cel_len,hqa]);try simp only[yback])
  refine⟨by omega,?_⟩
  generalize hq':(x.ps.getD a []).set (9+c0) d=q'
  have lq':q'.length=27:=by rw[←hq',List.length_set];exact hqa
  generalize hH9:AH.put H8 _ _=H9
  have n7:=s7.lt
  have n8:=s8.lt
  have lg6:=get_lt g6
  have l9:H9.length=H8.length:=by rw[←hH9,len_put]
  have g9:H9.get H5.length=some ⟨cel .u8 q',138,false,true⟩:=hH9▸get_put_same lg6
  have s9:Src h0 H9 n:=hH9▸s8.putb (by omega) (by omega)
  have k59:Kp n H5 H9:=hH9▸(((Kp.of p6).trans k7).trans k8).putb (by omega)
  refine s_l01Next s9 fun e H10 k10 l10 s10 he _=>?_
  have he:=he (by omega)
  obtain⟨e,rfl⟩:∃ e':Nat,e=e':=⟨e.toNat,by omega⟩
  refine⟨⟨_,rfl,k10⟩,?_⟩
  have g10:=k10.get (by omega) g9
  have kA:=k59.trans k10
  have g510:=kA.get (by omega) g5
  have ie:ixsV 27 (.slice (some ⟨H3.length+1,0,none⟩) x.ps.length 27) (I64 e)=some (.pointer (some ⟨H3.length+1,e*27,none⟩)):=by
   rw[ixsV_some,if_pos (by omega),Int.toNat_natCast,Nat.zero_add]
  refine WO_cut (fun f:Fr=>f 0=srcP n∧f 3=.pointer (some ⟨h.length,0,none⟩)∧f 4=.pointer (some ⟨H1.length,0,none⟩)∧f 6=.slice (some ⟨H3.length+1,0,none⟩) x.ps.length 27∧f 7=.pointer (some ⟨H5.length,0,none⟩)∧f 57=.slice (some ⟨H3.length+1,0,none⟩) x.ps.length 27∧f 58=srcP n∧f 60=I64 e∧True) ⟨(by first|rfl|exact f0|simp[upd_apply,f0]),(by first|rfl|exact f3|simp[upd_apply,f3]),(by first|rfl|exact f4|simp[upd_apply,f4]),(by first|rfl|exact f6|simp[upd_apply,f6]),(by first|rfl|exact f7|simp[upd_apply,f7]),(by first|rfl|exact f57|simp[upd_apply,f57]),(by first|rfl|exact f58|simp[upd_apply,f58]),(by first|rfl|exact f60|simp[upd_apply,f60]),trivial⟩ ?_
  rintro f ⟨f0,f3,f4,f6,f7,f57,f58,f60,-⟩
  have rd27:H10.rdn H5.length 0 27=some (cel .u8 q'):=by
   rw[rdn_of g10,if_pos (by rw[cel_len,lq'];omega),List.drop_zero,List.take_of_length_le (by rw[cel_len,lq'];exact Nat.le_refl _)]
  have fl:=flat_len w27
  have sf:=splice_flat (k:=.u8) lq' w27 (j:=e) (by omega)
  have g1:=kA.get (by omega) (k5.get (by omega) (pre_get p4 g1))
  have g2:=kA.get (by omega) (k5.get (by omega) (pre_get p4 g2))
  have lg1:=get_lt g1
  have lg2:=get_lt g2
  have o1:isOne (.slice (some ⟨H3.length+1,0,none⟩) x.ps.length 27)=true:=rfl
  have oc:cellsL (.slice (some ⟨H3.length+1,0,none⟩) x.ps.length 27)=[.slice (some ⟨H3.length+1,0,none⟩) x.ps.length 27]:=rfl
  ((try simp (maxSteps:=3000000) (dsimp:=false) (disch:=first|omega|simp only[lnx];omega) only[↓ypre,ypost,↓reduceIte,reduceEqDiff,reduceAdd,reduceSub,reduceLeDiff,zz0,ynew,f0,f3,f4,f6,f7,f57,f58,f60,rd27,ie,wr_of g510,cel_len,cel_all,lq',sf,fl,wr_of g1,wr_of g2,splice_eq]);try simp only[yback])
  refine⟨by omega,by omega,?_⟩
  ((try simp (maxSteps:=3000000) (dsimp:=false) (disch:=first|omega|simp only[lnx];omega) only[↓ypre,ypost,↓reduceIte,reduceEqDiff,reduceAdd,reduceSub,reduceLeDiff,zz0,ynew,f0,f3,f4,f6,f7,f57,f58,f60,wr_of g1,wr_of g2,splice_eq,rdn_put_same]);try simp only[yback])
  have kk:=(((kk3.trans (Kp.of p4)).trans k5).trans kA)
  have el:(x.ps.set e q').length=x.ps.length:=List.length_set
  rw[←el]
  refine hQ ⟨x.p,x.n,x.m,x.k,x.ps.set e q'⟩ _ _ (((kk.putb (m:=H1.length) (by omega)).putb (m:=h.length) (by omega)).putb (m:=H3.length+1) (by omega)) (((s10.putb (m:=H1.length) (by omega) (by omega)).putb (m:=h.length) (by omega) (by omega)).putb (m:=H3.length+1) (by omega) (by omega)) ?_ ⟨b1,b2,b3,b4,by unfold SmallX at b5 ⊢;rw[el];exact b5⟩ (.inr ⟨_,_,_,rfl⟩)
  have bt:Byt 27 (x.ps.set e q'):=hq'▸byt_set e3.2 (by omega) (by omega) (by omega)
  have lgk:=get_lt g510
  exact fun h2 k2 k3=>⟨blk_kN (lo:=lo) (m:=H3.length+1) (get_put_same (by rw[len_put,len_put];omega)) (wid_set w27 lq') (by omega) h2 k2 k3,bt⟩
theorem isX_SchB {x:Sch} {h:AH} {v:Value} (hx:isX x=true) (hv:Prods h v x.ps):SchB x∧(-100≤x.k∧x.k≤100):=by
 obtain⟨z,hp,hl,_⟩:=isX_facts hx
 have:=z.p;have:=z.n;have:=z.m;have:=z.k
 exact⟨⟨by omega,by omega,by omega,by omega,by unfold SmallX;omega⟩,by omega⟩
end Go.Proofs.Ytapafdpnmakekaa.X

set_option linter.unusedVariables false
set_option linter.unusedSimpArgs false
set_option maxRecDepth 20000
set_option maxHeartbeats 4000000
namespace Go.Proofs.Ytapafdpnmakekaa.X
open Go Go.RowKit
theorem RowD.moved {lo kb:Nat} {H H':AH} {fu:Bool} {rows:List (List Int)} {B:Nat→Nat} {cs:List Value} (r:RowD lo H kb fu rows B cs) (k:∀ m,lo≤m→m<H.length→H'.get m=H.get m):RowD lo H' kb fu rows B cs:=
 ⟨by rw[k kb r.low (get_lt r.get)];exact r.get,r.len,r.low,fun i hi=>by
  obtain⟨h1,h2,⟨f,h3⟩,h4⟩:=r.row i hi
  exact⟨h1,h2,⟨f,by unfold Lst;rw[k (B i) h1 (get_lt h3)];exact h3⟩,h4⟩,r.inc⟩
theorem RowD.kN {lo kb:Nat} {H:AH} {fu:Bool} {rows:List (List Int)} {B:Nat→Nat} {cs:List Value} (r:RowD lo H kb fu rows B cs):KN lo H fun h'=>Rows h' (sl kb rows.length) rows:=
 fun h' l g=>(r.moved g).rows
theorem RowD.vals {lo kb:Nat} {H:AH} {fu:Bool} {rows:List (List Int)} {B:Nat→Nat} {cs:List Value} (r:RowD lo H kb fu rows B cs):Vals H (sl kb rows.length) cs:=
 .inr ⟨kb,0,_,by rw[r.len];rfl,r.get,by simp,fun i hi=>by show cs[0+i]?=_;rw[Nat.zero_add];exact getq hi⟩
theorem RowD.slc {lo kb:Nat} {H:AH} {fu:Bool} {rows:List (List Int)} {B:Nat→Nat} {cs:List Value} (r:RowD lo H kb fu rows B cs) (h0:0<rows.length) :
  ∃ v',X.slcV 1 (sl kb rows.length) (some (I64 1)) none=some v'∧KN lo H fun h'=>Rows h' v' (rows.drop 1):=by
 have hl:=r.len
 obtain⟨v',e,-⟩:=r.vals.slcV_lo (k1:=.i64) (l:=1) (by omega)
 refine⟨v',e,fun h' l g=>?_⟩
 have r':=r.moved g
 obtain⟨v'',e',hv⟩:=r'.vals.slcV_lo (k1:=.i64) (l:=1) (by omega)
 have:v'=v'':=Option.some.inj (e.symm.trans e')
 subst this
 refine⟨cs.drop 1,hv,by simp[hl],fun i hi=>?_⟩
 simp only[List.length_drop] at hi
 obtain⟨h1,h2,⟨f,h3⟩,h4⟩:=r'.row (1+i) (by omega)
 have e1:(cs.drop 1).getD i undef=cs.getD (1+i) undef:=by rw[List.getD_eq_getElem?_getD,List.getElem?_drop,←List.getD_eq_getElem?_getD]
 have e2:(rows.drop 1).getD i []=rows.getD (1+i) []:=by rw[List.getD_eq_getElem?_getD,List.getElem?_drop,←List.getD_eq_getElem?_getD]
 rw[e1,e2,h2]
 exact h3.ints
structure MatD (lo:Nat) (h:AH) (v:Value) (rows:List (List Int)):Prop where
 kn:KN lo h fun h'=>Rows h' v rows
 len:rows.length≤10
 row:∀ i,i<rows.length→(rows.getD i []).length≤100
theorem MatD.kp {lo n:Nat} {h h':AH} {v:Value} {rows:List (List Int)} (d:MatD lo h v rows) (k:Kp n h h') (hn:n<lo):MatD lo h' v rows:=⟨KN.kp d.kn k hn,d.len,d.row⟩
theorem byt_snoc {L:List (List Int)} {q:List Int} (hb:Byt 27 L) (hq:By 27 q):Byt 27 (L++[q]):=fun i hi j hj=>by
 by_cases h:i<L.length
 ·rw[getD_app_l h];exact hb i h j hj
 ·rw[List.length_append,List.length_singleton] at hi
  rw[getD_app_r (by omega),show i-L.length=0 by omega]
  exact hq.2 j hj
def WayZ (lo a b:Nat) (h:AH) (sv:Value) (L:List (List Int)):Prop:=
 Wid 27 L∧((sv=.slice none 0 2∧L=[])∨∃ kb,sv=.slice (some ⟨kb,0,none⟩) L.length 27∧lo≤kb∧(kb<a∨b≤kb)∧h.get kb=some ⟨cel .u8 L.flatten,138,false,false⟩)
section
variable {lo a b:Nat} {h h':AH} {sv:Value} {L:List (List Int)}
theorem WayZ.pre (o:WayZ lo a b h sv L) (p:h<+:h'):WayZ lo a b h' sv L:=by
 obtain⟨hw,o|⟨kb,h1,h2,h3,h4⟩⟩:=o
 ·exact⟨hw,.inl o⟩
 ·exact⟨hw,.inr ⟨kb,h1,h2,h3,pre_get p h4⟩⟩
theorem WayZ.one (o:WayZ lo a b h sv L):isOne sv=true:=by
 obtain⟨hw,⟨rfl,_⟩|⟨kb,rfl,h2,h3,h4⟩⟩:=o<;>rfl
theorem WayZ.cells (o:WayZ lo a b h sv L):cellsL sv=[sv]:=by
 obtain⟨hw,⟨rfl,_⟩|⟨kb,rfl,h2,h3,h4⟩⟩:=o<;>rfl
theorem WayZ.putb {n:Nat} {c:Blk} (o:WayZ lo a b h sv L) (hn:a≤n∧n<b):WayZ lo a b (h.put n c) sv L:=by
 obtain⟨hw,o|⟨kb,h1,h2,h3,h4⟩⟩:=o
 ·exact⟨hw,.inl o⟩
 ·exact⟨hw,.inr ⟨kb,h1,h2,h3,by rw[get_put_ne (by omega)];exact h4⟩⟩
theorem WayZ.inE (o:WayZ lo a b h sv L) (hl:1≤L.length):InE .u8 27 lo h.length h sv L:=by
 obtain⟨hw,⟨_,rfl⟩|⟨kb,h1,h2,h3,h4⟩⟩:=o
 ·simp at hl
 ·exact .inr ⟨kb,_,false,⟨h2,get_lt h4⟩,h1,h4,hw⟩
theorem WayZ.app {H:AH} {q:List Int} {e':TypeId} {ro full:Bool} (o:WayZ lo a b H sv L) (hq:q.length=27) (hl:L.length≤1000) (hb:b≤H.length) (hlo:lo≤H.length)
  {Q:Value→AH→Prop} (hQ:∀ (sv':Value) (H':AH),H'.length=H.length+2→(∀ h0:AH,h0.length≤lo→h0<+:H→h0<+:H')→(∀ n c,n<lo∨a≤n∧n<b→H.get n=some c→H'.get n=some c)→WayZ lo a b H' sv' (L++[q])→Q sv' H') :
  OQ (appV (138) 27 27 sv (.slice (some ⟨H.length,0,none⟩) 1 27) (H.new ⟨cel .u8 q,e',ro,full⟩)) Q:=by
 have hr:(H.new ⟨cel .u8 q,e',ro,full⟩).rdn H.length 0 27=some (cel .u8 q):=by
  rw[rdn_of get_new_same]
  simp only
  rw[if_pos (by rw[cel_len,hq];omega),List.drop_zero,List.take_of_length_le (by rw[cel_len,hq];omega)]
 obtain⟨hw,⟨rfl,rfl⟩|⟨kb,rfl,h2,h3,h4⟩⟩:=o
 ·rw[app_nilW (.inr rfl) hr (by omega),OQ_some]
  refine hQ _ _ (by rw[len_new,len_new]) (fun h0 _ p=>pre_new (pre_new p)) (fun n c _ g=>get_new_any (get_new_any g)) ⟨?_,.inr ⟨_,rfl,by rw[len_new];omega,by rw[len_new];omega,?_⟩⟩
  ·intro r hr
   rw[List.nil_append,List.mem_singleton] at hr
   rw[hr,hq]
  ·rw[get_new_same]
   simp
 ·have hk:(H.new ⟨cel .u8 q,e',ro,full⟩).get kb=some ⟨cel .u8 L.flatten,138,false,false⟩:=get_new_any h4
  have hkb:=get_lt h4
  rw[app_ownW hk (by rw[cel_len,flat_len hw]) hr ⟨by omega,by omega⟩,OQ_some]
  refine hQ _ _ (by rw[len_new,len_kill,len_new]) (fun h0 q p=>pre_new (pre_kill (pre_new p) (by omega))) (fun n c hn g=>get_new_any (by rw[get_kill_ne (by omega)];exact get_new_any g)) ⟨?_,.inr ⟨(H.new ⟨cel .u8 q,e',ro,full⟩).length,by simp,by rw[len_new];omega,by rw[len_new];omega,?_⟩⟩
  ·intro r hr
   rcases List.mem_append.1 hr with hr|hr
   ·exact hw r hr
   ·rw[List.mem_singleton.1 hr,hq]
  ·rw[get_new_eq (by rw[len_kill])]
   simp[cel_app]
end
end Go.Proofs.Ytapafdpnmakekaa.X

set_option linter.unusedVariables false
set_option linter.unusedSimpArgs false
set_option maxRecDepth 20000
set_option maxHeartbeats 4000000
namespace Go.Proofs.Ytapafdpnmakekaa.X
open Go Go.RowKit
open Nat (reduceEqDiff reduceAdd reduceSub reduceLeDiff)
theorem s_l01Empty {h:AH} {x:Sch} {v:Value} {Q:Value→AH→Prop} (hv:isOne v=true) (hQ:∀ h',h<+:h'→Q (schV ⟨x.p,x.n,x.m,x.k,[]⟩ (.slice none 0 2)) h'):WF S 277 [schV x v] h Q:=by
 refine WF_fn (fn:=c277) rfl rfl ?_
 dsimp only[c277,oO,oM,oS,oG,oK,oE,oL,oF,oX,oN]
 ((try simp (maxSteps:=3000000) (dsimp:=false) (disch:=first|omega|simp only[lnx];omega) only[↓ypre,ypost,↓reduceIte,reduceEqDiff,reduceAdd,reduceSub,reduceLeDiff,zz0,ynew,schV,hv]);try simp only[yback])
 generalize hH1:AH.new h _=H1
 obtain⟨hb1,p1,n1⟩:=new_facts hH1
 generalize hH2:AH.new H1 _=H2
 obtain⟨hb2,p2,n2⟩:=new_facts hH2
 have g1:=pre_get p2 hb1
 have lt:=get_lt hb2
 ((try simp (maxSteps:=3000000) (dsimp:=false) (disch:=first|omega|simp only[lnx];omega) only[↓ypre,ypost,↓reduceIte,reduceEqDiff,reduceAdd,reduceSub,reduceLeDiff,zz0,ynew,rd1_of g1,fillL,wr_of hb2,splice_eq,rdn_put_same]);try simp only[yback])
 exact hQ _ (p1.trans p2)
end Go.Proofs.Ytapafdpnmakekaa.X

set_option linter.unusedVariables false
set_option linter.unusedSimpArgs false
set_option maxRecDepth 20000
set_option maxHeartbeats 4000000
namespace Go.Proofs.Ytapafdpnmakekaa.X
open Go Go.RowKit
def S3 (q:List Int):Prop:=q.length=3∧∀ k,k<3→1≤q.getD k 0∧q.getD k 0≤3
def tabN:List Int:=[1,2,3,2,4,6,3,6,9,2,4,6,4,7,11,6,11,17,3,6,9,6,11,17,9,17,26]
def nm (q:List Int):Int:=tabN.getD ((q.getD 0 0-1)*9+(q.getD 1 0-1)*3+(q.getD 2 0-1)).toNat 0
theorem S3.set {q:List Int} {k:Nat} {v:Int} (s:S3 q) (hk:k<3) (hv:1≤v∧v≤3):S3 (q.set k v):=by
 refine⟨by rw[List.length_set];exact s.1,fun j hj=>?_⟩
 rw[set_getD (by rw[s.1];exact hk)]
 split
 ·exact hv
 ·exact s.2 j hj
theorem WayE.kp {e:TypeId} {k:IntKind} {w:Nat} {lo bx n:Nat} {sv:Value} {L:List (List Int)} {H H':AH} (o:WayE e k w H lo bx sv L) (kk:Kp n H H') (hn:n<lo):WayE e k w H' lo bx sv L:=by
 obtain⟨hw,o|⟨kb,full,h1,h2,h3,h4⟩⟩:=o
 ·exact⟨hw,.inl o⟩
 ·exact⟨hw,.inr ⟨kb,full,h1,h2,h3,kk.get (by omega) h4⟩⟩
def ProgD (lo:Nat) (h:AH) (v w:Value) (x:Prg):Prop:=KN lo h fun h'=>PrgR h' v w x
theorem WayX.kN {e:TypeId} {k:IntKind} {w lo:Nat} {h:AH} {v:Value} {L:List (List Int)} {ex:List Nat} (o:WayX e k w h lo ex v L):KN lo h fun h'=>Els k w h' v L:=o.inE.kN (Nat.le_refl _)
theorem Way2.kN {lo:Nat} {h:AH} {v w:Value} {x:Prg} (o:Way2 h lo v w x):ProgD lo h v w x:=fun h' l g=>⟨o.st.kN h' l g,o.out.kN h' l g⟩
theorem ProgD.kp {lo n:Nat} {h h':AH} {v w:Value} {x:Prg} (o:ProgD lo h v w x) (k:Kp n h h') (hn:n<lo):ProgD lo h' v w x:=KN.kp o k hn
theorem ProgD.mono {lo lo':Nat} {h:AH} {v w:Value} {x:Prg} (o:ProgD lo h v w x) (hl:lo'≤lo):ProgD lo' h v w x:=KN.mono o hl
theorem ProgD.none {lo:Nat} {h:AH} {p n:Int}:ProgD lo h (.slice none 0 0) (.slice none 0 0) ⟨p,n,[],[]⟩:=fun h' _ _=>⟨.inl ⟨rfl,0,by omega,rfl⟩,.inl ⟨rfl,0,by omega,rfl⟩⟩
theorem WayX.app_kp {e:TypeId} {k:IntKind} {w lo:Nat} {sv:Value} {L:List (List Int)} {H:AH} {q:List Int} {e':TypeId} {ro full:Bool} {bytes:Nat} (o:WayX e k w H lo [] sv L) (hq:q.length=w) (hl:((L.length:Int)+1)*bytes≤140737488355328) (hn:(L.length:Int)<1048576) (hlo:lo≤H.length)
  {Q:Value→AH→Prop} (hQ:∀ (sv':Value) (H':AH) (kb:Nat),H'.length=H.length+2→lo≤kb→(kb=H.length∨blkOf sv=some kb)→Kp kb H H'→WayX e k w H' H.length [] sv' (L++[q])→Q sv' H') :
  OQ (appV e w bytes sv (.slice (some ⟨H.length,0,none⟩) 1 w) (H.new ⟨cel k q,e',ro,full⟩)) Q:=by
 have hr:(H.new ⟨cel k q,e',ro,full⟩).rdn H.length 0 w=some (cel k q):=by
  rw[rdn_of get_new_same]
  simp only
  rw[if_pos (by rw[cel_len,hq];omega),List.drop_zero,List.take_of_length_le (by rw[cel_len,hq];omega)]
 obtain⟨hw,⟨rfl,rfl⟩|⟨kb,fu,rfl,h2,h3,h4⟩⟩:=o
 ·rw[app_nilW (.inl rfl) hr (by simp only[List.length_nil] at hl;omega),OQ_some]
  refine hQ _ _ H.length (by rw[len_new,len_new]) hlo (.inl rfl) (Kp.of (pre_new (pre_new (List.prefix_refl _)))) ⟨?_,.inr ⟨_,false,rfl,by rw[len_new];omega,by simp,?_⟩⟩
  ·intro r hr
   rw[List.nil_append,List.mem_singleton] at hr
   rw[hr,hq]
  ·rw[get_new_same]
   simp
 ·have hk:(H.new ⟨cel k q,e',ro,full⟩).get kb=some ⟨cel k L.flatten,e,false,fu⟩:=get_new_any h4
  have hkb:=get_lt h4
  rw[app_ownW hk (by rw[cel_len,flat_len hw]) hr ⟨hl,by omega⟩,OQ_some]
  refine hQ _ _ kb (by rw[len_new,len_kill,len_new]) h2 (.inr rfl) ⟨by rw[len_new,len_kill,len_new];omega,fun j hj hne=>?_⟩ ⟨?_,.inr ⟨(H.new ⟨cel k q,e',ro,full⟩).length,false,by simp,by rw[len_new];omega,by simp,?_⟩⟩
  ·rw[show ∀ b,(((H.new ⟨cel k q,e',ro,full⟩).kill kb).new b).get j=((H.new ⟨cel k q,e',ro,full⟩).kill kb).get j from fun b=>prefix_get (pre_new (List.prefix_refl _)) (by rw[len_kill,len_new];omega),get_kill_ne (Ne.symm hne)]
   exact prefix_get (pre_new (List.prefix_refl _)) hj
  ·intro r hr
   rcases List.mem_append.1 hr with hr|hr
   ·exact hw r hr
   ·rw[List.mem_singleton.1 hr,hq]
  ·rw[get_new_eq (by rw[len_kill])]
   simp[cel_app]
theorem TabS.get {h0 h:AH} {nb i:Nat} {full:Bool} {L:List (Nat×List Int)} (s:TabS h0 h nb full L) (hi:i<L.length):h.rd1 nb i=some (sl (L[i]).1 (L[i]).2.length):=by
 rw[rd1_of s.g]
 simp[hi,rowV,sl]
def prgC (x:Prg) (v w:Value):List Value:=[I64 x.p,I64 x.n,v,w]
structure Pr3 (h:AH) (nb:Nat) (x:Sch) (b:Bool) (v1 w1 v2 w2 v3 w3:Value):Prop where
 g:∃ fl,h.get nb=some ⟨prgC (pgX x b 0) v1 w1++prgC (pgX x b 1) v2 w2++prgC (pgX x b 2) v3 w3,70,false,fl⟩
 r1:PrgR h v1 w1 (pgX x b 0)
 r2:PrgR h v2 w2 (pgX x b 1)
 r3:PrgR h v3 w3 (pgX x b 2)
section
variable {h h':AH} {nb:Nat} {x:Sch} {b:Bool} {v1 w1 v2 w2 v3 w3:Value}
theorem Pr3.pre (o:Pr3 h nb x b v1 w1 v2 w2 v3 w3) (p:h<+:h'):Pr3 h' nb x b v1 w1 v2 w2 v3 w3:=
 ⟨by obtain⟨fl,g⟩:=o.g;exact⟨fl,pre_get p g⟩,o.r1.pre p,o.r2.pre p,o.r3.pre p⟩
theorem Pr3.at (o:Pr3 h nb x b v1 w1 v2 w2 v3 w3) {i:Nat} (hi:i<3):∃ y z,h.rd1 nb (i*4+2)=some y∧h.rdn nb (i*4) 4=some (prgC (pgX x b i) y z)∧PrgR h y z (pgX x b i):=by
 obtain⟨fl,g⟩:=o.g
 have hc:i=0∨i=1∨i=2:=by omega
 rcases hc with rfl|rfl|rfl
 ·exact⟨v1,w1,by rw[rd1_of g];rfl,by rw[rdn_of g];rfl,o.r1⟩
 ·exact⟨v2,w2,by rw[rd1_of g];rfl,by rw[rdn_of g];rfl,o.r2⟩
 ·exact⟨v3,w3,by rw[rd1_of g];rfl,by rw[rdn_of g];rfl,o.r3⟩
end
theorem InE.move {k:IntKind} {w a b:Nat} {h h':AH} {v:Value} {L:List (List Int)} (o:InE k w a b h v L) (hk:∀ m bl,a≤m→m<b→h.get m=some bl→h'.get m=some bl):InE k w a b h' v L:=by
 rcases o with o|⟨m,e,full,h1,rfl,h2,h3⟩
 ·exact .inl o
 ·exact .inr ⟨m,e,full,h1,rfl,hk _ _ h1.1 h1.2 h2,h3⟩
theorem InP.move {a b:Nat} {h h':AH} {v w:Value} {x:Prg} (o:InP a b h v w x) (hk:∀ m bl,a≤m→m<b→h.get m=some bl→h'.get m=some bl):InP a b h' v w x:=by
 obtain⟨c,h1,h2,h3,h4⟩:=o
 exact⟨c,h1,h2,h3.move fun m bl q1 q2 g=>hk m bl q1 (by omega) g,h4.move fun m bl q1 q2 g=>hk m bl (by omega) q2 g⟩
def StV (p n:Int) (st:List (List Int)):Prop:=∀ i,i<st.length→okStep p (n+(i:Nat)) (st.getD i [])=true
def OuV (p m:Int) (out:List (List Int)):Prop:=∀ i,i<out.length→∃ a b,out.getD i []=[a,b]∧0≤a∧a<m∧0≤b∧b<p∧¬ (b=0∧a≠0)
theorem OuV.mono {p m m':Int} {out:List (List Int)} (o:OuV p m out) (h:m≤m'):OuV p m' out:=fun i hi=>by
 obtain⟨a,b,e,h1,h2,h3⟩:=o i hi
 exact⟨a,b,e,h1,by omega,h3⟩
theorem StV.app {p n:Int} {st:List (List Int)} {q:List Int} (o:StV p n st) (hq:okStep p (n+(st.length:Nat)) q=true):StV p n (st++[q]):=fun i hi=>by
 rw[List.length_append,List.length_singleton] at hi
 by_cases e:i=st.length
 ·subst e
  rw[getD_app_r (Nat.le_refl _),Nat.sub_self]
  exact hq
 ·rw[getD_app_l (by omega)]
  exact o i (by omega)
theorem OuV.app {p m a b:Int} {out:List (List Int)} (o:OuV p m out) (h:0≤a∧a<m∧0≤b∧b<p∧¬ (b=0∧a≠0)):OuV p m (out++[[a,b]]):=fun i hi=>by
 rw[List.length_append,List.length_singleton] at hi
 by_cases e:i=out.length
 ·subst e
  rw[getD_app_r (Nat.le_refl _),Nat.sub_self]
  exact⟨a,b,rfl,h⟩
 ·rw[getD_app_l (by omega)]
  exact o i (by omega)
def dot (q ns:List Int):Nat→Int
 | 0=>0
 | j+1=>dot q ns j+q.getD j 0*ns.getD j 0
@[simp] theorem dot_0 {q ns:List Int}:dot q ns 0=0:=rfl
section
variable (x:Prg)
def nSt (i:Nat) (r:Nat):Nat:=nq (x.st.getD i []) r
def nOut (i:Nat):Nat:=nq (x.out.getD i []) 0
def uO:Nat→List Bool
 | 0=>List.replicate (x.n.toNat+x.st.length) false
 | i+1=>if (x.out.getD i []).getD 1 0=0 then uO i else (uO i).set (nOut x i) true
def uS:Nat→List Bool
 | 0=>uO x x.out.length
 | m+1=>if (uS m).getD (x.n.toNat+(x.st.length-1-m)) false=true then ((uS m).set (nSt x (x.st.length-1-m) 0) true).set (nSt x (x.st.length-1-m) 1) true else uS m
def kp (j:Nat):Bool:=decide (j<x.n.toNat)||(uS x x.st.length).getD j false
def rk:Nat→Int
 | 0=>0
 | j+1=>rk j+(if kp x j=true then 1 else 0)
end
variable {x:Prg}
section
variable {x:Prg}
end
theorem WayX.blk_e {e:TypeId} {k:IntKind} {w lo kb:Nat} {h:AH} {ex:List Nat} {sv:Value} {L:List (List Int)} (o:WayX e k w h lo ex sv L) (hb:blkOf sv=some kb):∃ b,h.get kb=some b∧b.e=e:=by
 obtain⟨hw,⟨rfl,_⟩|⟨kb',full,rfl,h2,h3,h4⟩⟩:=o
 ·cases hb
 ·cases hb
  exact⟨_,h4,rfl⟩
theorem WayX.ne {e:TypeId} {k:IntKind} {w lo kb m:Nat} {h:AH} {ex:List Nat} {sv:Value} {L:List (List Int)} {b:Blk} (o:WayX e k w h lo ex sv L) (hk:kb=h.length∨blkOf sv=some kb) (g:h.get m=some b) (hb:b.e≠e):m≠kb:=by
 rintro rfl
 rcases hk with rfl|hk
 ·exact absurd (get_lt g) (Nat.lt_irrefl _)
 ·obtain⟨b',g',e'⟩:=o.blk_e hk
  rw[g] at g'
  cases g'
  exact hb e'
theorem WayX.copy {e:TypeId} {k:IntKind} {w lo bytes:Nat} {sv:Value} {L:List (List Int)} {H:AH} (o:WayX e k w H lo [] sv L) (hw0:0<w) (hl:(L.length:Int)*bytes≤140737488355328) (hn:(L.length:Int)<1048576)
  {Q:Value→AH→Prop} (hQ:∀ (sv':Value) (H':AH),H<+:H'→WayX e k w H' H.length [] sv' L→Q sv' H') :
  OQ (appV e w bytes (.slice (some ⟨H.length,0,none⟩) 0 w) sv (H.new ⟨[],e,false,true⟩)) Q:=by
 have p1:H<+:H.new ⟨[],e,false,true⟩:=pre_new (List.prefix_refl _)
 have hk:(H.new ⟨[],e,false,true⟩).get H.length=some ⟨[],e,false,true⟩:=get_new_same
 by_cases h0:L=[]
 ·subst h0
  have e1:appV e w bytes (.slice (some ⟨H.length,0,none⟩) 0 w) sv (H.new ⟨[],e,false,true⟩)=some (.slice (some ⟨H.length,0,none⟩) 0 w,H.new ⟨[],e,false,true⟩):=by
   obtain⟨hw,⟨rfl,_⟩|⟨kb,fu,rfl,h2,h3,h4⟩⟩:=o
   ·simp[appV,xop,ev]
   ·have:=pre_get p1 h4
    simp[appV,xop,ev,AH.rdn,this]
  rw[e1,OQ_some]
  exact hQ _ _ p1 ⟨fun q hq=>by simp at hq,.inr ⟨H.length,true,rfl,Nat.le_refl _,by simp,hk⟩⟩
 ·have hl0:0<L.length:=List.length_pos_iff.2 h0
  obtain⟨hw,⟨rfl,h⟩|⟨kb,fu,rfl,h2,h3,h4⟩⟩:=o
  ·exact absurd h h0
  ·have g:=pre_get p1 h4
   have fl:=flat_len hw
   have hr:(H.new ⟨[],e,false,true⟩).rdn kb 0 (L.length*w)=some (cel k L.flatten):=by
    rw[rdn_of g]
    simp only
    rw[if_pos (by rw[cel_len,fl];omega),List.drop_zero,List.take_of_length_le (by rw[cel_len,fl];exact Nat.le_refl _)]
   rw[app_zeroW hk hr hl0 (by omega),OQ_some]
   refine hQ _ _ (pre_new (pre_kill p1 (Nat.le_refl _))) ⟨hw,.inr ⟨H.length+1,false,?_,by omega,by simp,?_⟩⟩
   ·rw[len_new]
   ·rw[get_new_eq (by rw[len_kill,len_new])]
structure PrgB (x:Prg):Prop where
 p:0≤x.p∧x.p≤1000
 n:-1000≤x.n∧x.n≤1000
 st:x.st.length≤10000
 out:x.out.length≤10000
end Go.Proofs.Ytapafdpnmakekaa.X

set_option linter.unusedVariables false
set_option linter.unusedSimpArgs false
set_option maxRecDepth 20000
set_option maxHeartbeats 4000000
namespace Go.Proofs.Ytapafdpnmakekaa.X
open Go Go.RowKit
open Nat (reduceEqDiff reduceAdd reduceSub reduceLeDiff)
theorem l_likeInts {v w:Value} {ns ms:List Int} {h:AH} {Q:Value→AH→Prop} (hv:Ints h v ns) (hv':Ints h w ms) (hl:(ns.length:Int)≤1048576)
  (hQ:Q (.bool (decide (ns=ms))) h):WF S 20 [v,w] h Q:=by
 refine WF_fn (fn:=c20) rfl rfl ?_
 dsimp only[c20,oO,oM,oS,oG,oK,oE,oL,oF,oX,oN]
 by_cases hne:(ns.length:Int)≠ms.length
 ·((try simp (maxSteps:=3000000) (dsimp:=false) (disch:=first|omega|simp only[lnx];omega) only[↓ypre,ypost,↓reduceIte,reduceEqDiff,reduceAdd,reduceSub,reduceLeDiff,zz0,ynew,hv.len,hv'.len,decide_eq_true hne]);try simp only[yback])
  have:ns≠ms:=fun e=>hne (by rw[e])
  simpa [this] using hQ
 ·((try simp (maxSteps:=3000000) (dsimp:=false) (disch:=first|omega|simp only[lnx];omega) only[↓ypre,ypost,↓reduceIte,reduceEqDiff,reduceAdd,reduceSub,reduceLeDiff,zz0,ynew,hv.len,hv'.len,decide_eq_false hne]);try simp only[yback])
  have hlen:ns.length=ms.length:=by omega
  refine WC_loop_inv (fun m f K1=>∃ (i:Nat),m=ns.length-i∧i≤ns.length∧f 0=v∧f 1=w∧f 5=I64 i∧(K1=h)∧(∀ j,j<i→ns.getD j 0=ms.getD j 0)) ?_ (ns.length-0) _ _ ⟨0,rfl,by omega,(by first|rfl|simp[upd_apply]),(by first|rfl|simp[upd_apply]),(by first|rfl|simp[upd_apply]),rfl,(by omega)⟩
  rintro m f K1 ⟨i,rfl,hi,f0,f1,f5,hK,hj⟩
  subst hK
  by_cases hlt:(i:Int)<ns.length
  ·obtain⟨n1,off1,hix1,hrd1⟩:=hv.cell (j:=i) (by omega)
   obtain⟨n2,off2,hix2,hrd2⟩:=hv'.cell (j:=i) (by omega)
   by_cases he:ns.getD i 0≠ms.getD i 0
   ·((try simp (maxSteps:=3000000) (dsimp:=false) (disch:=first|omega|simp only[lnx];omega) only[↓ypre,ypost,↓reduceIte,reduceEqDiff,reduceAdd,reduceSub,reduceLeDiff,zz0,ynew,f0,f1,f5,hv.len,decide_eq_true hlt,hix1,hrd1,hix2,hrd2,decide_eq_true he]);try simp only[yback])
    have:ns≠ms:=fun e=>he (by rw[e])
    simpa [this] using hQ
   ·((try simp (maxSteps:=3000000) (dsimp:=false) (disch:=first|omega|simp only[lnx];omega) only[↓ypre,ypost,↓reduceIte,reduceEqDiff,reduceAdd,reduceSub,reduceLeDiff,zz0,ynew,f0,f1,f5,hv.len,decide_eq_true hlt,hix1,hrd1,hix2,hrd2,decide_eq_false he,wrap64_in]);try simp only[yback])
    have hj':∀ j,j<i+1→ns.getD j 0=ms.getD j 0:=fun j q=>by
     rcases Nat.lt_succ_iff_lt_or_eq.1 q with q|rfl
     ·exact hj j q
     ·exact Decidable.not_not.1 he
    refine InvQ_go (ns.length-(i+1)) (by omega) ⟨(i+1),rfl,by omega,(by first|rfl|exact f0|(simp only[upd_apply];rfl)|(show I64 _=_;congr 1;omega)),(by first|rfl|exact f1|(simp only[upd_apply];rfl)|(show I64 _=_;congr 1;omega)),(by first|rfl|exact f5|(simp only[upd_apply];rfl)|(show I64 _=_;congr 1;omega)),rfl,hj'⟩
  ·((try simp (maxSteps:=3000000) (dsimp:=false) (disch:=first|omega|simp only[lnx];omega) only[↓ypre,ypost,↓reduceIte,reduceEqDiff,reduceAdd,reduceSub,reduceLeDiff,zz0,ynew,f0,f1,f5,hv.len,decide_eq_false hlt]);try simp only[yback])
   have:ns=ms:=by
    refine List.ext_getElem? fun j=>?_
    by_cases h1:j<ns.length
    ·have:=hj j (by omega)
     rw[List.getElem?_eq_getElem h1,List.getElem?_eq_getElem (by omega)]
     simpa [List.getD_eq_getElem?_getD,List.getElem?_eq_getElem h1,List.getElem?_eq_getElem (show j<ms.length by omega)] using this
    ·rw[List.getElem?_eq_none (by omega),List.getElem?_eq_none (by omega)]
   simpa [this] using hQ
theorem l_big {h:AH} {cv:Value} {code:List (List Int)} {Q:Value→AH→Prop} (c:Els .u8 1 h cv code)
  (hQ:Q (.bool (decide ((code.length:Int)>4096))) h):WF S 13 [cv] h Q:=by
 refine WF_fn (fn:=c13) rfl rfl ?_
 dsimp only[c13,oO,oM,oS,oG,oK,oE,oL,oF,oX,oN]
 ((try simp (maxSteps:=3000000) (dsimp:=false) (disch:=first|omega|simp only[lnx];omega) only[↓ypre,ypost,↓reduceIte,reduceEqDiff,reduceAdd,reduceSub,reduceLeDiff,zz0,ynew,c.len]);try simp only[yback])
 exact hQ
end Go.Proofs.Ytapafdpnmakekaa.X

set_option linter.unusedVariables false
set_option linter.unusedSimpArgs false
set_option maxRecDepth 20000
set_option maxHeartbeats 4000000
namespace Go.Proofs.Ytapafdpnmakekaa.X
open Go Go.RowKit
theorem PrgB.small {x:Prg} (b:PrgB x):SmallP x:=⟨by have:=b.st;show (x.st.length:Int)≤1048576;omega,by have:=b.out;show (x.out.length:Int)≤1048576;omega⟩
theorem ProgD.one {lo:Nat} {h:AH} {v w:Value} {x:Prg} (o:ProgD lo h v w x):isOne v=true∧isOne w=true:=⟨o.now.1.one,o.now.2.one⟩
end Go.Proofs.Ytapafdpnmakekaa.X

set_option linter.unusedVariables false
set_option linter.unusedSimpArgs false
set_option maxRecDepth 20000
set_option maxHeartbeats 4000000
namespace Go.Proofs.Ytapafdpnmakekaa.X
open Go Go.RowKit
open Nat (reduceEqDiff reduceAdd reduceSub reduceLeDiff)
theorem seg_n9 {q:List Int} (hq:q.length=27) {i:Nat} (hi:i<3):(seg q i).length=9:=by
 unfold seg
 rw[List.length_take,List.length_drop]
 omega
theorem seg_by {q:List Int} (hq:By 27 q) {f:Nat} (hf:f<3):By 9 (seg q f):=⟨seg_n9 hq.1 hf,fun j hj=>by
 unfold seg
 rw[List.getD_eq_getElem?_getD,List.getElem?_take_of_lt hj,List.getElem?_drop,←List.getD_eq_getElem?_getD]
 exact hq.2 _ (by omega)⟩
theorem cel_seg {q:List Int} {f:Nat}:((cel .u8 q).drop (f*9)).take 9=cel .u8 (seg q f):=by rw[cel_drop,cel_take];rfl
theorem s_l03Factor {q:List Int} {f:Nat} {h:AH} {Q:Value→AH→Prop} (hq:By 27 q) (hf:f<3) (hQ:∀ h',h<+:h'→Q (aggV .u8 (seg q f)) h'):WF S 198 [aggV .u8 q,I64 f] h Q:=by
 refine WF_fn (fn:=c198) rfl rfl ?_
 dsimp only[c198,oO,oM,oS,oG,oK,oE,oL,oF,oX,oN]
 have q27:=hq.1
 ((try simp (maxSteps:=3000000) (dsimp:=false) (disch:=first|omega|simp only[lnx];omega) only[↓ypre,ypost,↓reduceIte,reduceEqDiff,reduceAdd,reduceSub,reduceLeDiff,zz0,ynew,aggV,cellsL_cel,cel_all,zeros9]);try simp only[yback])
 generalize hH1:AH.new h _=H1
 obtain⟨hb1,p1,n1⟩:=new_facts hH1
 generalize hH2:AH.new H1 _=H2
 obtain⟨hb2,p2,n2⟩:=new_facts hH2
 have g1:=pre_get p2 hb1
 have l2:=get_lt hb2
 have w9:=wr_full (vs:=cel .u8 (seg q f)) hb2 (by rw[cel_len,seg_n9 q27 hf];rfl)
 have s9:=seg_n9 q27 hf
 have fin:=hQ _ (pre_put (b:=⟨cel .u8 (seg q f),136,false,true⟩) (p1.trans p2) (n:=H1.length) (by omega))
 have tf:(cel .u8 (seg q f)).take 9=cel .u8 (seg q f):=List.take_of_length_le (by rw[cel_len,s9];exact Nat.le_refl _)
 have c0:(cel .u8 q).take 9=cel .u8 (seg q 0):=by have:=cel_seg (q:=q) (f:=0);rwa [Nat.zero_mul,List.drop_zero] at this
 have c1:((cel .u8 q).drop 9).take 9=cel .u8 (seg q 1):=cel_seg (f:=1)
 have c2:((cel .u8 q).drop 18).take 9=cel .u8 (seg q 2):=cel_seg (f:=2)
 have:f=0∨f=1∨f=2:=by omega
 rcases this with rfl|rfl|rfl
 ·((try simp (maxSteps:=3000000) (dsimp:=false) (disch:=first|omega|simp only[lnx];omega) only[↓ypre,ypost,↓reduceIte,reduceEqDiff,reduceAdd,reduceSub,reduceLeDiff,zz0,ynew,show ((0:Nat):Int)=0 from rfl,show decide ((0:Int)=0)=true from rfl,rdn_of g1,cel_len,q27,c0,s9,cel_all,w9,rdn_put_same,tf]);try simp only[yback])
  exact fin
 ·((try simp (maxSteps:=3000000) (dsimp:=false) (disch:=first|omega|simp only[lnx];omega) only[↓ypre,ypost,↓reduceIte,reduceEqDiff,reduceAdd,reduceSub,reduceLeDiff,zz0,ynew,show ((1:Nat):Int)=1 from rfl,show decide ((1:Int)=0)=false from rfl,show decide ((1:Int)=1)=true from rfl,rdn_of g1,cel_len,q27,c1,s9,cel_all,w9,rdn_put_same,tf]);try simp only[yback])
  exact fin
 ·((try simp (maxSteps:=3000000) (dsimp:=false) (disch:=first|omega|simp only[lnx];omega) only[↓ypre,ypost,↓reduceIte,reduceEqDiff,reduceAdd,reduceSub,reduceLeDiff,zz0,ynew,show ((2:Nat):Int)=2 from rfl,show decide ((2:Int)=0)=false from rfl,show decide ((2:Int)=1)=false from rfl,rdn_of g1,cel_len,q27,c2,s9,cel_all,w9,rdn_put_same,tf]);try simp only[yback])
  exact fin
def wth (q:List Int) (f:Nat) (r:List Int):List Int:=q.take (f*9)++r++q.drop (f*9+9)
theorem wth_len {q r:List Int} {f:Nat} (hq:q.length=27) (hr:r.length=9) (hf:f<3):(wth q f r).length=27:=by
 unfold wth
 rw[List.length_append,List.length_append,List.length_take,List.length_drop]
 omega
theorem wth_by {q r:List Int} {f:Nat} (hq:By 27 q) (hr:By 9 r) (hf:f<3):By 27 (wth q f r):=by
 refine⟨wth_len hq.1 hr.1 hf,fun j hj=>?_⟩
 have lt:(q.take (f*9)).length=f*9:=by rw[List.length_take,hq.1];omega
 unfold wth
 by_cases h1:j<f*9
 ·rw[List.append_assoc,getD_app_l (by omega),List.getD_eq_getElem?_getD,List.getElem?_take_of_lt h1,←List.getD_eq_getElem?_getD]
  exact hq.2 j hj
 ·by_cases h2:j<f*9+9
  ·rw[getD_app_l (by rw[List.length_append,lt,hr.1];exact h2),getD_app_r (by omega),lt]
   exact hr.2 _ (by omega)
  ·rw[getD_app_r (by rw[List.length_append,lt,hr.1];omega),List.length_append,lt,hr.1,List.getD_eq_getElem?_getD,List.getElem?_drop,show f*9+9+(j-(f*9+9))=j by omega,←List.getD_eq_getElem?_getD]
   exact hq.2 j hj
theorem splice_wth {q r:List Int} {f:Nat} (hr:r.length=9):splice (cel .u8 q) (f*9) (cel .u8 r)=cel .u8 (wth q f r):=by
 rw[cel_splice,hr]
 rfl
theorem s_l03With {q r:List Int} {f:Nat} {h:AH} {Q:Value→AH→Prop} (hq:By 27 q) (hr:By 9 r) (hf:f<3) (hQ:∀ h',h<+:h'→Q (aggV .u8 (wth q f r)) h'):WF S 268 [aggV .u8 q,I64 f,aggV .u8 r] h Q:=by
 refine WF_fn (fn:=c268) rfl rfl ?_
 dsimp only[c268,oO,oM,oS,oG,oK,oE,oL,oF,oX,oN]
 have q27:=hq.1
 have r9:=hr.1
 have w27:=wth_len (f:=f) q27 r9 hf
 ((try simp (maxSteps:=3000000) (dsimp:=false) (disch:=first|omega|simp only[lnx];omega) only[↓ypre,ypost,↓reduceIte,reduceEqDiff,reduceAdd,reduceSub,reduceLeDiff,zz0,ynew,aggV,cellsL_cel,cel_all,zeros27]);try simp only[yback])
 generalize hH1:AH.new h _=H1
 obtain⟨hb1,p1,n1⟩:=new_facts hH1
 generalize hH2:AH.new H1 _=H2
 obtain⟨hb2,p2,n2⟩:=new_facts hH2
 generalize hH3:AH.new H2 _=H3
 obtain⟨hb3,p3,n3⟩:=new_facts hH3
 have g1:=pre_get (p2.trans p3) hb1
 have g2:=pre_get p3 hb2
 have l1:=get_lt g1
 have l3:=get_lt hb3
 have t9:(cel .u8 r).take 9=cel .u8 r:=List.take_of_length_le (by rw[cel_len,r9];exact Nat.le_refl _)
 have t27:(cel .u8 (wth q f r)).take 27=cel .u8 (wth q f r):=List.take_of_length_le (by rw[cel_len,w27];exact Nat.le_refl _)
 have sw:=splice_wth (q:=q) (f:=f) r9
 have g3:=fun e:TypeId=>(get_put_ne (h:=H3) (b:=⟨cel .u8 (wth q f r),e,false,true⟩) (show h.length≠H2.length by omega)).trans hb3
 have w3:=fun e:TypeId=>wr_full (vs:=cel .u8 (wth q f r)) (g3 e) (by rw[cel_len,w27];rfl)
 have fin:=fun e:TypeId=>hQ _ (pre_put (b:=⟨cel .u8 (wth q f r),138,false,true⟩) (pre_put (b:=⟨cel .u8 (wth q f r),e,false,true⟩) (p1.trans (p2.trans p3)) (n:=h.length) (Nat.le_refl _)) (n:=H2.length) (by omega))
 have:f=0∨f=1∨f=2:=by omega
 rcases this with rfl|rfl|rfl
 ·rw[Nat.zero_mul] at sw
  ((try simp (maxSteps:=3000000) (dsimp:=false) (disch:=first|omega|simp only[lnx];omega) only[↓ypre,ypost,↓reduceIte,reduceEqDiff,reduceAdd,reduceSub,reduceLeDiff,zz0,ynew,show ((0:Nat):Int)=0 from rfl,show decide ((0:Int)=0)=true from rfl,rdn_of g2,cel_len,r9,t9,cel_all,wr_of g1,q27,sw,rdn_put_same,w27,t27,w3]);try simp only[yback])
  exact fin _
 ·rw[Nat.one_mul] at sw
  ((try simp (maxSteps:=3000000) (dsimp:=false) (disch:=first|omega|simp only[lnx];omega) only[↓ypre,ypost,↓reduceIte,reduceEqDiff,reduceAdd,reduceSub,reduceLeDiff,zz0,ynew,show ((1:Nat):Int)=1 from rfl,show decide ((1:Int)=0)=false from rfl,show decide ((1:Int)=1)=true from rfl,rdn_of g2,cel_len,r9,t9,cel_all,wr_of g1,q27,sw,rdn_put_same,w27,t27,w3]);try simp only[yback])
  exact fin _
 ·have sw:splice (cel .u8 q) 18 (cel .u8 r)=cel .u8 (wth q 2 r):=sw
  ((try simp (maxSteps:=3000000) (dsimp:=false) (disch:=first|omega|simp only[lnx];omega) only[↓ypre,ypost,↓reduceIte,reduceEqDiff,reduceAdd,reduceSub,reduceLeDiff,zz0,ynew,show ((2:Nat):Int)=2 from rfl,show decide ((2:Int)=0)=false from rfl,show decide ((2:Int)=1)=false from rfl,rdn_of g2,cel_len,r9,t9,cel_all,wr_of g1,q27,sw,rdn_put_same,w27,t27,w3]);try simp only[yback])
  exact fin _
def addF (p:Int) (a b:List Int) (k:Int) (i:Nat):List Int:=(gen i fun j=>md p (a.getD j 0+k*b.getD j 0))++a.drop i
theorem addF_len {p k:Int} {a b:List Int} {i:Nat} (ha:a.length=9) (hi:i≤9):(addF p a b k i).length=9:=by
 unfold addF
 rw[List.length_append,gen_len,List.length_drop]
 omega
theorem gen_snoc {i:Nat} {g:Nat→Int}:gen (i+1) g=gen i g++[g i]:=by simp[gen,List.range_succ]
theorem addF_at {p k:Int} {a b:List Int} {i j:Nat} (hi:i≤j):(addF p a b k i).getD j 0=a.getD j 0:=by
 unfold addF
 rw[getD_app_r (by rw[gen_len];exact hi),gen_len,List.getD_eq_getElem?_getD,List.getElem?_drop,show i+(j-i)=j by omega,←List.getD_eq_getElem?_getD]
theorem addF_set {p k:Int} {a b:List Int} {i:Nat} (ha:a.length=9) (hi:i<9):(addF p a b k i).set i (md p (a.getD i 0+k*b.getD i 0))=addF p a b k (i+1):=by
 unfold addF
 rw[List.set_append_right _ _ (by rw[gen_len];exact Nat.le_refl _),gen_len,Nat.sub_self,List.drop_eq_getElem_cons (by omega),List.set_cons_zero,gen_snoc]
 simp
theorem addF_by {p k:Int} {a b:List Int} {i:Nat} (hp:2≤p∧p≤5) (ha:By 9 a) (hi:i≤9):By 9 (addF p a b k i):=by
 refine⟨addF_len ha.1 hi,fun j hj=>?_⟩
 by_cases h:j<i
 ·unfold addF
  rw[getD_app_l (by rw[gen_len];exact h),gen_get h]
  have:=md_in (x:=a.getD j 0+k*b.getD j 0) hp.1
  omega
 ·rw[addF_at (by omega)]
  exact ha.2 j hj
theorem s_l01Add {p k:Int} {a b:List Int} {h:AH} {Q:Value→AH→Prop} (hp:2≤p∧p≤5) (ha:By 9 a) (hb:By 9 b) (hk:-1000≤k∧k≤1000) (hQ:∀ h',h<+:h'→Q (aggV .u8 (addF p a b k 9)) h'):WF S 279 [I64 p,aggV .u8 a,aggV .u8 b,I64 k] h Q:=by
 refine WF_fn (fn:=c279) rfl rfl ?_
 dsimp only[c279,oO,oM,oS,oG,oK,oE,oL,oF,oX,oN]
 have a9:=ha.1
 have b9:=hb.1
 ((try simp (maxSteps:=3000000) (dsimp:=false) (disch:=first|omega|simp only[lnx];omega) only[↓ypre,ypost,↓reduceIte,reduceEqDiff,reduceAdd,reduceSub,reduceLeDiff,zz0,ynew,aggV,cellsL_cel,cel_all,zeros9]);try simp only[yback])
 generalize hH1:AH.new h _=H1
 obtain⟨hb1,p1,n1⟩:=new_facts hH1
 generalize hH2:AH.new H1 _=H2
 obtain⟨hb2,p2,n2⟩:=new_facts hH2
 generalize hH3:AH.new H2 _=H3
 obtain⟨hb3,p3,n3⟩:=new_facts hH3
 have e0:addF p a b k 0=a:=by simp[addF,gen]
 refine WC_loop_inv (fun m f K1=>∃ (i:Nat),m=9-i∧i≤9∧f 0=I64 p∧f 3=I64 k∧f 5=.pointer (some ⟨h.length,0,none⟩)∧f 6=.pointer (some ⟨H1.length,0,none⟩)∧f 8=.pointer (some ⟨H2.length,0,none⟩)∧f 9=I64 i∧(h<+:K1)∧(K1.get h.length=some ⟨cel .u8 (addF p a b k i),136,false,true⟩)∧(K1.get H1.length=some ⟨cel .u8 b,136,false,true⟩)∧(K1.get H2.length=some ⟨cel .u8 (List.replicate 9 0),136,false,true⟩)) ?_ (9-0) _ _ ⟨0,rfl,by omega,(by first|rfl|simp[upd_apply]),(by first|rfl|simp[upd_apply]),(by first|rfl|simp[upd_apply]),(by first|rfl|simp[upd_apply]),(by first|rfl|simp[upd_apply]),(by first|rfl|simp[upd_apply]),p1.trans (p2.trans p3),(by rw[e0];exact pre_get (p2.trans p3) hb1),pre_get p3 hb2,hb3⟩
 rintro m f K1 ⟨i,rfl,hi,f0,f3,f5,f6,f8,f9,pp,g1,g2,g3⟩
 have lF:=addF_len (p:=p) (k:=k) (a:=a) (b:=b) (i:=i) a9 (by omega)
 by_cases hlt:(i:Int)<9
 ·have ba:=ha.2 i (by omega)
  have bb:=hb.2 i (by omega)
  have c1:=cel_get (k:=.u8) (q:=addF p a b k i) (j:=i) (by omega)
  rw[addF_at (Nat.le_refl _)] at c1
  have c2:=cel_get (k:=.u8) (q:=b) (j:=i) (by omega)
  have kb:-255000≤k*b.getD i 0∧k*b.getD i 0≤255000:=by
   generalize b.getD i 0=y at bb
   constructor
   ·have:=Int.mul_le_mul_of_nonneg_right (show -k≤1000 by omega) bb.1
    have h2:-k*y = -(k*y):=Int.neg_mul k y
    omega
   ·have:=Int.mul_le_mul_of_nonneg_right hk.2 bb.1
    omega
  have mi:=md_in (x:=a.getD i 0+k*b.getD i 0) hp.1
  have st:=cel_set (k:=.u8) (q:=addF p a b k i) (j:=i) (x:=md p (a.getD i 0+k*b.getD i 0)) (by omega)
  rw[addF_set a9 (by omega)] at st
  have ia:∀ m:Nat,ixaV 9 1 (.pointer (some ⟨m,0,none⟩)) (I64 i)=_:=fun m=>ixaV_ptr ⟨by omega,by omega⟩
  have w1:IntKind.i64.wrap (k*b.getD i 0)=k*b.getD i 0:=wrap64_in (by omega) (by omega)
  have w2:IntKind.i64.wrap (a.getD i 0+k*b.getD i 0)=a.getD i 0+k*b.getD i 0:=wrap64_in (by omega) (by omega)
  ((try simp (maxSteps:=3000000) (dsimp:=false) (disch:=first|omega|simp only[lnx];omega) only[↓ypre,ypost,↓reduceIte,reduceEqDiff,reduceAdd,reduceSub,reduceLeDiff,zz0,ynew,f0,f3,f5,f6,f8,f9,decide_eq_true hlt,↓WX_ixa,ia,Int.toNat_natCast,Nat.mul_one,rd1_of g1,rd1_of g2,c1,c2,wrap64_in,w1,w2]);try simp only[yback])
  refine s_l01Mod hp ?_
  ((try simp (maxSteps:=3000000) (dsimp:=false) (disch:=first|omega|simp only[lnx];omega) only[↓ypre,ypost,↓reduceIte,reduceEqDiff,reduceAdd,reduceSub,reduceLeDiff,zz0,ynew,f0,f3,f5,f6,f8,f9,wrap8_in,↓WX_ixa,ia,Int.toNat_natCast,Nat.mul_one,wr_of g1,st,cel_len,lF,wrap64_in]);try simp only[yback])
  refine⟨by omega,?_⟩
  ((try simp (maxSteps:=3000000) (dsimp:=false) (disch:=first|omega|simp only[lnx];omega) only[↓ypre,ypost,↓reduceIte,reduceEqDiff,reduceAdd,reduceSub,reduceLeDiff,zz0,ynew,f0,f3,f5,f6,f8,f9,wrap64_in]);try simp only[yback])
  refine InvQ_go (9-(i+1)) (by omega) ⟨(i+1),rfl,by omega,(by first|rfl|exact f0|(simp only[upd_apply];rfl)|(show I64 _=_;congr 1;omega)),(by first|rfl|exact f3|(simp only[upd_apply];rfl)|(show I64 _=_;congr 1;omega)),(by first|rfl|exact f5|(simp only[upd_apply];rfl)|(show I64 _=_;congr 1;omega)),(by first|rfl|exact f6|(simp only[upd_apply];rfl)|(show I64 _=_;congr 1;omega)),(by first|rfl|exact f8|(simp only[upd_apply];rfl)|(show I64 _=_;congr 1;omega)),(by first|rfl|exact f9|(simp only[upd_apply];rfl)|(show I64 _=_;congr 1;omega)),(pre_put pp (Nat.le_refl _)),(get_put_same (get_lt g1)),(by rw[get_put_ne (by omega)];exact g2),(by rw[get_put_ne (by omega)];exact g3)⟩
 ·have ei:i=9:=by omega
  subst ei
  have t9:(cel .u8 (addF p a b k 9)).take 9=cel .u8 (addF p a b k 9):=List.take_of_length_le (by rw[cel_len,lF];exact Nat.le_refl _)
  have w9:=wr_full (vs:=cel .u8 (addF p a b k 9)) g3 (by rw[cel_len,lF];rfl)
  have l3:=get_lt g3
  ((try simp (maxSteps:=3000000) (dsimp:=false) (disch:=first|omega|simp only[lnx];omega) only[↓ypre,ypost,↓reduceIte,reduceEqDiff,reduceAdd,reduceSub,reduceLeDiff,zz0,ynew,f0,f3,f5,f6,f8,f9,decide_eq_false hlt,rdn_of g1,cel_len,lF,t9,cel_all,w9,rdn_put_same]);try simp only[yback])
  exact hQ _ (pre_put pp (by omega))
def toldL (L:List (List Int)):List (List Int):=L.filter fun q=>!hasZ q
theorem toldL_snoc {L:List (List Int)} {q:List Int}:toldL (L++[q])=if hasZ q=true then toldL L else toldL L++[q]:=by
 unfold toldL
 rw[List.filter_append]
 cases h:hasZ q<;>simp[h]
theorem toldL_len {L:List (List Int)}:(toldL L).length≤L.length:=List.length_filter_le _ _
theorem WayZ.putz {lo a b n:Nat} {h:AH} {sv:Value} {L:List (List Int)} {c:Blk} (o:WayZ lo a b h sv L) (hn:n<lo):WayZ lo a b (h.put n c) sv L:=by
 obtain⟨hw,o|⟨kb,h1,h2,h3,h4⟩⟩:=o
 ·exact⟨hw,.inl o⟩
 ·exact⟨hw,.inr ⟨kb,h1,h2,h3,by rw[get_put_ne (by omega)];exact h4⟩⟩
theorem WayZ.els {lo a b:Nat} {h:AH} {sv:Value} {L:List (List Int)} (o:WayZ lo a b h sv L):Els .u8 27 h sv L:=by
 obtain⟨hw,⟨rfl,rfl⟩|⟨kb,h1,h2,h3,h4⟩⟩:=o
 ·exact .inl ⟨rfl,2,by omega,rfl⟩
 ·exact InE.rd (a:=lo) (b:=h.length) (.inr ⟨kb,_,false,⟨h2,get_lt h4⟩,h1,h4,hw⟩)
theorem WayZ.kN {lo lo' a b:Nat} {h:AH} {sv:Value} {L:List (List Int)} (o:WayZ lo a b h sv L) (bl:Byt 27 L) (hl:lo'≤lo):KN lo' h fun h'=>Prods h' sv L:=fun h' l g=>by
 refine⟨WayZ.els (lo:=lo) (a:=a) (b:=b) ?_,bl⟩
 obtain⟨hw,o|⟨kb,h1,h2,h3,h4⟩⟩:=o
 ·exact⟨hw,.inl o⟩
 ·exact⟨hw,.inr ⟨kb,h1,h2,h3,(g kb (by omega) (get_lt h4)).trans h4⟩⟩
theorem s_l03Told {x:Sch} {v w:Value} {L:List (List Int)} {h:AH} {Q:Value→AH→Prop} (hv:isOne v=true) (hw:Prods h w L) (ll:L.length≤100)
  (hQ:∀ (w':Value) (h':AH),h<+:h'→KN h.length h' (fun h2=>Prods h2 w' (toldL L))→Q (schV ⟨x.p,x.n,x.m,x.k,toldL L⟩ w') h'):WF S 155 [schV x v,w] h Q:=by
 refine WF_fn (fn:=c155) rfl rfl ?_
 dsimp only[c155,oO,oM,oS,oG,oK,oE,oL,oF,oX,oN]
 ((try simp (maxSteps:=3000000) (dsimp:=false) (disch:=first|omega|simp only[lnx];omega) only[↓ypre,ypost,↓reduceIte,reduceEqDiff,reduceAdd,reduceSub,reduceLeDiff,zz0,ynew,schV,hv]);try simp only[yback])
 generalize hH1:AH.new h _=H1
 obtain⟨hb1,p1,n1⟩:=new_facts hH1
 generalize hH2:AH.new H1 _=H2
 obtain⟨hb2,p2,n2⟩:=new_facts hH2
 have g1:=pre_get p2 hb1
 ((try simp (maxSteps:=3000000) (dsimp:=false) (disch:=first|omega|simp only[lnx];omega) only[↓ypre,ypost,↓reduceIte,reduceEqDiff,reduceAdd,reduceSub,reduceLeDiff,zz0,ynew,rdn_of g1]);try simp only[yback])
 refine s_l01Empty (x:=x) hv fun H3 p3=>?_
 ((try simp (maxSteps:=3000000) (dsimp:=false) (disch:=first|omega|simp only[lnx];omega) only[↓ypre,ypost,↓reduceIte,reduceEqDiff,reduceAdd,reduceSub,reduceLeDiff,zz0,ynew,schV]);try simp only[yback])
 generalize hH4:AH.new H3 _=H4
 obtain⟨hb4,p4,n4⟩:=new_facts hH4
 have g2:=pre_get p3 hb2
 have q3:=pre_len p3
 have P3:h<+:H3:=p1.trans (p2.trans p3)
 have w0:WayZ H4.length H4.length H4.length H4 (.slice none 0 2) (toldL (L.take 0)):=⟨fun r hr=>by simp[toldL] at hr,.inl ⟨rfl,rfl⟩⟩
 have elen:=hw.1.len
 refine WC_loop_inv (fun m f K1=>∃ (i:Nat) (sv:Value),m=L.length-i∧i≤L.length∧f 1=w∧f 4=.pointer (some ⟨H1.length,0,none⟩)∧f 5=.pointer (some ⟨H3.length,0,none⟩)∧f 6=I64 i∧(H3<+:K1)∧(H4.length≤K1.length)∧(OwnB K1 H3.length [I64 x.p,I64 x.n,I64 x.m,I64 x.k,sv] true)∧(WayZ H4.length H4.length H4.length K1 sv (toldL (L.take i)))∧(Byt 27 (toldL (L.take i)))) ?_ (L.length-0) _ _ ⟨0,.slice none 0 2,rfl,by omega,(by first|rfl|simp[upd_apply]),(by first|rfl|simp[upd_apply]),(by first|rfl|simp[upd_apply]),(by first|rfl|simp[upd_apply]),p4,Nat.le_refl _,⟨_,hb4⟩,w0,(fun _ h=>by simp[toldL] at h)⟩
 rintro m f K1 ⟨i,sv,rfl,hi,f1,f4,f5,f6,pp,l1,g5,ww,bl⟩
 obtain⟨e5,g5⟩:=g5
 by_cases hlt:(i:Int)<L.length
 ·have hi:i<L.length:=by omega
  obtain⟨nn,off,ix,rd⟩:=((hw.pre (P3.trans pp)).1).at hi
  have by27:By 27 (L.getD i []):=⟨hw.1.wid hi,fun j hj=>hw.2 i hi j hj⟩
  have et:toldL (L.take (i+1))=if hasZ (L.getD i [])=true then toldL (L.take i) else toldL (L.take i)++[L.getD i []]:=by rw[take_next (d:=[]) hi,toldL_snoc]
  generalize L.getD i []=q at rd by27 et
  have q27:=by27.1
  have r27:K1.rdn nn off 27=some (cel .u8 q):=by
   have:=rd.1 0 27 (by omega)
   rwa [Nat.add_zero,List.drop_zero,List.take_of_length_le (by omega)] at this
  have c0:(cel .u8 q).take 9=cel .u8 (seg q 0):=by have:=cel_seg (q:=q) (f:=0);rwa [Nat.zero_mul,List.drop_zero] at this
  have c1:((cel .u8 q).drop 9).take 9=cel .u8 (seg q 1):=cel_seg (f:=1)
  have c2:((cel .u8 q).drop 18).take 9=cel .u8 (seg q 2):=cel_seg (f:=2)
  have n0:=seg_n9 q27 (show 0<3 by omega)
  have n1':=seg_n9 q27 (show 1<3 by omega)
  have n2':=seg_n9 q27 (show 2<3 by omega)
  ((try simp (maxSteps:=3000000) (dsimp:=false) (disch:=first|omega|simp only[lnx];omega) only[↓ypre,ypost,↓reduceIte,reduceEqDiff,reduceAdd,reduceSub,reduceLeDiff,zz0,ynew,f1,f4,f5,f6,elen,decide_eq_true hlt,ix,r27,cel_all,cel_len,q27,sp27z q27,zrep27,splice_27 q27,c0]);try simp only[yback])
  generalize hK2:AH.new K1 _=K2
  obtain⟨hb7,p7,n7⟩:=new_facts hK2
  refine s_l01Zero n0 fun K3 pa=>?_
  have g7:=pre_get pa hb7
  cases z0:isZ (seg q 0) with
  | true=>
   have hz:hasZ q=true:=by unfold hasZ;rw[z0];rfl
   rw[hz,if_pos rfl] at et
   ((try simp (maxSteps:=3000000) (dsimp:=false) (disch:=first|omega|simp only[lnx];omega) only[↓ypre,ypost,↓reduceIte,reduceEqDiff,reduceAdd,reduceSub,reduceLeDiff,zz0,ynew,f1,f4,f5,f6,wrap64_in]);try simp only[yback])
   refine InvQ_go (L.length-(i+1)) (by omega) ⟨(i+1),sv,rfl,by omega,(by first|rfl|exact f1|(simp only[upd_apply];rfl)|(show I64 _=_;congr 1;omega)),(by first|rfl|exact f4|(simp only[upd_apply];rfl)|(show I64 _=_;congr 1;omega)),(by first|rfl|exact f5|(simp only[upd_apply];rfl)|(show I64 _=_;congr 1;omega)),(by first|rfl|exact f6|(simp only[upd_apply];rfl)|(show I64 _=_;congr 1;omega)),(pp.trans (p7.trans pa)),(by have:=pre_len (p7.trans pa);omega),⟨_,pre_get (p7.trans pa) g5⟩,(by rw[et];exact ww.pre (p7.trans pa)),(by rw[et];exact bl)⟩
  | false=>
   ((try simp (maxSteps:=3000000) (dsimp:=false) (disch:=first|omega|simp only[lnx];omega) only[↓ypre,ypost,↓reduceIte,reduceEqDiff,reduceAdd,reduceSub,reduceLeDiff,zz0,ynew,f1,f4,f5,f6,rdn_of g7,cel_len,q27,c1]);try simp only[yback])
   refine s_l01Zero n1' fun K4 pb=>?_
   have g7:=pre_get pb g7
   cases z1:isZ (seg q 1) with
   | true=>
    have hz:hasZ q=true:=by unfold hasZ;rw[z0,z1];rfl
    rw[hz,if_pos rfl] at et
    ((try simp (maxSteps:=3000000) (dsimp:=false) (disch:=first|omega|simp only[lnx];omega) only[↓ypre,ypost,↓reduceIte,reduceEqDiff,reduceAdd,reduceSub,reduceLeDiff,zz0,ynew,f1,f4,f5,f6,wrap64_in]);try simp only[yback])
    refine InvQ_go (L.length-(i+1)) (by omega) ⟨(i+1),sv,rfl,by omega,(by first|rfl|exact f1|(simp only[upd_apply];rfl)|(show I64 _=_;congr 1;omega)),(by first|rfl|exact f4|(simp only[upd_apply];rfl)|(show I64 _=_;congr 1;omega)),(by first|rfl|exact f5|(simp only[upd_apply];rfl)|(show I64 _=_;congr 1;omega)),(by first|rfl|exact f6|(simp only[upd_apply];rfl)|(show I64 _=_;congr 1;omega)),(pp.trans (p7.trans (pa.trans pb))),(by have:=pre_len (p7.trans (pa.trans pb));omega),⟨_,pre_get (p7.trans (pa.trans pb)) g5⟩,(by rw[et];exact ww.pre (p7.trans (pa.trans pb))),(by rw[et];exact bl)⟩
   | false=>
    ((try simp (maxSteps:=3000000) (dsimp:=false) (disch:=first|omega|simp only[lnx];omega) only[↓ypre,ypost,↓reduceIte,reduceEqDiff,reduceAdd,reduceSub,reduceLeDiff,zz0,ynew,f1,f4,f5,f6,rdn_of g7,cel_len,q27,c2]);try simp only[yback])
    refine s_l01Zero n2' fun K5 pc=>?_
    have g7:=pre_get pc g7
    cases z2:isZ (seg q 2) with
    | true=>
    have hz:hasZ q=true:=by unfold hasZ;rw[z0,z1,z2];rfl
    rw[hz,if_pos rfl] at et
    ((try simp (maxSteps:=3000000) (dsimp:=false) (disch:=first|omega|simp only[lnx];omega) only[↓ypre,ypost,↓reduceIte,reduceEqDiff,reduceAdd,reduceSub,reduceLeDiff,zz0,ynew,f1,f4,f5,f6,wrap64_in]);try simp only[yback])
    refine InvQ_go (L.length-(i+1)) (by omega) ⟨(i+1),sv,rfl,by omega,(by first|rfl|exact f1|(simp only[upd_apply];rfl)|(show I64 _=_;congr 1;omega)),(by first|rfl|exact f4|(simp only[upd_apply];rfl)|(show I64 _=_;congr 1;omega)),(by first|rfl|exact f5|(simp only[upd_apply];rfl)|(show I64 _=_;congr 1;omega)),(by first|rfl|exact f6|(simp only[upd_apply];rfl)|(show I64 _=_;congr 1;omega)),(pp.trans (p7.trans (pa.trans (pb.trans pc)))),(by have:=pre_len (p7.trans (pa.trans (pb.trans pc)));omega),⟨_,pre_get (p7.trans (pa.trans (pb.trans pc))) g5⟩,(by rw[et];exact ww.pre (p7.trans (pa.trans (pb.trans pc)))),(by rw[et];exact bl)⟩
    | false=>
     have hz:hasZ q=false:=by unfold hasZ;rw[z0,z1,z2];rfl
     rw[hz,if_neg (by decide)] at et
     have P5:K1<+:K5:=p7.trans (pa.trans (pb.trans pc))
     have L5:=pre_len P5
     have g55:=pre_get P5 g5
     have t27:(cel .u8 q).take 27=cel .u8 q:=List.take_of_length_le (by rw[cel_len,q27];exact Nat.le_refl _)
     have tl:=toldL_len (L:=L.take i)
     have tk:(L.take i).length=i:=by rw[List.length_take];omega
     ((try simp (maxSteps:=3000000) (dsimp:=false) (disch:=first|omega|simp only[lnx];omega) only[↓ypre,ypost,↓reduceIte,reduceEqDiff,reduceAdd,reduceSub,reduceLeDiff,zz0,ynew,f1,f4,f5,f6,rd1_of g55,rdn_of g7,cel_len,q27,t27,zrep27,sp27z q27,fillL,cel_all,List.append_nil,List.length_replicate]);try simp only[yback])
     refine (ww.pre P5).app (q:=q) q27 (by omega) (by omega) (by omega) fun sv' H' l' pre' keep' w'=>?_
     have g6:=keep' _ _ (.inl (by omega)) g55
     have lt6:=get_lt g6
     ((try simp (maxSteps:=3000000) (dsimp:=false) (disch:=first|omega|simp only[lnx];omega) only[↓ypre,ypost,↓reduceIte,reduceEqDiff,reduceAdd,reduceSub,reduceLeDiff,zz0,ynew,f1,f4,f5,f6,w'.one,w'.cells,wr_of g6,splice_eq,wrap64_in]);try simp only[yback])
     rw[←et] at w'
     refine InvQ_go (L.length-(i+1)) (by omega) ⟨(i+1),sv',rfl,by omega,(by first|rfl|exact f1|(simp only[upd_apply];rfl)|(show I64 _=_;congr 1;omega)),(by first|rfl|exact f4|(simp only[upd_apply];rfl)|(show I64 _=_;congr 1;omega)),(by first|rfl|exact f5|(simp only[upd_apply];rfl)|(show I64 _=_;congr 1;omega)),(by first|rfl|exact f6|(simp only[upd_apply];rfl)|(show I64 _=_;congr 1;omega)),(pre_put (pre' _ (by omega) (pp.trans P5)) (Nat.le_refl _)),(by rw[len_put];omega),⟨_,get_put_same lt6⟩,(w'.putz (by omega)),(by rw[et];exact byt_snoc bl by27)⟩
 ·have ei:i=L.length:=by omega
  subst ei
  rw[List.take_length] at ww bl
  have g2:=pre_get pp g2
  have lt2:=get_lt g2
  have q1:=pre_len pp
  ((try simp (maxSteps:=3000000) (dsimp:=false) (disch:=first|omega|simp only[lnx];omega) only[↓ypre,ypost,↓reduceIte,reduceEqDiff,reduceAdd,reduceSub,reduceLeDiff,zz0,ynew,f1,f4,f5,f6,elen,decide_eq_false hlt,rdn_of g5,wr_of g2,splice_eq,rdn_put_same,ww.one]);try simp only[yback])
  exact hQ sv _ (pre_put (P3.trans pp) (by omega)) ((ww.putz (by omega)).kN bl (by omega))
def flG' (f:Nat):Nat:=(f+1)%3
def flH' (f:Nat):Nat:=(f+2)%3
def flOne (p:Int) (a b:List Int) (f:Nat) (s:Int):List Int:=wth a (flG' f) (addF p (seg a (flG' f)) (seg b (flG' f)) s 9)
def flTwo (p:Int) (a b:List Int) (f:Nat) (s:Int):List Int:=wth b (flH' f) (addF p (seg b (flH' f)) (seg a (flH' f)) (-s) 9)
def flipL (p:Int) (L:List (List Int)) (i k f:Nat) (s:Int):List (List Int):=(L.set i (flOne p (L.getD i []) (L.getD k []) f s)).set k (flTwo p (L.getD i []) (L.getD k []) f s)
theorem byt_setq {L:List (List Int)} {q:List Int} {i:Nat} (hb:Byt 27 L) (hq:By 27 q):Byt 27 (L.set i q):=fun m hm j hj=>by
 rw[List.length_set] at hm
 by_cases e:m=i
 ·subst e
  rw[List.getD_eq_getElem?_getD (l:=L.set m q),List.getElem?_set_self hm,Option.getD_some]
  exact hq.2 j hj
 ·rw[List.getD_eq_getElem?_getD (l:=L.set i q),List.getElem?_set_ne (Ne.symm e),←List.getD_eq_getElem?_getD]
  exact hb m hm j hj
theorem s_l03Flip {x:Sch} {v:Value} {i k r:Nat} {s:Int} {h:AH} {Q:Value→AH→Prop} (hv:Prods h v x.ps) (ll:x.ps.length≤100) (hp:2≤x.p∧x.p≤5) (hi:i<x.ps.length) (hk:k<x.ps.length) (hf:r<3) (hs:1≤s∧s≤1000)
  (hQ:∀ (w':Value) (h':AH),h<+:h'→KN h.length h' (fun h2=>Prods h2 w' (toldL (flipL x.p x.ps i k r s)))→Q (schV ⟨x.p,x.n,x.m,x.k,toldL (flipL x.p x.ps i k r s)⟩ w') h'):WF S 157 [schV x v,I64 i,I64 k,I64 r,I64 s] h Q:=by
 refine WF_fn (fn:=c157) rfl rfl ?_
 dsimp only[c157,oO,oM,oS,oG,oK,oE,oL,oF,oX,oN]
 have v1:isOne v=true:=hv.one
 ((try simp (maxSteps:=3000000) (dsimp:=false) (disch:=first|omega|simp only[lnx];omega) only[↓ypre,ypost,↓reduceIte,reduceEqDiff,reduceAdd,reduceSub,reduceLeDiff,zz0,ynew,schV,v1]);try simp only[yback])
 generalize hH1:AH.new h _=H1
 obtain⟨hb1,p1,n1⟩:=new_facts hH1
 generalize hH2:AH.new H1 _=H2
 obtain⟨hb2,p2,n2⟩:=new_facts hH2
 have g1:=pre_get p2 hb1
 have gf:flG' r<3:=Nat.mod_lt _ (by omega)
 have gh:flH' r<3:=Nat.mod_lt _ (by omega)
 ((try simp (maxSteps:=3000000) (dsimp:=false) (disch:=first|omega|simp only[lnx];omega) only[↓ypre,ypost,↓reduceIte,reduceEqDiff,reduceAdd,reduceSub,reduceLeDiff,zz0,ynew,rd1_of g1,zrep,fillL]);try simp only[yback])
 have w27:Wid 27 x.ps:=hv.1.widL
 refine copy_zero (hv.1.pre (p1.trans p2)) (by omega) (by omega) fun H3 l3 p3 gB=>?_
 have g1:=pre_get p3 g1
 have g10:=pre_get p3 hb2
 have wg:(IntKind.i64.wrap ((r:Int)+1)).tmod 3=((flG' r:Nat):Int):=by
  have:r=0∨r=1∨r=2:=by omega
  rcases this with rfl|rfl|rfl<;>rfl
 have wh:(IntKind.i64.wrap ((r:Int)+2)).tmod 3=((flH' r:Nat):Int):=by
  have:r=0∨r=1∨r=2:=by omega
  rcases this with rfl|rfl|rfl<;>rfl
 refine WO_cut (fun f:Fr=>f 1=I64 i∧f 2=I64 k∧f 3=I64 r∧f 4=I64 s∧f 5=.pointer (some ⟨h.length,0,none⟩)∧f 10=.pointer (some ⟨H1.length,0,none⟩)∧f 19=.slice (some ⟨H2.length+1,0,none⟩) x.ps.length 27∧True) ⟨(by first|rfl|simp[upd_apply]),(by first|rfl|simp[upd_apply]),(by first|rfl|simp[upd_apply]),(by first|rfl|simp[upd_apply]),(by first|rfl|simp[upd_apply]),(by first|rfl|simp[upd_apply]),(by first|rfl|simp[upd_apply]),trivial⟩ ?_
 rintro f ⟨f1,f2,f3,f4,f5,f10,f19,-⟩
 have el:Els .u8 27 H3 (.slice (some ⟨H2.length+1,0,none⟩) x.ps.length 27) x.ps:=(blk_kN (lo:=0) gB w27 (Nat.zero_le _)).now
 obtain⟨ni,oi,ixi,rdi⟩:=el.at hi
 obtain⟨nk,ok,ixk,rdk⟩:=el.at hk
 have byi:By 27 (x.ps.getD i []):=⟨hv.1.wid hi,fun j hj=>hv.2 i hi j hj⟩
 have byk:By 27 (x.ps.getD k []):=⟨hv.1.wid hk,fun j hj=>hv.2 k hk j hj⟩
 unfold flipL at hQ
 generalize x.ps.getD i []=a at rdi byi hQ
 generalize x.ps.getD k []=b at rdk byk hQ
 have a27:=byi.1
 have b27:=byk.1
 have ri:H3.rdn ni oi 27=some (cel .u8 a):=by
  have:=rdi.1 0 27 (by omega)
  rwa [Nat.add_zero,List.drop_zero,List.take_of_length_le (by omega)] at this
 have rk:H3.rdn nk ok 27=some (cel .u8 b):=by
  have:=rdk.1 0 27 (by omega)
  rwa [Nat.add_zero,List.drop_zero,List.take_of_length_le (by omega)] at this
 have ta:(cel .u8 a).take 27=cel .u8 a:=List.take_of_length_le (by rw[cel_len,a27];exact Nat.le_refl _)
 have tb:(cel .u8 b).take 27=cel .u8 b:=List.take_of_length_le (by rw[cel_len,b27];exact Nat.le_refl _)
 ((try simp (maxSteps:=3000000) (dsimp:=false) (disch:=first|omega|simp only[lnx];omega) only[↓ypre,ypost,↓reduceIte,reduceEqDiff,reduceAdd,reduceSub,reduceLeDiff,zz0,ynew,f1,f2,f3,f4,f5,f10,f19,bin_rem (show (3:Int)≠0 by decide),wg,wh,ixi,ixk,ri,rk,cellsL_cel,cel_all,cel_len,a27,b27,rd1_of g1,ta,tb]);try simp only[yback])
 generalize hK1:AH.new H3 _=K1
 obtain⟨ka,pa,na⟩:=new_facts hK1
 generalize hK2:AH.new K1 _=K2
 obtain⟨kb,pb,nb⟩:=new_facts hK2
 have ka:=pre_get pb ka
 have P2:H3<+:K2:=pa.trans pb
 refine s_l03Factor (q:=a) byi gf fun K3 q3=>⟨q3,?_⟩
 have ka:=pre_get q3 ka
 have kb:=pre_get q3 kb
 ((try simp (maxSteps:=3000000) (dsimp:=false) (disch:=first|omega|simp only[lnx];omega) only[↓ypre,ypost,↓reduceIte,reduceEqDiff,reduceAdd,reduceSub,reduceLeDiff,zz0,ynew,f1,f2,f3,f4,f5,f10,f19,rdn_of kb,cel_len,b27,tb]);try simp only[yback])
 refine s_l03Factor (q:=b) byk gf fun K4 q4=>⟨q4,?_⟩
 have ka:=pre_get q4 ka
 have kb:=pre_get q4 kb
 ((try simp (maxSteps:=3000000) (dsimp:=false) (disch:=first|omega|simp only[lnx];omega) only[↓ypre,ypost,↓reduceIte,reduceEqDiff,reduceAdd,reduceSub,reduceLeDiff,zz0,ynew,f1,f2,f3,f4,f5,f10,f19]);try simp only[yback])
 have sga:=seg_by byi gf
 have sgb:=seg_by byk gf
 refine s_l01Add (k:=s) hp sga sgb (by omega) fun K5 q5=>⟨q5,?_⟩
 ((try simp (maxSteps:=3000000) (dsimp:=false) (disch:=first|omega|simp only[lnx];omega) only[↓ypre,ypost,↓reduceIte,reduceEqDiff,reduceAdd,reduceSub,reduceLeDiff,zz0,ynew,f1,f2,f3,f4,f5,f10,f19]);try simp only[yback])
 have ad:=addF_by (k:=s) (b:=seg b (flG' r)) (i:=9) hp sga (Nat.le_refl _)
 refine s_l03With byi ad gf fun K6 q6=>?_
 have ka:=pre_get (q5.trans q6) ka
 have kb:=pre_get (q5.trans q6) kb
 have P6:H3<+:K6:=P2.trans (q3.trans (q4.trans (q5.trans q6)))
 have gB6:=pre_get P6 gB
 have by1:By 27 (flOne x.p a b r s):=wth_by byi ad gf
 have l1:=by1.1
 have e1:wth a (flG' r) (addF x.p (seg a (flG' r)) (seg b (flG' r)) s 9)=flOne x.p a b r s:=rfl
 rw[e1]
 have i1:ixsV 27 (.slice (some ⟨H2.length+1,0,none⟩) x.ps.length 27) (I64 i)=some (.pointer (some ⟨H2.length+1,i*27,none⟩)):=by
  rw[ixsV_some,if_pos (by omega),Int.toNat_natCast,Nat.zero_add]
 have i2:ixsV 27 (.slice (some ⟨H2.length+1,0,none⟩) x.ps.length 27) (I64 k)=some (.pointer (some ⟨H2.length+1,k*27,none⟩)):=by
  rw[ixsV_some,if_pos (by omega),Int.toNat_natCast,Nat.zero_add]
 have sf1:=splice_flat (k:=.u8) l1 w27 (j:=i) hi
 have fl:=flat_len w27
 have g16:=pre_get P6 g1
 have g106:=pre_get P6 g10
 have n3:=get_lt gB
 ((try simp (maxSteps:=3000000) (dsimp:=false) (disch:=first|omega|simp only[lnx];omega) only[↓ypre,ypost,↓reduceIte,reduceEqDiff,reduceAdd,reduceSub,reduceLeDiff,zz0,ynew,f1,f2,f3,f4,f5,f10,f19,aggV,cellsL_cel,cel_all,cel_len,l1,i1,wr_of gB6,sf1,fl,rdn_of kb,b27,tb,rd1_of g16]);try simp only[yback])
 refine⟨by omega,?_⟩
 generalize hK7:AH.put K6 _ _=K7
 have ne1:H2.length+1≠h.length:=by omega
 have ne10:H2.length+1≠H1.length:=by omega
 have L6:=pre_len P6
 have kp:∀ m c,m≠H2.length+1→AH.get K6 m=some c→AH.get K7 m=some c:=fun m c hm g=>by rw[←hK7,get_put_ne (Ne.symm hm)];exact g
 have gB7:K7.get (H2.length+1)=some ⟨cel .u8 (x.ps.set i (flOne x.p a b r s)).flatten,138,false,false⟩:=by rw[←hK7];exact get_put_same (get_lt gB6)
 have g17:=kp _ _ (by omega) g16
 have g107:=kp _ _ (by omega) g106
 have ka7:=kp _ _ (by omega) ka
 have kb7:=kp _ _ (by omega) kb
 have P7:H2<+:K7:=by rw[←hK7];exact pre_put (p3.trans P6) (by omega)
 refine s_l03Factor (q:=b) byk gh fun K8 q8=>⟨q8,?_⟩
 have ka8:=pre_get q8 ka7
 ((try simp (maxSteps:=3000000) (dsimp:=false) (disch:=first|omega|simp only[lnx];omega) only[↓ypre,ypost,↓reduceIte,reduceEqDiff,reduceAdd,reduceSub,reduceLeDiff,zz0,ynew,f1,f2,f3,f4,f5,f10,f19,rdn_of ka8,cel_len,a27,ta]);try simp only[yback])
 refine s_l03Factor (q:=a) byi gh fun K9 q9=>⟨q9,?_⟩
 have wn:IntKind.i64.wrap (0-s) = -s:=by rw[wrap64_in (by omega) (by omega)];omega
 ((try simp (maxSteps:=3000000) (dsimp:=false) (disch:=first|omega|simp only[lnx];omega) only[↓ypre,ypost,↓reduceIte,reduceEqDiff,reduceAdd,reduceSub,reduceLeDiff,zz0,ynew,f1,f2,f3,f4,f5,f10,f19,wn]);try simp only[yback])
 have tgb:=seg_by byk gh
 have tga:=seg_by byi gh
 refine s_l01Add (k:=-s) hp tgb tga (by omega) fun K10 q10=>⟨q10,?_⟩
 ((try simp (maxSteps:=3000000) (dsimp:=false) (disch:=first|omega|simp only[lnx];omega) only[↓ypre,ypost,↓reduceIte,reduceEqDiff,reduceAdd,reduceSub,reduceLeDiff,zz0,ynew,f1,f2,f3,f4,f5,f10,f19]);try simp only[yback])
 have ad2:=addF_by (k:=-s) (b:=seg a (flH' r)) (i:=9) hp tgb (Nat.le_refl _)
 refine s_l03With byk ad2 gh fun K11 q11=>?_
 have P11:K7<+:K11:=q8.trans (q9.trans (q10.trans q11))
 have gB11:=pre_get P11 gB7
 have g111:=pre_get P11 g17
 have g1011:=pre_get P11 g107
 have by2:By 27 (flTwo x.p a b r s):=wth_by byk ad2 gh
 have l2:=by2.1
 have e2:wth b (flH' r) (addF x.p (seg b (flH' r)) (seg a (flH' r)) (-s) 9)=flTwo x.p a b r s:=rfl
 rw[e2]
 have w27':Wid 27 (x.ps.set i (flOne x.p a b r s)):=wid_set w27 l1
 have lS:(x.ps.set i (flOne x.p a b r s)).length=x.ps.length:=List.length_set
 have sf2:=splice_flat (k:=.u8) l2 w27' (j:=k) (by rw[lS];exact hk)
 have fl':=flat_len w27'
 rw[lS] at fl'
 ((try simp (maxSteps:=3000000) (dsimp:=false) (disch:=first|omega|simp only[lnx];omega) only[↓ypre,ypost,↓reduceIte,reduceEqDiff,reduceAdd,reduceSub,reduceLeDiff,zz0,ynew,f1,f2,f3,f4,f5,f10,f19,aggV,cellsL_cel,cel_all,cel_len,l2,i2,wr_of gB11,sf2,fl',rdn_of g111]);try simp only[yback])
 refine⟨by omega,?_⟩
 generalize hK12:AH.put K11 _ _=K12
 generalize hL:(x.ps.set i (flOne x.p a b r s)).set k (flTwo x.p a b r s)=L at *
 have lL:L.length=x.ps.length:=by rw[←hL,List.length_set,lS]
 have gB12:AH.get K12 (H2.length+1)=some ⟨cel .u8 L.flatten,138,false,false⟩:=by rw[←hK12];exact get_put_same (get_lt gB11)
 have bL:Byt 27 L:=by rw[←hL];exact byt_setq (byt_setq hv.2 by1) by2
 have wL:Wid 27 L:=by rw[←hL];exact wid_set w27' l2
 have pr:Prods K12 (.slice (some ⟨H2.length+1,0,none⟩) x.ps.length 27) L:=⟨by rw[←lL];exact (blk_kN (lo:=0) gB12 wL (Nat.zero_le _)).now,bL⟩
 have P12:H2<+:K12:=by rw[←hK12];exact pre_put (P7.trans P11) (by omega)
 have g1012:=(show AH.get K12 H1.length=AH.get K11 H1.length from by rw[←hK12];exact get_put_ne (by omega)).trans g1011
 refine s_l03Told (x:=x) v1 pr (by omega) fun w' H13 p13 hw'=>?_
 have g13:=pre_get p13 g1012
 have l13:=get_lt g13
 have P13:=P12.trans p13
 ((try simp (maxSteps:=3000000) (dsimp:=false) (disch:=first|omega|simp only[lnx];omega) only[↓ypre,ypost,↓reduceIte,reduceEqDiff,reduceAdd,reduceSub,reduceLeDiff,zz0,ynew,f1,f2,f3,f4,f5,f10,f19,schV,hw'.now.one,wr_of g13,splice_eq,rdn_put_same]);try simp only[yback])
 have q13:=pre_len P12
 exact hQ w' _ (pre_put ((p1.trans p2).trans P13) (by omega)) (KN.mono (KN.put hw' (by omega)) (by omega))
def numOk (n:Nat) (a:Int):Bool:=decide (0≤a∧a≤(n:Int)-1)
theorem s_l03Numbers {x:Sch} {v w:Value} {ns:List Int} {h:AH} {Q:Value→AH→Prop} (hv:Prods h v x.ps) (hl:SmallX x.ps) (hw:Ints h w ns) (hn:ns.length≤10) (hQ:∀ h',h<+:h'→Q (.bool (ns.all (numOk x.ps.length))) h'):WF S 197 [schV x v,w] h Q:=by
 refine WF_fn (fn:=c197) rfl rfl ?_
 dsimp only[c197,oO,oM,oS,oG,oK,oE,oL,oF,oX,oN]
 have v1:isOne v=true:=hv.one
 unfold SmallX at hl
 ((try simp (maxSteps:=3000000) (dsimp:=false) (disch:=first|omega|simp only[lnx];omega) only[↓ypre,ypost,↓reduceIte,reduceEqDiff,reduceAdd,reduceSub,reduceLeDiff,zz0,ynew,schV,v1]);try simp only[yback])
 generalize hH1:AH.new h _=H1
 obtain⟨hb1,p1,n1⟩:=new_facts hH1
 have wl:=hw.len
 have vl:=hv.1.len
 refine WC_loop_inv (fun m f K1=>∃ (i:Nat),m=ns.length-i∧i≤ns.length∧f 1=w∧f 2=.pointer (some ⟨h.length,0,none⟩)∧f 5=I64 i∧K1=H1∧((∀ j,j<i→numOk x.ps.length (ns.getD j 0)=true))) ?_ (ns.length-0) _ _ ⟨0,rfl,by omega,(by first|rfl|simp[upd_apply]),(by first|rfl|simp[upd_apply]),(by first|rfl|simp[upd_apply]),rfl,(fun _ h=>absurd h (Nat.not_lt_zero _))⟩
 rintro m f K1 ⟨i,rfl,hi,f1,f2,f5,rfl,al⟩
 by_cases hlt:(i:Int)<ns.length
 ·have hi:i<ns.length:=by omega
  obtain⟨nn,off,ix,rd⟩:=(hw.pre p1).cell hi
  have ix:=ix .i64
  ((try simp (maxSteps:=3000000) (dsimp:=false) (disch:=first|omega|simp only[lnx];omega) only[↓ypre,ypost,↓reduceIte,reduceEqDiff,reduceAdd,reduceSub,reduceLeDiff,zz0,ynew,f1,f2,f5,wl,decide_eq_true hlt,ix,rd,rd1_of hb1,vl,wrap64_in]);try simp only[yback])
  refine s_l01In ?_
  cases c:numOk x.ps.length (ns.getD i 0) with
  | false=>
   have c':decide (0≤ns.getD i 0∧ns.getD i 0≤(x.ps.length:Int)-1)=false:=c
   ((try simp (maxSteps:=3000000) (dsimp:=false) (disch:=first|omega|simp only[lnx];omega) only[↓ypre,ypost,↓reduceIte,reduceEqDiff,reduceAdd,reduceSub,reduceLeDiff,zz0,ynew,f1,f2,f5,c',wrap64_in]);try simp only[yback])
   have e:ns.all (numOk x.ps.length)=false:=by
    rw[List.all_eq_false]
    refine⟨ns[i],List.getElem_mem hi,?_⟩
    rw[List.getD_eq_getElem?_getD,List.getElem?_eq_getElem hi,Option.getD_some] at c
    rw[c]
    decide
   rw[e] at hQ
   exact hQ _ p1
  | true=>
   have c':decide (0≤ns.getD i 0∧ns.getD i 0≤(x.ps.length:Int)-1)=true:=c
   ((try simp (maxSteps:=3000000) (dsimp:=false) (disch:=first|omega|simp only[lnx];omega) only[↓ypre,ypost,↓reduceIte,reduceEqDiff,reduceAdd,reduceSub,reduceLeDiff,zz0,ynew,f1,f2,f5,c',wrap64_in]);try simp only[yback])
   refine InvQ_go (ns.length-(i+1)) (by omega) ⟨(i+1),rfl,by omega,(by first|rfl|exact f1|(simp only[upd_apply];rfl)|(show I64 _=_;congr 1;omega)),(by first|rfl|exact f2|(simp only[upd_apply];rfl)|(show I64 _=_;congr 1;omega)),(by first|rfl|exact f5|(simp only[upd_apply];rfl)|(show I64 _=_;congr 1;omega)),rfl,(fun j hj=>by rcases Nat.lt_succ_iff_lt_or_eq.1 hj with h1|rfl;exact al j h1;exact c)⟩
 ·((try simp (maxSteps:=3000000) (dsimp:=false) (disch:=first|omega|simp only[lnx];omega) only[↓ypre,ypost,↓reduceIte,reduceEqDiff,reduceAdd,reduceSub,reduceLeDiff,zz0,ynew,f1,f2,f5,wl,decide_eq_false hlt]);try simp only[yback])
  have e:ns.all (numOk x.ps.length)=true:=by
   rw[List.all_eq_true]
   intro a ha
   obtain⟨j,hj,rfl⟩:=List.getElem_of_mem ha
   have:=al j (by omega)
   rwa [List.getD_eq_getElem?_getD,List.getElem?_eq_getElem hj,Option.getD_some] at this
  rw[e] at hQ
  exact hQ _ p1
def flF (L:List (List Int)) (i k:Nat):Nat→List (List Int)
 | 0=>[]
 | r+1=>flF L i k r++(if seg (L.getD i []) r=seg (L.getD k []) r then [[(i:Int),k,r]] else [])
def flK (L:List (List Int)) (i:Nat):Nat→List (List Int)
 | 0=>[]
 | k+1=>flK L i k++(if i=k then [] else flF L i k 3)
def flI (L:List (List Int)):Nat→List (List Int)
 | 0=>[]
 | i+1=>flI L i++flK L i L.length
end Go.Proofs.Ytapafdpnmakekaa.X

set_option linter.unusedVariables false
set_option linter.unusedSimpArgs false
set_option maxRecDepth 20000
set_option maxHeartbeats 4000000
namespace Go.Proofs.Ytapafdpnmakekaa.X
open Go Go.RowKit
end Go.Proofs.Ytapafdpnmakekaa.X

set_option linter.unusedVariables false
set_option linter.unusedSimpArgs false
set_option maxRecDepth 20000
set_option maxHeartbeats 4000000
namespace Go.Proofs.Ytapafdpnmakekaa.X
theorem Cg.tmod (x p:Int):Cg p (x.tmod p) x:=(show Cg p x (x.tmod p) from tmod_dvd x p).symm
theorem seg_at {q:List Int} {i j:Nat} (hj:j<9):(seg q i).getD j 0=q.getD (i*9+j) 0:=by
 unfold seg
 rw[cut_get hj]
def wn (m k a b c:Nat):Int:=if a%m=b / k∧a / m=c / k∧b%k=c%k then 1 else 0
section
variable {x y:Sch} {L R:List (List Int)} {n m k:Nat}
end
end Go.Proofs.Ytapafdpnmakekaa.X

set_option linter.unusedVariables false
set_option linter.unusedSimpArgs false
set_option maxRecDepth 20000
set_option maxHeartbeats 4000000
namespace Go.Proofs.Ytapafdpnmakekaa.X
open Go Go.RowKit
section
variable (x:Sch) (J K:Nat)
end
theorem RowD.pre {lo kb:Nat} {H H':AH} {fu:Bool} {rows:List (List Int)} {B:Nat→Nat} {cs:List Value} (r:RowD lo H kb fu rows B cs) (p:H<+:H'):RowD lo H' kb fu rows B cs:=
 ⟨pre_get p r.get,r.len,r.low,fun i hi=>by
  obtain⟨h1,h2,⟨f,h3⟩,h4⟩:=r.row i hi
  exact⟨h1,h2,⟨f,pre_get p h3⟩,h4⟩,r.inc⟩
end Go.Proofs.Ytapafdpnmakekaa.X
