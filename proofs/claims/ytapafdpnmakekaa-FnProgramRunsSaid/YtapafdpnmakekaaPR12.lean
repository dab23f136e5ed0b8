/- Texts of one claim, put together by merge.py: XD8, XQ1, XR1, XQ2, XF34, XF35, XR2, XF11, XF12, XF13, XF14, XF15, XQ3, XD9, XDA, XDB, XDC, XDF, XDG, XDI, XDJ, XDK, XDL, XDM. -/
import Derived.Test.YtapafdpnmakekaaPR11
import Derived.Test.YtapafdpnmakekaaPR8
import Derived.Test.YtapafdpnmakekaaPR9
set_option linter.unusedVariables false
set_option linter.unusedSimpArgs false
set_option maxRecDepth 20000
set_option maxHeartbeats 4000000
namespace Go.Proofs.Ytapafdpnmakekaa.X
open Go Go.RowKit
open Nat (reduceEqDiff reduceAdd reduceSub reduceLeDiff)
theorem By.nn {w:Nat} {q:List Int} (h:By w q):∀ j,j<w→0≤q.getD j 0:=fun j hj=>(h.2 j hj).1
structure DL (x:Sch) (L:List (List Int)):Prop where
 w:Wid 27 L
 by':∀ q∈L,By 27 q
 ok:∀ q∈L,okProd x q=true
theorem DL.nil {x:Sch}:DL x []:=⟨fun q h=>by simp at h,fun q h=>by simp at h,fun q h=>by simp at h⟩
theorem DL.snoc {x:Sch} {L:List (List Int)} {q:List Int} (d:DL x L) (hb:By 27 q) (ho:okProd x q=true):DL x (L++[q]):=by
 refine⟨fun r h=>?_,fun r h=>?_,fun r h=>?_⟩<;>rcases List.mem_append.1 h with h|h
 ·exact d.w r h
 ·rw[List.mem_singleton.1 h];exact hb.1
 ·exact d.by' r h
 ·rw[List.mem_singleton.1 h];exact hb
 ·exact d.ok r h
 ·rw[List.mem_singleton.1 h];exact ho
theorem DL.byt {x:Sch} {L:List (List Int)} (d:DL x L):Byt 27 L:=fun i hi j hj=>by
 have hm:L.getD i []∈L:=by
  rw[List.getD_eq_getElem?_getD,List.getElem?_eq_getElem hi]
  exact List.getElem_mem _
 exact (d.by' _ hm).2 j hj
theorem DL.isX {x:Sch} (d:DL x x.ps) (hs:szX x=true) (hl:x.ps.length≤30):isX x=true:=by
 unfold X.isX
 rw[hs,decide_eq_true hl]
 simp only[Bool.true_and]
 exact List.all_eq_true.2 d.ok
def SchD (lo:Nat) (h:AH) (v:Value) (x:Sch):Prop:=KN lo h fun h'=>Prods h' v x.ps
theorem zrep27:zrep 1 [.int .u8 0,.int .u8 0,.int .u8 0,.int .u8 0,.int .u8 0,.int .u8 0,.int .u8 0,.int .u8 0,.int .u8 0,.int .u8 0,.int .u8 0,.int .u8 0,.int .u8 0,.int .u8 0,.int .u8 0,.int .u8 0,.int .u8 0,.int .u8 0,.int .u8 0,.int .u8 0,.int .u8 0,.int .u8 0,.int .u8 0,.int .u8 0,.int .u8 0,.int .u8 0,.int .u8 0]=cel .u8 (List.replicate 27 0):=rfl
theorem sp27z {q:List Int} (hq:q.length=27):splice (cel .u8 (List.replicate 27 0)) 0 (cel .u8 q)=cel .u8 q:=splice_27 hq
theorem s_l01Draw {h0 h:AH} {n:Nat} {Q:Value→AH→Prop} (s:Src h0 h n)
  (hQ:∀ x v h',Kp n h h'→Src h0 h' n→SchD h.length h' v x→X.isX x=true→Q (schV x v) h'):WF S 266 [srcP n] h Q:=by
 refine WF_fn (fn:=c266) rfl rfl ?_
 dsimp only[c266,oO,oM,oS,oG,oK,oE,oL,oF,oX,oN]
 have lt:=s.lt
 have l0:=pre_len s.p
 ((try simp (maxSteps:=3000000) (dsimp:=false) (disch:=first|omega|simp only[lnx];omega) only[↓ypre,ypost,↓reduceIte,reduceEqDiff,reduceAdd,reduceSub,reduceLeDiff,zz0,ynew]);try simp only[yback])
 generalize hH1:AH.new h _=H1
 obtain⟨hb1,p1,n1⟩:=new_facts hH1
 refine s_l01DrawSizes (s.kp p1) fun p a b c nb H2 k2 s2 hnb gnb hp ha hb hc=>?_
 have g1:=k2.get (by omega) hb1
 ((try simp (maxSteps:=3000000) (dsimp:=false) (disch:=first|omega|simp only[lnx];omega) only[↓ypre,ypost,↓reduceIte,reduceEqDiff,reduceAdd,reduceSub,reduceLeDiff,zz0,ynew,schV,one_slice]);try simp only[yback])
 generalize hH3:AH.new H2 _=H3
 obtain⟨hb3,p3,n3⟩:=new_facts hH3
 have k3:Kp n h H3:=(Kp.of p1).trans (k2.trans (Kp.of p3))
 have l2:=k2.len
 have szx:szX ⟨p,a,b,c,[]⟩=true:=by
  unfold szX
  rw[isP_of hp,sz_of ha,sz_of hb,sz_of hc]
  rfl
 have z:=szX_facts szx
 have zp:=z.p
 ((try simp (maxSteps:=3000000) (dsimp:=false) (disch:=first|omega|simp only[lnx];omega) only[↓ypre,ypost,↓reduceIte,reduceEqDiff,reduceAdd,reduceSub,reduceLeDiff,zz0,ynew]);try simp only[yback])
 refine s_l01Next (s2.kp p3) fun r H4 k4 l4 s4 hr _=>?_
 have g1:=k4.get (by omega) (pre_get p3 g1)
 have g3:=k4.get (by omega) hb3
 have gn:=k4.get (by omega) (pre_get p3 gnb)
 have fin:∀ (x:Sch) (v:Value) (h':AH),Kp n h h'→Src h0 h' n→SchD h.length (h'.put h.length ⟨[I64 x.p,I64 x.n,I64 x.m,I64 x.k,v],26,false,true⟩) v x→X.isX x=true →
   Q (schV x v) (h'.put h.length ⟨[I64 x.p,I64 x.n,I64 x.m,I64 x.k,v],26,false,true⟩):=fun x v h' kk ss sd hx=>
  hQ x v _ (kk.putb (Nat.le_refl _)) (ss.putb (by omega) (by omega)) sd hx
 have k4':=k3.trans k4
 by_cases r0:r=0
 ·((try simp (maxSteps:=3000000) (dsimp:=false) (disch:=first|omega|simp only[lnx];omega) only[↓ypre,ypost,↓reduceIte,reduceEqDiff,reduceAdd,reduceSub,reduceLeDiff,zz0,ynew,decide_eq_true r0,rd1_of g3]);try simp only[yback])
  refine s_l01Strassen zp fun m H5 p5 hm gm=>?_
  have g1:=pre_get p5 g1
  have lg:=get_lt g1
  ((try simp (maxSteps:=3000000) (dsimp:=false) (disch:=first|omega|simp only[lnx];omega) only[↓ypre,ypost,↓reduceIte,reduceEqDiff,reduceAdd,reduceSub,reduceLeDiff,zz0,ynew,schV,wr_of g1,splice_eq,rdn_put_same]);try simp only[yback])
  have l5:=pre_len p5
  exact fin ⟨p,2,2,2,stra (p-1)⟩ _ H5 (k4'.trans (Kp.of p5)) (s4.kp p5) (fun h' d d'=>⟨blk_kN (L:=stra (p-1)) (by rw[get_put_ne (by omega)];exact gm) stra_wid (by omega) h' d d',
   byt_isX (x:=⟨p,2,2,2,stra (p-1)⟩) (stra_isX hp) stra_wid (fun q hq j hj=>by
    simp only[stra,List.mem_cons,List.not_mem_nil,or_false] at hq
    have:∀ l:List Int,(∀ x∈l,0≤x)→0≤l.getD j 0:=fun l hl=>by
     by_cases hj:j<l.length
     ·rw[List.getD_eq_getElem?_getD,List.getElem?_eq_getElem hj]
      exact hl _ (List.getElem_mem _)
     ·rw[List.getD_eq_getElem?_getD,List.getElem?_eq_none (by omega)]
      exact Int.le_refl _
    refine this q ?_
    rcases hq with rfl|rfl|rfl|rfl|rfl|rfl|rfl<;>intro x hx<;>simp only[List.mem_cons,List.not_mem_nil,or_false] at hx<;>omega)⟩) (stra_isX hp)
 by_cases r1:r=1
 ·((try simp (maxSteps:=3000000) (dsimp:=false) (disch:=first|omega|simp only[lnx];omega) only[↓ypre,ypost,↓reduceIte,reduceEqDiff,reduceAdd,reduceSub,reduceLeDiff,zz0,ynew,decide_eq_false r0,decide_eq_true r1,rd1_of g3]);try simp only[yback])
  refine s_l01Standard (szX_facts (x:=stdX p a b c) szx) fun v H5 p5 o5=>?_
  have g1:=pre_get p5 g1
  have lg:=get_lt g1
  have l5:=pre_len p5
  ((try simp (maxSteps:=3000000) (dsimp:=false) (disch:=first|omega|simp only[lnx];omega) only[↓ypre,ypost,↓reduceIte,reduceEqDiff,reduceAdd,reduceSub,reduceLeDiff,zz0,ynew,schV,o5.rd.one,wr_of g1,splice_eq,rdn_put_same]);try simp only[yback])
  have o6:InX H4.length H5.length (AH.put H5 h.length ⟨[I64 p,I64 a,I64 b,I64 c,v],26,false,true⟩) v (stdX p a b c).ps:=⟨o5.1.putb (by omega),o5.2⟩
  exact fin (stdX p a b c) v H5 (k4'.trans (Kp.of p5)) (s4.kp p5) (fun h' d d'=>⟨o6.1.kN (by omega) h' d d',o6.2⟩) (std_isX hp ha hb hc)
 ((try simp (maxSteps:=3000000) (dsimp:=false) (disch:=first|omega|simp only[lnx];omega) only[↓ypre,ypost,↓reduceIte,reduceEqDiff,reduceAdd,reduceSub,reduceLeDiff,zz0,ynew,decide_eq_false r0,decide_eq_false r1]);try simp only[yback])
 refine s_l01Next s4 fun N H5 k5 l5 s5 hN _=>?_
 have hN:=hN (by omega)
 have g1:=k5.get (by omega) g1
 have g3:=k5.get (by omega) g3
 have gn:=k5.get (by omega) gn
 obtain⟨M,rfl⟩:∃ M:Nat,N=M:=⟨N.toNat,by omega⟩
 ((try simp (maxSteps:=3000000) (dsimp:=false) (disch:=first|omega|simp only[lnx];omega) only[↓ypre,ypost,↓reduceIte,reduceEqDiff,reduceAdd,reduceSub,reduceLeDiff,zz0,ynew]);try simp only[yback])
 refine WC_loop_inv (fun m f K1=>∃ (i:Nat) (L:List (List Int)) (b2:Nat) (fu:Bool),m=M-i∧i≤M∧f 0=srcP n∧f 2=.pointer (some ⟨h.length,0,none⟩)∧f 3=.pointer (some ⟨H2.length,0,none⟩)∧f 4=I64 ((M-i:Nat):Int)∧(Kp n h K1)∧(Src h0 K1 n)∧(L.length=i)∧(DL ⟨p,a,b,c,[]⟩ L)∧(h.length<b2∧b2≠H2.length∧b2≠n)∧(K1.get h.length=some ⟨[.int .i64 0,.int .i64 0,.int .i64 0,.int .i64 0,.slice none 0 0],26,false,true⟩)∧(K1.get H2.length=some ⟨[I64 p,I64 a,I64 b,I64 c,.slice (some ⟨b2,0,none⟩) L.length 27],26,false,true⟩)∧(K1.get b2=some ⟨cel .u8 L.flatten,138,false,fu⟩)) ?_ (M-0) _ _ ⟨0,[],nb,true,rfl,by omega,(by first|rfl|simp[upd_apply]),(by first|rfl|simp[upd_apply]),(by first|rfl|simp[upd_apply]),(by first|rfl|simp[upd_apply]),k4'.trans k5,s5,rfl,DL.nil,(by have:=get_lt gnb;omega),g1,g3,gn⟩
 rintro m f K1 ⟨i,L,b2,fu,rfl,hi,f0,f2,f3,f4,kk,ss,li,dl,hb2,q1,q3,qn⟩
 by_cases hlt:(0:Int)<((M-i:Nat):Int)
 ·((try simp (maxSteps:=3000000) (dsimp:=false) (disch:=first|omega|simp only[lnx];omega) only[↓ypre,ypost,↓reduceIte,reduceEqDiff,reduceAdd,reduceSub,reduceLeDiff,zz0,ynew,f0,f2,f3,f4,decide_eq_true hlt,rd1_of q3,rdn_of q3,List.length_cons,List.length_nil,List.drop_zero,List.take_succ_cons,List.take_nil]);try simp only[yback])
  refine⟨by omega,?_⟩
  refine s_l01DrawOf ss (x:=⟨p,a,b,c,[]⟩) z rfl fun q H6 k6 s6 hq oq=>?_
  have q1:=k6.get (by omega) q1
  have q3:=k6.get (by omega) q3
  have qn:=k6.get (by omega) qn
  have lq6:=get_lt q3
  have ln6:=s6.lt
  have lh6:=get_lt q1
  refine⟨⟨n,rfl,k6⟩,?_⟩
  ((try simp (maxSteps:=3000000) (dsimp:=false) (disch:=first|omega|simp only[lnx];omega) only[↓ypre,ypost,↓reduceIte,reduceEqDiff,reduceAdd,reduceSub,reduceLeDiff,zz0,ynew,f0,f2,f3,f4,aggV,zrep27,hq.1,cel_len,sp27z,List.append_nil,cel_all]);try simp only[yback])
  refine app_kp (bytes:=27) qn dl.w hq.1 (by omega) (by omega) fun H7 l7 k7 q7 w7=>?_
  have q1:=k7.get (by omega) q1
  have q3:=k7.get (by omega) q3
  ((try simp (maxSteps:=3000000) (dsimp:=false) (disch:=first|omega|simp only[lnx];omega) only[↓ypre,ypost,↓reduceIte,reduceEqDiff,reduceAdd,reduceSub,reduceLeDiff,zz0,ynew,f0,f2,f3,f4,wr_of q3,splice_eq,wrap64_in]);try simp only[yback])
  have lt6:=s6.lt
  have lq3:=get_lt q3
  refine InvQ_go (M-(i+1)) (by omega) ⟨(i+1),(L++[q]),(H6.length+1),false,rfl,by omega,(by first|rfl|exact f0|(simp only[upd_apply];rfl)|(show I64 _=_;congr 1;omega)),(by first|rfl|exact f2|(simp only[upd_apply];rfl)|(show I64 _=_;congr 1;omega)),(by first|rfl|exact f3|(simp only[upd_apply];rfl)|(show I64 _=_;congr 1;omega)),(by first|rfl|exact f4|(simp only[upd_apply];rfl)|(show I64 _=_;congr 1;omega)),(Kp.putb (m:=H2.length) ((kk.trans k6).over k7 (by omega)) (by omega)),(Src.putb (m:=H2.length) (s6.over k7 (by omega) (by omega)) (by omega) (by omega)),(by rw[List.length_append,li];rfl),(dl.snoc hq oq),(by have:=k6.len;have:=kk.len;omega),(by rw[get_put_ne (by omega)];exact q1),(by rw[get_put_same (by omega),List.length_append];rfl),(by rw[get_put_ne (by omega)];exact q7)⟩
 ·((try simp (maxSteps:=3000000) (dsimp:=false) (disch:=first|omega|simp only[lnx];omega) only[↓ypre,ypost,↓reduceIte,reduceEqDiff,reduceAdd,reduceSub,reduceLeDiff,zz0,ynew,f0,f2,f3,f4,decide_eq_false hlt]);try simp only[yback])
  have lg:=get_lt q1
  ((try simp (maxSteps:=3000000) (dsimp:=false) (disch:=first|omega|simp only[lnx];omega) only[↓ypre,ypost,↓reduceIte,reduceEqDiff,reduceAdd,reduceSub,reduceLeDiff,zz0,ynew,f0,f2,f3,f4,rdn_of q3,wr_of q1,splice_eq,rdn_put_same]);try simp only[yback])
  exact fin ⟨p,a,b,c,L⟩ _ K1 kk ss (fun h' d d'=>⟨blk_kN (L:=L) (by rw[get_put_ne (by omega)];exact qn) dl.w (by omega) h' d d',dl.byt⟩) (DL.isX (x:=⟨p,a,b,c,L⟩) ⟨dl.w,dl.by',dl.ok⟩ szx (by show L.length≤30;omega))
end Go.Proofs.Ytapafdpnmakekaa.X

set_option linter.unusedVariables false
set_option linter.unusedSimpArgs false
set_option maxRecDepth 20000
set_option maxHeartbeats 4000000
namespace Go.Proofs.Ytapafdpnmakekaa.X
def sm:Nat→(Nat→Int)→Int
 | 0,_=>0
 | n+1,f=>sm n f+f n
theorem sm_ext {f g:Nat→Int}:∀ {n:Nat},(∀ i,i<n→f i=g i)→sm n f=sm n g
 | 0,_=>rfl
 | n+1,h=>by rw[sm,sm,sm_ext (fun i hi=>h i (by omega)),h n (by omega)]
theorem sm_zero {n:Nat}:sm n (fun _=>0)=0:=by
 induction n with
 | zero=>rfl
 | succ n ih=>rw[sm,ih];rfl
theorem sm_zero' {f:Nat→Int} {n:Nat} (h:∀ i,i<n→f i=0):sm n f=0:=by rw[sm_ext h,sm_zero]
theorem sm_add {f g:Nat→Int} {n:Nat}:sm n (fun i=>f i+g i)=sm n f+sm n g:=by
 induction n with
 | zero=>rfl
 | succ n ih=>simp only[sm,ih];omega
theorem sm_mul {f:Nat→Int} {c:Int} {n:Nat}:sm n (fun i=>c*f i)=c*sm n f:=by
 induction n with
 | zero=>simp[sm]
 | succ n ih=>simp only[sm,ih,Int.mul_add]
theorem sm_mulr {f:Nat→Int} {c:Int} {n:Nat}:sm n (fun i=>f i*c)=sm n f*c:=by
 induction n with
 | zero=>simp[sm]
 | succ n ih=>simp only[sm,ih,Int.add_mul]
theorem sm_comm {f:Nat→Nat→Int} {n m:Nat}:sm n (fun i=>sm m (fun j=>f i j))=sm m (fun j=>sm n (fun i=>f i j)):=by
 induction n with
 | zero=>simp only[sm];exact sm_zero.symm
 | succ n ih=>simp only[sm,ih];rw[←sm_add]
theorem sm_left {f:Nat→Int} {n:Nat}:sm (n+1) f=f 0+sm n (fun i=>f (i+1)):=by
 induction n with
 | zero=>simp[sm]
 | succ n ih=>rw[sm,ih,sm];omega
theorem sm_split {f:Nat→Int} {n m:Nat}:sm (n+m) f=sm n f+sm m (fun i=>f (n+i)):=by
 induction m with
 | zero=>simp[sm]
 | succ m ih=>rw[←Nat.add_assoc,sm,ih,sm];omega
theorem sm_rows {f:Nat→Int} {n m:Nat}:sm (n*m) f=sm n (fun a=>sm m (fun b=>f (a*m+b))):=by
 induction n with
 | zero=>simp[sm]
 | succ n ih=>rw[Nat.succ_mul,sm_split,ih,sm]
theorem sm_delta {f:Nat→Int} {n a:Nat} (h:a<n):sm n (fun i=>if i=a then f i else 0)=f a:=by
 induction n with
 | zero=>omega
 | succ n ih=>
  rw[sm]
  by_cases e:a=n
  ·subst e
   rw[if_pos rfl,sm_zero' (fun i hi=>if_neg (by omega))]
   omega
  ·rw[ih (by omega),if_neg (by omega)]
   omega
def Cg (p a b:Int):Prop:=p∣a-b
theorem Cg.rfl' {p a:Int}:Cg p a a:=⟨0,by omega⟩
theorem Cg.of {p a b:Int} (h:a=b):Cg p a b:=by subst h;exact .rfl'
theorem Cg.symm {p a b:Int} (h:Cg p a b):Cg p b a:=by
 obtain⟨k,h⟩:=h
 exact⟨-k,by rw[Int.mul_neg];omega⟩
theorem Cg.trans {p a b c:Int} (h:Cg p a b) (g:Cg p b c):Cg p a c:=by
 obtain⟨k,h⟩:=h
 obtain⟨l,g⟩:=g
 exact⟨k+l,by rw[Int.mul_add];omega⟩
theorem Cg.add {p a b c d:Int} (h:Cg p a b) (g:Cg p c d):Cg p (a+c) (b+d):=by
 obtain⟨k,h⟩:=h
 obtain⟨l,g⟩:=g
 exact⟨k+l,by rw[Int.mul_add];omega⟩
theorem Cg.mul {p a b c d:Int} (h:Cg p a b) (g:Cg p c d):Cg p (a*c) (b*d):=by
 obtain⟨k,h⟩:=h
 obtain⟨l,g⟩:=g
 exact⟨k*c+b*l,by grind⟩
theorem Cg.sm {p:Int} {f g:Nat→Int}:∀ {n:Nat},(∀ i,i<n→Cg p (f i) (g i))→Cg p (sm n f) (sm n g)
 | 0,_=>.rfl'
 | n+1,h=>(Cg.sm fun i hi=>h i (by omega)).add (h n (by omega))
def Fld (p:Int):Prop:=2≤p∧∀ x,¬ p∣x→∃ w,Cg p (w*x) 1
def dl (a b:Nat):Int:=if a=b then 1 else 0
theorem dim_le {p:Int} (hp:Fld p):∀ (r s:Nat) (U V:Nat→Nat→Int),(∀ i j,i<s→j<s→Cg p (sm r fun k=>U i k*V k j) (dl i j))→s≤r
 | 0,0,U,V,h=>Nat.le_refl _
 | 0,s+1,U,V,h=>by
  have:=h 0 0 (by omega) (by omega)
  obtain⟨k,hk⟩:=this
  simp only[sm,dl,if_true] at hk
  have:p∣1:=⟨-k,by rw[Int.mul_neg];omega⟩
  have:=Int.le_of_dvd (by omega) this
  have:=hp.1
  omega
 | r+1,0,U,V,h=>by omega
 | r+1,s+1,U,V,h=>by
  -- a place where the last row is not 0
  have h1:∃ k,k<r+1∧¬ p∣U s k:=by
   refine Classical.byContradiction fun hn=>?_
   have hz:∀ k,k<r+1→p∣U s k:=fun k hk=>Classical.byContradiction fun hd=>hn ⟨k,hk,hd⟩
   have h2:=h s s (by omega) (by omega)
   have h3:Cg p (sm (r+1) fun k=>U s k*V k s) (sm (r+1) fun _=>0):=Cg.sm fun k hk=>by
    obtain⟨q,hq⟩:=hz k hk
    exact⟨q*V k s,by rw[hq,←Int.mul_assoc];omega⟩
   rw[sm_zero] at h3
   have h4:=h3.symm.trans h2
   obtain⟨k,hk⟩:=h4
   simp only[dl,if_true] at hk
   have h5:p∣1:=⟨-k,by rw[Int.mul_neg];omega⟩
   have:=Int.le_of_dvd (by omega) h5
   have:=hp.1
   omega
  obtain⟨k0,hk0,hd⟩:=h1
  obtain⟨w,hw⟩:=hp.2 _ hd
  -- the places without k0
  let nx:Nat→Nat:=fun k=>if k=k0 then r else k
  have hsum:∀ (f:Nat→Int),sm (r+1) f=sm r (fun k=>f (nx k))+f k0:=fun f=>by
   by_cases e:k0=r
   ·subst e
    rw[sm,sm_ext (f:=fun k=>f (nx k)) (g:=f) fun i hi=>by show f (if i=k0 then k0 else i)=f i;rw[if_neg (by omega)]]
   ·have e1:sm r (fun k=>f (nx k))=sm r f+sm r (fun k=>if k=k0 then f r-f k else 0):=by
     rw[←sm_add]
     refine sm_ext fun i hi=>?_
     show f (if i=k0 then r else i)=_
     by_cases e2:i=k0
     ·rw[if_pos e2,if_pos e2];omega
     ·rw[if_neg e2,if_neg e2];omega
    rw[e1,sm_delta (f:=fun k=>f r-f k) (by omega),sm]
    show _+f r=_+(f r-f k0)+f k0
    omega
  refine Nat.succ_le_succ (dim_le hp r s (fun i k=>U i (nx k)-U i k0*w*U s (nx k)) (fun k j=>V (nx k) j) fun i j hi hj=>?_)
  have a1:=h i j (by omega) (by omega)
  have a2:=h s j (by omega) (by omega)
  rw[hsum] at a1 a2
  have a3:sm r (fun k=>(U i (nx k)-U i k0*w*U s (nx k))*V (nx k) j)=sm r (fun k=>U i (nx k)*V (nx k) j)+(- (U i k0*w))*sm r (fun k=>U s (nx k)*V (nx k) j):=by
   rw[←sm_mul,←sm_add]
   exact sm_ext fun k hk=>by grind
  rw[a3]
  have e0:dl s j=0:=if_neg (by omega)
  rw[e0] at a2
  generalize sm r (fun k=>U i (nx k)*V (nx k) j)=x1 at *
  generalize sm r (fun k=>U s (nx k)*V (nx k) j)=x2 at *
  obtain⟨q1,a1⟩:=a1
  obtain⟨q2,a2⟩:=a2
  obtain⟨q3,hw⟩:=hw
  exact⟨q1-U i k0*w*q2+U i k0*V k0 j*q3,by grind⟩
structure Rk (p:Int) (A:Nat→Nat→Int) (n w R:Nat):Prop where
 up:∃ X Y:Nat→Nat→Int,∀ i j,i<n→j<w→Cg p (A i j) (sm R fun r=>X i r*Y r j)
 lo:∃ P Q:Nat→Nat→Int,∀ a b,a<R→b<R→Cg p (sm n fun i=>sm w fun j=>P a i*A i j*Q j b) (dl a b)
theorem Rk.nil {p:Int} {A:Nat→Nat→Int} {n:Nat}:Rk p A n 0 0:=
 ⟨⟨fun _ _=>0,fun _ _=>0,fun _ _ _ h=>by omega⟩,⟨fun _ _=>0,fun _ _=>0,fun _ _ h=>by omega⟩⟩
theorem Rk.none {p:Int} {A:Nat→Nat→Int} {w:Nat}:Rk p A 0 w 0:=
 ⟨⟨fun _ _=>0,fun _ _=>0,fun _ _ h=>by omega⟩,⟨fun _ _=>0,fun _ _=>0,fun _ _ h=>by omega⟩⟩
theorem Rk.pivot {p:Int} {A B:Nat→Nat→Int} {n w R:Nat} (hp:Fld p) (h:Rk p B n w R) (hs:¬ p∣A 0 0) (hz:∀ i,i<n→Cg p (A (i+1) 0) 0) (hB:∀ i j,i<n→j<w→B i j=A (i+1) (j+1)):Rk p A (n+1) (w+1) (R+1):=by
 obtain⟨⟨X,Y,hu⟩,⟨P,Q,hl⟩⟩:=h
 obtain⟨s',hw⟩:=hp.2 _ hs
 refine⟨⟨fun i r=>if r=0 then (if i=0 then 1 else 0) else (if i=0 then 0 else X (i-1) (r-1)),fun r j=>if r=0 then A 0 j else if j=0 then 0 else Y (r-1) (j-1),fun i j hi hj=>?_⟩,
  ⟨fun a i=>if a=0 then (if i=0 then s' else 0) else (if i=0 then 0 else P (a-1) (i-1)),
   fun j b=>if b=0 then (if j=0 then 1 else 0) else (if j=0 then-(s'*sm w fun l=>A 0 (l+1)*Q l (b-1)) else Q (j-1) (b-1)),fun a b ha hb=>?_⟩⟩
 ·rw[sm_left]
  simp only[if_true,Nat.add_sub_cancel,Nat.succ_ne_zero,if_false,Nat.add_one_ne_zero]
  cases i with
  | zero=>
   simp only[if_true]
   rw[sm_zero' fun r _=>by simp]
   exact .of (by omega)
  | succ i=>
   simp only[Nat.succ_ne_zero,if_false,Nat.add_sub_cancel,Nat.add_one_ne_zero]
   cases j with
   | zero=>
    refine (hz i (by omega)).trans (.of ?_)
    rw[sm_zero' fun r _=>by simp]
    omega
   | succ j=>
    have:=hu i j (by omega) (by omega)
    rw[hB i j (by omega) (by omega)] at this
    refine this.trans (.of ?_)
    simp only[Nat.succ_ne_zero,if_false,Nat.add_sub_cancel,Nat.add_one_ne_zero,Int.zero_mul,Int.zero_add]
 ·rw[sm_left]
  simp only[if_true,Nat.add_sub_cancel,Nat.succ_ne_zero,if_false,Nat.add_one_ne_zero]
  cases a with
  | zero=>
   simp only[if_true,Int.zero_mul,sm_zero,Int.add_zero]
   rw[sm_left]
   simp only[if_true,Nat.add_sub_cancel,Nat.succ_ne_zero,if_false,Nat.add_one_ne_zero]
   cases b with
   | zero=>
    simp only[if_true,Int.mul_zero,sm_zero,Int.add_zero,Int.mul_one]
    exact hw
   | succ b=>
    simp only[Nat.succ_ne_zero,if_false,Nat.add_sub_cancel,Nat.add_one_ne_zero]
    have e:(sm w fun i=>s'*A 0 (i+1)*Q i b)=s'*sm w fun l=>A 0 (l+1)*Q l b:=by
     rw[←sm_mul]
     exact sm_ext fun l _=>Int.mul_assoc _ _ _
    rw[e]
    have e0:dl 0 (b+1)=0:=if_neg (by omega)
    rw[e0]
    generalize (sm w fun l=>A 0 (l+1)*Q l b)=z
    obtain⟨q,hq⟩:=hw
    exact⟨- (s'*z)*q,by grind⟩
  | succ a=>
   simp only[Nat.succ_ne_zero,if_false,Nat.add_sub_cancel,Nat.add_one_ne_zero,Int.zero_mul,sm_zero,Int.zero_add]
   cases b with
   | zero=>
    have e0:dl (a+1) 0=0:=if_neg (by omega)
    rw[e0]
    have:Cg p (sm n fun i=>sm (w+1) fun j=>P a i*A (i+1) j*if j=0 then 1 else 0) (sm n fun i=>0):=Cg.sm fun i hi=>by
     rw[sm_left]
     simp only[if_true,Nat.succ_ne_zero,if_false,Nat.add_one_ne_zero,Int.mul_zero,sm_zero,Int.add_zero,Int.mul_one]
     have:=(Cg.rfl' (a:=P a i)).mul (hz i hi)
     rwa [Int.mul_zero] at this
    rw[sm_zero] at this
    simpa using this
   | succ b=>
    have e0:dl (a+1) (b+1)=dl a b:=by simp[dl]
    rw[e0]
    simp only[Nat.succ_ne_zero,if_false,Nat.add_sub_cancel,Nat.add_one_ne_zero]
    refine Cg.trans ?_ (hl a b (by omega) (by omega))
    refine Cg.sm fun i hi=>?_
    rw[sm_left]
    simp only[if_true,Nat.succ_ne_zero,if_false,Nat.add_sub_cancel,Nat.add_one_ne_zero]
    have e1:(sm w fun j=>P a i*B i j*Q j b)=sm w fun j=>P a i*A (i+1) (j+1)*Q j b:=sm_ext fun j hj=>by rw[hB i j hi hj]
    rw[e1]
    have z:=hz i hi
    generalize (sm w fun j=>P a i*A (i+1) (j+1)*Q j b)=y
    generalize (sm w fun l=>A 0 (l+1)*Q l b)=x
    obtain⟨q,hq⟩:=z
    exact⟨- (P a i*s'*x)*q,by grind⟩
theorem Rk.rows {p:Int} {A B:Nat→Nat→Int} {n w R:Nat} (h:Rk p B n w R) (G H:Nat→Nat→Int) (hG:∀ l j,l<n→j<w→Cg p (B l j) (sm n fun i=>G l i*A i j)) (hH:∀ i j,i<n→j<w→Cg p (A i j) (sm n fun l=>H i l*B l j)):Rk p A n w R:=by
 obtain⟨⟨X,Y,hu⟩,⟨P,Q,hl⟩⟩:=h
 refine⟨⟨fun i r=>sm n fun l=>H i l*X l r,Y,fun i j hi hj=>?_⟩,⟨fun a i=>sm n fun l=>P a l*G l i,Q,fun a b ha hb=>?_⟩⟩
 ·refine (hH i j hi hj).trans ?_
  have h1:Cg p (sm n fun l=>H i l*B l j) (sm n fun l=>H i l*sm R fun r=>X l r*Y r j):=Cg.sm fun l hl'=>Cg.rfl'.mul (hu l j hl' hj)
  refine h1.trans (.of ?_)
  have h2:(sm n fun l=>H i l*sm R fun r=>X l r*Y r j)=sm n fun l=>sm R fun r=>H i l*X l r*Y r j:=sm_ext fun l _=>by
   rw[←sm_mul]
   exact sm_ext fun r _=>(Int.mul_assoc _ _ _).symm
  rw[h2,sm_comm]
  exact sm_ext fun r _=>sm_mulr
 ·refine Cg.trans ?_ (hl a b ha hb)
  have h1:Cg p (sm n fun l=>sm w fun j=>P a l*B l j*Q j b) (sm n fun l=>sm w fun j=>P a l*(sm n fun i=>G l i*A i j)*Q j b):=
   Cg.sm fun l hl'=>Cg.sm fun j hj=>(Cg.rfl'.mul (hG l j hl' hj)).mul .rfl'
  refine Cg.trans (.of ?_) h1.symm
  have h2:(sm n fun i=>sm w fun j=>(sm n fun l=>P a l*G l i)*A i j*Q j b)=sm n fun i=>sm w fun j=>sm n fun l=>P a l*G l i*A i j*Q j b:=sm_ext fun i _=>sm_ext fun j _=>by
   rw[←sm_mulr,←sm_mulr]
  have h3:(sm n fun l=>sm w fun j=>P a l*(sm n fun i=>G l i*A i j)*Q j b)=sm n fun l=>sm w fun j=>sm n fun i=>P a l*G l i*A i j*Q j b:=sm_ext fun l _=>sm_ext fun j _=>by
   rw[←sm_mul,←sm_mulr]
   exact sm_ext fun i _=>by grind
  rw[h2,h3]
  have h4:(sm n fun i=>sm w fun j=>sm n fun l=>P a l*G l i*A i j*Q j b)=sm n fun i=>sm n fun l=>sm w fun j=>P a l*G l i*A i j*Q j b:=sm_ext fun i _=>sm_comm
  have h5:(sm n fun l=>sm w fun j=>sm n fun i=>P a l*G l i*A i j*Q j b)=sm n fun l=>sm n fun i=>sm w fun j=>P a l*G l i*A i j*Q j b:=sm_ext fun l _=>sm_comm
  rw[h4,h5]
  exact sm_comm
structure Rk3 (p:Int) (T:Nat→Nat→Nat→Int) (I J K R:Nat):Prop where
 up:∃ (X:Nat→Nat→Int) (Y:Nat→Nat→Nat→Int),∀ i j k,i<I→j<J→k<K→Cg p (T i j k) (sm R fun r=>X i r*Y r j k)
 lo:∃ (P:Nat→Nat→Int) (Q:Nat→Nat→Nat→Int),∀ a b,a<R→b<R→Cg p (sm I fun i=>sm J fun j=>sm K fun k=>P a i*T i j k*Q j k b) (dl a b)
theorem lin_lt {j k J K:Nat} (hj:j<J) (hk:k<K):j*K+k<J*K:=by
 have:=Nat.mul_le_mul_right K (show j+1≤J from hj)
 rw[Nat.succ_mul] at this
 omega
theorem Rk.three {p:Int} {A:Nat→Nat→Int} {T:Nat→Nat→Nat→Int} {I J K R:Nat} (h:Rk p A I (J*K) R) (hT:∀ i j k,i<I→j<J→k<K→T i j k=A i (j*K+k)):Rk3 p T I J K R:=by
 obtain⟨⟨X,Y,hu⟩,⟨P,Q,hl⟩⟩:=h
 refine⟨⟨X,fun r j k=>Y r (j*K+k),fun i j k hi hj hk=>?_⟩,⟨P,fun j k b=>Q (j*K+k) b,fun a b ha hb=>?_⟩⟩
 ·rw[hT i j k hi hj hk]
  exact hu i _ hi (lin_lt hj hk)
 ·refine Cg.trans (.of ?_) (hl a b ha hb)
  refine sm_ext fun i hi=>?_
  rw[sm_rows]
  exact sm_ext fun j hj=>sm_ext fun k hk=>by rw[hT i j k hi hj hk]
theorem Rk3.le {p:Int} {T:Nat→Nat→Nat→Int} {I J K R S:Nat} (hp:Fld p) (h:Rk3 p T I J K R) {X:Nat→Nat→Int} {Y:Nat→Nat→Nat→Int} (hu:∀ i j k,i<I→j<J→k<K→Cg p (T i j k) (sm S fun r=>X i r*Y r j k)):R≤S:=by
 obtain⟨_,⟨P,Q,hl⟩⟩:=h
 refine dim_le hp S R (fun a r=>sm I fun i=>P a i*X i r) (fun r b=>sm J fun j=>sm K fun k=>Y r j k*Q j k b) fun a b ha hb=>?_
 refine Cg.trans ?_ (hl a b ha hb)
 have h1:Cg p (sm I fun i=>sm J fun j=>sm K fun k=>P a i*T i j k*Q j k b) (sm I fun i=>sm J fun j=>sm K fun k=>P a i*(sm S fun r=>X i r*Y r j k)*Q j k b):=
  Cg.sm fun i hi=>Cg.sm fun j hj=>Cg.sm fun k hk=>(Cg.rfl'.mul (hu i j k hi hj hk)).mul .rfl'
 refine Cg.trans (.of ?_) h1.symm
 have h2:(sm I fun i=>sm J fun j=>sm K fun k=>P a i*(sm S fun r=>X i r*Y r j k)*Q j k b)=sm I fun i=>sm S fun r=>sm J fun j=>sm K fun k=>P a i*X i r*(Y r j k*Q j k b):=sm_ext fun i _=>by
  rw[sm_comm (n:=S)]
  refine sm_ext fun j _=>?_
  rw[sm_comm (n:=S)]
  refine sm_ext fun k _=>?_
  rw[←sm_mul,←sm_mulr]
  exact sm_ext fun r _=>by grind
 rw[h2,sm_comm (n:=I)]
 refine sm_ext fun r _=>?_
 rw[←sm_mulr]
 refine sm_ext fun i _=>?_
 rw[←sm_mul]
 refine sm_ext fun j _=>?_
 rw[←sm_mul]
theorem Rk3.eq {p:Int} {T:Nat→Nat→Nat→Int} {I J K R S:Nat} (hp:Fld p) (h:Rk3 p T I J K R) (g:Rk3 p T I J K S):R=S:=by
 obtain⟨X,Y,hu⟩:=h.up
 obtain⟨X',Y',hu'⟩:=g.up
 exact Nat.le_antisymm (h.le hp hu') (g.le hp hu)
theorem Rk3.add {p:Int} {T A B:Nat→Nat→Nat→Int} {c:Int} {I J K R a b:Nat} (hp:Fld p) (h:Rk3 p T I J K R) (hA:Rk3 p A I J K a) (hB:Rk3 p B I J K b) (e:∀ i j k,i<I→j<J→k<K→Cg p (T i j k) (A i j k+c*B i j k)):R≤a+b:=by
 obtain⟨X,Y,hu⟩:=hA.up
 obtain⟨X',Y',hu'⟩:=hB.up
 refine h.le hp (X:=fun i r=>if r<a then X i r else X' i (r-a)) (Y:=fun r j k=>if r<a then Y r j k else c*Y' (r-a) j k) fun i j k hi hj hk=>?_
 refine (e i j k hi hj hk).trans (((hu i j k hi hj hk).add (Cg.rfl'.mul (hu' i j k hi hj hk))).trans (.of ?_))
 rw[sm_split,←sm_mul]
 congr 1
 ·exact sm_ext fun r hr=>by rw[if_pos hr,if_pos hr]
 ·exact sm_ext fun r hr=>by rw[if_neg (by omega),if_neg (by omega),Nat.add_sub_cancel_left];grind
end Go.Proofs.Ytapafdpnmakekaa.X

set_option linter.unusedVariables false
set_option linter.unusedSimpArgs false
set_option maxRecDepth 20000
set_option maxHeartbeats 4000000
namespace Go.Proofs.Ytapafdpnmakekaa.X
open Go Go.RowKit
theorem tmod_dvd (x p:Int):p∣x-x.tmod p:=⟨x.tdiv p,by have:=Int.mul_tdiv_add_tmod x p;omega⟩
theorem dvd_small {p x:Int} (h:p∣x) (h0:0≤x∧x<p):x=0:=by
 have:=Int.emod_eq_zero_of_dvd h
 rw[Int.emod_eq_of_lt h0.1 h0.2] at this
 exact this
theorem dvd_eq {p x y:Int} (h:p∣x-y) (hx:0≤x∧x<p) (hy:0≤y∧y<p):x=y:=by
 by_cases hxy:y≤x
 ·have:=dvd_small h ⟨by omega,by omega⟩
  omega
 ·have h2:p∣y-x:=by
   obtain⟨c,hc⟩:=h
   exact⟨-c,by rw[Int.mul_neg];omega⟩
  have:=dvd_small h2 ⟨by omega,by omega⟩
  omega
theorem inv_dvd {p n w:Int} (h:IsInv p n w):∃ q,w*n=1+p*q:=by
 obtain⟨q,hq⟩:=tmod_dvd (w*n) p
 rw[h.2.2.1] at hq
 exact⟨q,by omega⟩
end Go.Proofs.Ytapafdpnmakekaa.X

set_option linter.unusedVariables false
set_option linter.unusedSimpArgs false
set_option maxRecDepth 20000
set_option maxHeartbeats 4000000
namespace Go.Proofs.Ytapafdpnmakekaa.X
end Go.Proofs.Ytapafdpnmakekaa.X

set_option linter.unusedVariables false
set_option linter.unusedSimpArgs false
set_option maxRecDepth 20000
set_option maxHeartbeats 4000000
namespace Go.Proofs.Ytapafdpnmakekaa.X
open Go Go.RowKit
section
variable (t:Ten) (f e:Int)
end
def mmV (isMax:Bool) (x:Value) (l:List Value):Option Value:=match x with
 | .int k a=>(xmm isMax a l).map fun b=>.int k b
 | _=>none
theorem WX_mm {S:XS} {f:Fr} {h:AH} {Q:Value→AH→Prop} {b:Bool} {x:Operand} {l:List Operand}:WX S (.mm b x l) f h Q=WV (mmV b (ev f x) (l.map (ev f))) fun v=>Q v h:=by
 rw[WX_op (fun _=>rfl)]
 have:xop (.mm b x l) f h=(mmV b (ev f x) (l.map (ev f))).map (·,h):=by
  simp only[xop,mmV]
  generalize ev f x=vx
  cases vx<;>try rfl
  simp only
  generalize xmm b _ _=r
  cases r<;>rfl
 rw[this]
 cases mmV b (ev f x) (l.map (ev f))<;>simp[OQ_some,WV_some,OQ_none,WV_none]
def DoneS (N:Nat) (g:Nat→Int) (l:List Int) (m:Int):Prop:=l.length=N∧∀ n:Nat,(n:Int)<m→l.getD n 0=g n
theorem DoneS.step {N:Nat} {g:Nat→Int} {l:List Int} {m:Int} (d:DoneS N g l m) (hm:0≤m∧m<N) {x:Int} (hx:x=g m.toNat):DoneS N g (l.set m.toNat x) (m+1):=by
 refine⟨by rw[List.length_set];exact d.1,fun n hn=>?_⟩
 rw[set_getD (by rw[d.1];omega)]
 split
 ·rename_i e
  rw[e,hx]
 ·exact d.2 n (by omega)
theorem DoneS.all {N:Nat} {g:Nat→Int} {l:List Int} {m:Int} (d:DoneS N g l m) (hm:m=N):l=gen N g:=gen_ext d.1 fun n hn=>d.2 n (by omega)
structure KrS (t u s:Ten) (v w:Value) (h0 h:AH) (b5 nb:Nat) (l:List Int):Prop where
 hp:h0<+:h
 lo:h0.length+3≤nb∧nb<b5
 g1:OwnB h h0.length [I64 t.p,I64 t.i,I64 t.j,I64 t.k,v] true
 g2:OwnB h (h0.length+1) [I64 u.p,I64 u.i,I64 u.j,I64 u.k,w] true
 g3:∃ c,c.length=5∧OwnB h (h0.length+2) c true
 g5:OwnB h b5 [I64 s.p,I64 s.i,I64 s.j,I64 s.k,.slice (some ⟨nb,0,none⟩) (s.i*s.j*s.k).toNat 1] true
 gn:OwnB h nb (l.map (Value.int .i64)) true
theorem KrS.pre {t u s:Ten} {v w:Value} {h0 h h':AH} {b5 nb:Nat} {l:List Int} (a:KrS t u s v w h0 h b5 nb l) (p:h<+:h'):KrS t u s v w h0 h' b5 nb l:=by
 obtain⟨c,c1,c2⟩:=a.g3
 exact⟨a.hp.trans p,a.lo,a.g1.pre p,a.g2.pre p,⟨c,c1,c2.pre p⟩,a.g5.pre p,a.gn.pre p⟩
def DoneZ (N:Nat) (g:Nat→Int) (l:List Int) (m:Int):Prop:=DoneS N g l m∧∀ n:Nat,m≤(n:Int)→l.getD n 0=0
theorem DoneZ.step {N:Nat} {g:Nat→Int} {l:List Int} {m:Int} (d:DoneZ N g l m) (hm:0≤m∧m<N) {x:Int} (hx:x=g m.toNat):DoneZ N g (l.set m.toNat x) (m+1):=by
 refine⟨d.1.step hm hx,fun n hn=>?_⟩
 rw[set_getD (by rw[d.1.1];omega),if_neg (by omega)]
 exact d.2 n (by omega)
theorem DoneZ.skip {N:Nat} {g:Nat→Int} {l:List Int} {m:Int} (d:DoneZ N g l m) (hm:0≤m∧m<N) (hx:g m.toNat=0):DoneZ N g l (m+1):=by
 refine⟨⟨d.1.1,fun n hn=>?_⟩,fun n hn=>d.2 n (by omega)⟩
 by_cases h:(n:Int)<m
 ·exact d.1.2 n h
 ·have:n=m.toNat:=by omega
  rw[d.2 n (by omega),this,hx]
def pK (s i j k:Nat):Nat:=match s with
 | 0=>k
 | 1=>i
 | _=>j
section
variable {t u:Ten}
end
end Go.Proofs.Ytapafdpnmakekaa.X

set_option linter.unusedVariables false
set_option linter.unusedSimpArgs false
set_option maxRecDepth 20000
set_option maxHeartbeats 4000000
namespace Go.Proofs.Ytapafdpnmakekaa.X
open Go Go.RowKit
open Nat (reduceEqDiff reduceAdd reduceSub reduceLeDiff)
theorem lst_app {n:Nat} {l:List Int} {full:Bool} {H:AH} {x:Int} {e':TypeId} {ro fu:Bool} (o:Lst H n l full) (hl:(l.length:Int)≤1048576) {Q:Value→AH→Prop}
  (hQ:∀ H':AH,H'.length=H.length+2→Kp n H H'→Lst H' (H.length+1) (l++[x]) false→Q (sl (H.length+1) (l++[x]).length) H') :
  OQ (appV 2 1 8 (sl n l.length) (.slice (some ⟨H.length,0,none⟩) 1 1) (H.new ⟨[I64 x],e',ro,fu⟩)) Q:=by
 have hn:(H.new ⟨[I64 x],e',ro,fu⟩).rdn H.length 0 1=some [I64 x]:=by rw[rdn_new_same];rfl
 have hk:(H.new ⟨[I64 x],e',ro,fu⟩).get n=some ⟨l.map (Value.int .i64),2,false,full⟩:=get_new_any o
 have hkb:=o.lt
 unfold sl
 rw[app_own hk (by simp) hn (by omega),OQ_some,len_new]
 have:=hQ (((H.new ⟨[I64 x],e',ro,fu⟩).kill n).new ⟨l.map (Value.int .i64)++[I64 x],2,false,false⟩) (by rw[len_new,len_kill,len_new]) ⟨by rw[len_new,len_kill,len_new];omega,fun j hj hne=>by
   rw[show (((H.new ⟨[I64 x],e',ro,fu⟩).kill n).new ⟨l.map (Value.int .i64)++[I64 x],2,false,false⟩).get j=((H.new ⟨[I64 x],e',ro,fu⟩).kill n).get j from prefix_get (pre_new (List.prefix_refl _)) (by rw[len_kill,len_new];omega),get_kill_ne (Ne.symm hne)]
   exact prefix_get (pre_new (List.prefix_refl _)) hj⟩ (by unfold Lst;rw[get_new_eq (by rw[len_kill,len_new])];simp)
 unfold sl at this
 rw[List.length_append,List.length_singleton] at this
 exact this
theorem s_l05List {h0 h:AH} {n N:Nat} {p:Int} {Q:Value→AH→Prop} (s:Src h0 h n) (hN:N≤1000)
  (hQ:∀ kb l fu h',Kp n h h'→Src h0 h' n→h.length≤kb→Lst h' kb l fu→l.length=N→(1≤p→∀ x∈l,0≤x∧x<p)→Q (sl kb l.length) h'):WF S 250 [srcP n,I64 p,I64 N] h Q:=by
 refine WF_fn (fn:=c250) rfl rfl ?_
 dsimp only[c250,oO,oM,oS,oG,oK,oE,oL,oF,oX,oN]
 have lt:=s.lt
 have l0:=pre_len s.p
 ((try simp (maxSteps:=3000000) (dsimp:=false) (disch:=first|omega|simp only[lnx];omega) only[↓ypre,ypost,↓reduceIte,reduceEqDiff,reduceAdd,reduceSub,reduceLeDiff,zz0,ynew,fillL,zrep]);try simp only[yback])
 generalize hH1:AH.new h _=H1
 obtain⟨hb1,p1,n1⟩:=new_facts hH1
 refine WC_loop_inv (fun m f K1=>∃ (i:Nat) (l:List Int) (kb:Nat) (fu:Bool),m=N-i∧i≤N∧f 0=srcP n∧f 1=I64 p∧f 2=I64 ((N-i:Nat):Int)∧f 7=sl kb l.length∧(Kp n h K1)∧(Src h0 K1 n)∧(l.length=i)∧(h.length≤kb)∧(Lst K1 kb l fu)∧(1≤p→∀ x∈l,0≤x∧x<p)) ?_ (N-0) _ _ ⟨0,[],h.length,true,rfl,by omega,(by first|rfl|simp[upd_apply]),(by first|rfl|simp[upd_apply]),(by first|rfl|simp[upd_apply]),(by first|rfl|simp[upd_apply]),Kp.of p1,s.kp p1,rfl,Nat.le_refl _,hb1,fun _ x hx=>by simp at hx⟩
 rintro m f K1 ⟨i,l,kb,fu,rfl,hi,f0,f1,f2,f7,kk,ss,li,hb,q,hx⟩
 by_cases hlt:(0:Int)<((N-i:Nat):Int)
 ·((try simp (maxSteps:=3000000) (dsimp:=false) (disch:=first|omega|simp only[lnx];omega) only[↓ypre,ypost,↓reduceIte,reduceEqDiff,reduceAdd,reduceSub,reduceLeDiff,zz0,ynew,f0,f1,f2,f7,decide_eq_true hlt]);try simp only[yback])
  refine s_l01Next ss fun r H2 k2 l2 s2 hr _=>?_
  have q:=k2.get (by omega) q
  have lq:=get_lt q
  have ln:=s2.lt
  ((try simp (maxSteps:=3000000) (dsimp:=false) (disch:=first|omega|simp only[lnx];omega) only[↓ypre,ypost,↓reduceIte,reduceEqDiff,reduceAdd,reduceSub,reduceLeDiff,zz0,ynew,f0,f1,f2,f7,fillL,zrep]);try simp only[yback])
  refine lst_app q (by omega) fun H3 l3 k3 q3=>?_
  ((try simp (maxSteps:=3000000) (dsimp:=false) (disch:=first|omega|simp only[lnx];omega) only[↓ypre,ypost,↓reduceIte,reduceEqDiff,reduceAdd,reduceSub,reduceLeDiff,zz0,ynew,f0,f1,f2,f7,wrap64_in]);try simp only[yback])
  have hx2:1≤p→∀ x∈l++[r],0≤x∧x<p:=fun hp x hx'=>by
   rcases List.mem_append.1 hx' with h|h
   ·exact hx hp x h
   ·rw[List.mem_singleton.1 h];exact hr hp
  refine InvQ_go (N-(i+1)) (by omega) ⟨(i+1),(l++[r]),(H2.length+1),false,rfl,by omega,(by first|rfl|exact f0|(simp only[upd_apply];rfl)|(show I64 _=_;congr 1;omega)),(by first|rfl|exact f1|(simp only[upd_apply];rfl)|(show I64 _=_;congr 1;omega)),(by first|rfl|exact f2|(simp only[upd_apply];rfl)|(show I64 _=_;congr 1;omega)),(by first|rfl|exact f7|(simp only[upd_apply];rfl)|(show I64 _=_;congr 1;omega)),((kk.trans k2).over k3 (by omega)),(s2.over k3 (by omega) (by omega)),(by rw[List.length_append,li];rfl),(by have:=kk.len;omega),q3,hx2⟩
 ·have e:i=N:=by omega
  ((try simp (maxSteps:=3000000) (dsimp:=false) (disch:=first|omega|simp only[lnx];omega) only[↓ypre,ypost,↓reduceIte,reduceEqDiff,reduceAdd,reduceSub,reduceLeDiff,zz0,ynew,f0,f1,f2,f7,decide_eq_false hlt]);try simp only[yback])
  exact hQ kb l fu K1 kk ss hb q (by omega) hx
structure TenB (t:Ten):Prop where
 p:-1000≤t.p∧t.p≤1000
 i:-1000≤t.i∧t.i≤1000
 j:-1000≤t.j∧t.j≤1000
 k:-1000≤t.k∧t.k≤1000
 ns:t.ns.length≤1000
theorem OwnI.blk {h h':AH} {v:Value} {ns:List Int} (o:OwnI h h' v ns):∃ m e,h.length≤m∧v=sl m ns.length∧h'.get m=some ⟨ns.map (Value.int .i64),e,false,true⟩:=by
 obtain⟨m,e,h1,rfl,h3⟩:=o
 exact⟨m,e,h1,rfl,h3⟩
theorem nums_kN {lo m:Nat} {h:AH} {l:List Int} {e:TypeId} {full:Bool} (g:h.get m=some ⟨l.map (Value.int .i64),e,false,full⟩) (hn:lo≤m):KN lo h fun h'=>Ints h' (sl m l.length) l:=fun h' d d'=>Ints.own (by rw[d' m hn (get_lt g)];exact g) rfl
end Go.Proofs.Ytapafdpnmakekaa.X

set_option linter.unusedVariables false
set_option linter.unusedSimpArgs false
set_option maxRecDepth 20000
set_option maxHeartbeats 4000000
namespace Go.Proofs.Ytapafdpnmakekaa.X
open Go Go.RowKit
theorem pick_in {l:List Int} {a b:Int} (hl:∀ x∈l,a≤x∧x≤b) {j:Nat} (hj:j<l.length):a≤l.getD j 0∧l.getD j 0≤b:=by
 rw[List.getD_eq_getElem?_getD,List.getElem?_eq_getElem hj]
 exact hl _ (List.getElem_mem _)
structure Cod (h:AH) (cv:Value) (code:List (List Int)):Prop where
 els:Els .u8 1 h cv code
 byt:Byt 1 code
 len:code.length≤1000000
theorem Cod.pre {h h':AH} {cv:Value} {code:List (List Int)} (c:Cod h cv code) (p:h<+:h'):Cod h' cv code:=⟨c.els.pre p,c.byt,c.len⟩
theorem xres_3 {f:Fr} {h:AH} {r r' r'':XRes} {a b c:Value} (ha:xres1 f h r=some a) (hb:xres1 f h r'=some b) (hc:xres1 f h r''=some c):xres f h [r,r',r'']=some (.tuple #[a,b,c]):=by
 unfold xres xresl xresl xresl xresl
 rw[ha,hb,hc]
theorem xresn {f:Fr} {h:AH} {t n m e:Nat} {c:List Value} {ro fl:Bool} (hf:f t=.pointer (some ⟨n,0,none⟩)) (hb:h.get n=some ⟨c,e,ro,fl⟩) (hc:c.length=m):xres1 f h (.celln t m)=some (.agg c.toArray):=by
 rw[xres1_cells,hf,rdnV_ptr]
 simp only[rdn_of hb]
 subst hc
 simp
theorem mmT {a b:Int}:mmV true (.int .i64 a) [.int .i64 b]=some (I64 (max a b)):=by
 simp only[mmV,xmm]
 by_cases h:a≤b
 ·simp[h,Int.max_def]
  try omega
 ·simp[h,Int.max_def]
  try omega
theorem mmF {a b:Int}:mmV false (.int .i64 a) [.int .i64 b]=some (I64 (min a b)):=by
 simp only[mmV,xmm]
 by_cases h:a≤b
 ·simp[h,Int.min_def]
  try omega
 ·simp[h,Int.min_def]
  try omega
theorem getq {l:List Value} {i:Nat} (hi:i<l.length):l[i]?=some (l.getD i undef):=by
 rw[List.getD_eq_getElem?_getD,List.getElem?_eq_getElem hi]
 rfl
theorem cellsL_sl {b n:Nat}:cellsL (sl b n)=[sl b n]:=rfl
theorem isOne_sl {b n:Nat}:isOne (sl b n)=true:=rfl
structure RowD (lo:Nat) (H:AH) (kb:Nat) (fu:Bool) (rows:List (List Int)) (B:Nat→Nat) (cs:List Value):Prop where
 get:H.get kb=some ⟨cs,27,false,fu⟩
 len:cs.length=rows.length
 low:lo≤kb
 row:∀ i,i<rows.length→lo≤B i∧cs.getD i undef=sl (B i) (rows.getD i []).length∧(∃ f,Lst H (B i) (rows.getD i []) f)∧B i≠kb
 inc:∀ i j,i<j→j<rows.length→B i<B j
theorem RowD.kp {lo kb n:Nat} {H H':AH} {fu:Bool} {rows:List (List Int)} {B:Nat→Nat} {cs:List Value} (r:RowD lo H kb fu rows B cs) (k:Kp n H H') (hn:n<lo):RowD lo H' kb fu rows B cs:=
 ⟨k.get (by have:=r.low;omega) r.get,r.len,r.low,fun i hi=>by
  obtain⟨h1,h2,⟨f,h3⟩,h4⟩:=r.row i hi
  exact⟨h1,h2,⟨f,k.get (by omega) h3⟩,h4⟩,r.inc⟩
theorem RowD.rows {lo kb:Nat} {H:AH} {fu:Bool} {rows:List (List Int)} {B:Nat→Nat} {cs:List Value} (r:RowD lo H kb fu rows B cs):Rows H (sl kb rows.length) rows:=by
 refine⟨cs,.inr ⟨kb,0,_,by rw[r.len];rfl,r.get,by simp,fun i hi=>?_⟩,r.len,fun i hi=>?_⟩
 ·show cs[0+i]?=_
  rw[Nat.zero_add]
  exact getq hi
 ·obtain⟨h1,h2,⟨f,h3⟩,h4⟩:=r.row i hi
  rw[h2]
  exact h3.ints
theorem getD_snocD {α:Type} {l:List α} {x d:α} {j:Nat}:(l++[x]).getD j d=if j<l.length then l.getD j d else if j=l.length then x else d:=by
 rw[List.getD_eq_getElem?_getD,List.getD_eq_getElem?_getD]
 by_cases h:j<l.length
 ·rw[List.getElem?_append_left h,if_pos h]
 ·rw[List.getElem?_append_right (by omega),if_neg h]
  split
  ·rename_i e
   simp[e]
  ·rw[List.getElem?_eq_none (by simp;omega)]
   rfl
theorem rowd_app {lo kb b:Nat} {H:AH} {fu f ro fz:Bool} {e':TypeId} {rows:List (List Int)} {l:List Int} {B:Nat→Nat} {cs:List Value} (r:RowD lo H kb fu rows B cs) (hl:rows.length≤1000) (hb:lo≤b) (hkb:b≠kb)
  (hB:∀ i,i<rows.length→B i<b) (hx:Lst H b l f) {Q:Value→AH→Prop}
  (hQ:∀ H':AH,H'.length=H.length+2→Kp kb H H'→RowD lo H' (H.length+1) false (rows++[l]) (fun i=>if i<rows.length then B i else b) (cs++[sl b l.length])→Q (sl (H.length+1) (rows++[l]).length) H') :
  OQ (appV 27 1 24 (sl kb rows.length) (.slice (some ⟨H.length,0,none⟩) 1 1) (H.new ⟨[sl b l.length],e',ro,fz⟩)) Q:=by
 have hn:(H.new ⟨[sl b l.length],e',ro,fz⟩).rdn H.length 0 1=some [sl b l.length]:=by rw[rdn_new_same];rfl
 have hk:(H.new ⟨[sl b l.length],e',ro,fz⟩).get kb=some ⟨cs,27,false,fu⟩:=get_new_any r.get
 have hkl:=get_lt r.get
 have hbl:=get_lt hx
 unfold sl
 unfold sl at hn hk
 rw[app_ownW (n:=rows.length) hk (by rw[r.len,Nat.mul_one]) hn (by omega),OQ_some,len_new]
 have kk:Kp kb H (((H.new ⟨[sl b l.length],e',ro,fz⟩).kill kb).new ⟨cs++[sl b l.length],27,false,false⟩):=⟨by rw[len_new,len_kill,len_new];omega,fun j hj hne=>by
   rw[show (((H.new ⟨[sl b l.length],e',ro,fz⟩).kill kb).new ⟨cs++[sl b l.length],27,false,false⟩).get j=((H.new ⟨[sl b l.length],e',ro,fz⟩).kill kb).get j from prefix_get (pre_new (List.prefix_refl _)) (by rw[len_kill,len_new];omega),get_kill_ne (Ne.symm hne)]
   exact prefix_get (pre_new (List.prefix_refl _)) hj⟩
 have:=hQ _ (by rw[len_new,len_kill,len_new]) kk ⟨get_new_eq (by rw[len_kill,len_new]),by simp[r.len],by have:=r.low;omega,fun i hi=>?_,fun i j hij hj=>?_⟩
 ·unfold sl at this
  rw[List.length_append,List.length_singleton] at this
  exact this
 ·by_cases h:i<rows.length
  ·obtain⟨h1,h2,⟨g,h3⟩,h4⟩:=r.row i h
   have lb:=get_lt h3
   simp only[if_pos h]
   refine⟨h1,?_,⟨g,?_⟩,by omega⟩
   ·rw[getD_snocD,if_pos (by rw[r.len];exact h),h2,getD_snocD,if_pos h]
   ·rw[getD_snocD,if_pos h]
    exact kk.get h4 h3
  ·have e:i=rows.length:=by simp at hi;omega
   subst e
   simp only[if_neg h]
   refine⟨hb,?_,⟨f,?_⟩,by omega⟩
   ·rw[getD_snocD,if_neg (by rw[r.len];omega),if_pos r.len.symm,getD_snocD,if_neg (by omega),if_pos rfl]
   ·rw[getD_snocD,if_neg (by omega),if_pos rfl]
    exact kk.get hkb hx
 ·simp only[List.length_append,List.length_singleton] at hj
  by_cases h:j<rows.length
  ·simp only[if_pos h,if_pos (show i<rows.length by omega)]
   exact r.inc i j hij h
  ·simp only[if_neg h,if_pos (show i<rows.length by omega)]
   exact hB i (by omega)
end Go.Proofs.Ytapafdpnmakekaa.X

set_option linter.unusedVariables false
set_option linter.unusedSimpArgs false
set_option maxRecDepth 20000
set_option maxHeartbeats 4000000
namespace Go.Proofs.Ytapafdpnmakekaa.X
open Go Go.RowKit
open Nat (reduceEqDiff reduceAdd reduceSub reduceLeDiff)
theorem takeD {L:List (List Int)} {m:Nat} (h:m<L.length):L.take (m+1)=L.take m++[L.getD m []]:=by
 rw[List.take_add_one,List.getElem?_eq_getElem h,List.getD_eq_getElem?_getD,List.getElem?_eq_getElem h]
 rfl
theorem Els.rdAll {k:IntKind} {w:Nat} {h:AH} {v:Value} {L:List (List Int)} (e:Els k w h v L) (hl:0<L.length) :
  ∃ b off,v=.slice (some ⟨b,off,none⟩) L.length w∧h.rdn b off (L.length*w)=some (cel k L.flatten):=by
 rcases e with⟨rfl,-⟩|⟨b,off,blk,h1,h2,h3⟩
 ·simp at hl
 refine⟨b,off,h1,?_⟩
 have key:∀ m,m≤L.length→off+m*w≤blk.c.length∨m=0∧True→(blk.c.drop off).take (m*w)=cel k (L.take m).flatten:=by
  intro m hm _
  induction m with
  | zero=>simp[cel]
  | succ m ih=>
   obtain⟨g1,g2⟩:=h3 m (by omega)
   rw[Nat.succ_mul,List.take_add,ih (by omega) (by left;omega),takeD (by omega),List.flatten_append,List.drop_drop,g2]
   simp[cel]
 have hb:=(h3 (L.length-1) (by omega)).1
 have hb':off+L.length*w≤blk.c.length:=by
  have:L.length*w=(L.length-1)*w+w:=by
   rw[←Nat.succ_mul]
   congr 1
   omega
  omega
 rw[rdn_of h2,if_pos hb',key _ (Nat.le_refl _) (Or.inl hb'),List.take_length]
theorem set_flat {w:Nat} {q:List Int} (hq:q.length=w):∀ {L:List (List Int)} {j:Nat},Wid w L→j<L.length→L.flatten.take (j*w)++q++L.flatten.drop (j*w+w)=(L.set j q).flatten
 | [],j,_,h=>by simp at h
 | r::L,0,hw,_=>by
  have:=hw r (by simp)
  simp[←this]
 | r::L,j+1,hw,h=>by
  have hr:=hw r (by simp)
  have ih:=set_flat hq (L:=L) (j:=j) (fun x hx=>hw x (by simp[hx])) (by simpa using h)
  rw[List.set_cons_succ,List.flatten_cons,List.flatten_cons,←ih,Nat.succ_mul]
  rw[List.take_append,List.drop_append,List.take_of_length_le (by omega),List.drop_eq_nil_of_le (by omega),List.nil_append,
   show j*w+w-r.length=j*w by omega,show j*w+w+w-r.length=j*w+w by omega]
  simp only[List.append_assoc]
theorem splice_flat {k:IntKind} {w:Nat} {q:List Int} {L:List (List Int)} {j:Nat} (hq:q.length=w) (hw:Wid w L) (hj:j<L.length):splice (cel k L.flatten) (j*w) (cel k q)=cel k (L.set j q).flatten:=by
 rw[splice_eq,←set_flat hq hw hj]
 simp only[cel,List.map_append,List.map_take,List.map_drop,List.length_map,hq]
structure SchB (x:Sch):Prop where
 p:-1000≤x.p∧x.p≤1000
 n:-1000≤x.n∧x.n≤1000
 m:-1000≤x.m∧x.m≤1000
 k:-1000≤x.k∧x.k≤1000
 l:SmallX x.ps
theorem copy_zero {k:IntKind} {w bytes:Nat} {e:TypeId} {H:AH} {v:Value} {L:List (List Int)} (he:Els k w H v L) (hl:0<L.length) (hs:(L.length:Int)*bytes≤140737488355328∧(L.length:Int)≤9223372036854775807) {Q:Value→AH→Prop}
  (hQ:∀ H':AH,H'.length=H.length+2→H<+:H'→H'.get (H.length+1)=some ⟨cel k L.flatten,e,false,false⟩→Q (.slice (some ⟨H.length+1,0,none⟩) L.length w) H') :
  OQ (appV e w bytes (.slice (some ⟨H.length,0,none⟩) 0 w) v (H.new ⟨[],e,false,true⟩)) Q:=by
 obtain⟨b,off,rfl,hrd⟩:=(he.pre (pre_new (List.prefix_refl _):H<+:H.new ⟨[],e,false,true⟩)).rdAll hl
 rw[app_zeroW (k:=H.length) get_new_same hrd hl hs,OQ_some,len_new]
 have p:H<+:((H.new ⟨[],e,false,true⟩).kill H.length).new ⟨cel k L.flatten,e,false,false⟩:=pre_new (pre_kill (pre_new (List.prefix_refl _)) (Nat.le_refl _))
 exact hQ _ (by rw[len_new,len_kill,len_new]) p (get_new_eq (by rw[len_kill,len_new]))
theorem byt_set {L:List (List Int)} {a e j0:Nat} {d:Int} (b:Byt 27 L) (ha:a<L.length) (he:e<L.length) (hd:0≤d∧d≤255):Byt 27 (L.set e ((L.getD a []).set j0 d)):=by
 intro i hi j hj
 rw[List.length_set] at hi
 by_cases hie:i=e
 ·subst hie
  rw[List.getD_eq_getElem?_getD (l:=L.set i _),List.getElem?_set_self hi,Option.getD_some]
  by_cases hjj:j0=j
  ·subst hjj
   by_cases hl:j0<(L.getD a []).length
   ·rw[List.getD_eq_getElem?_getD,List.getElem?_set_self hl,Option.getD_some]
    exact hd
   ·rw[List.getD_eq_getElem?_getD,List.getElem?_eq_none (by rw[List.length_set];omega),Option.getD_none]
    omega
  ·rw[List.getD_eq_getElem?_getD,List.getElem?_set_ne hjj,←List.getD_eq_getElem?_getD]
   exact b a ha j hj
 ·rw[List.getD_eq_getElem?_getD (l:=L.set e _),List.getElem?_set_ne (Ne.symm hie),←List.getD_eq_getElem?_getD]
  exact b i hi j hj
theorem wid_set {w e:Nat} {L:List (List Int)} {q:List Int} (hw:Wid w L) (hq:q.length=w):Wid w (L.set e q):=by
 intro r hr
 rcases List.mem_or_eq_of_mem_set hr with h|h
 ·exact hw r h
 ·rw[h];exact hq
theorem s_l01Bad {h0 h:AH} {n lo:Nat} {v:Value} {x:Sch} {Q:Value→AH→Prop} (s:Src h0 h n) (xb:SchB x) (hlo:n<lo∧lo≤h.length) (hv:SchD lo h v x) (h9:-100≤x.k∧x.k≤100)
  (hQ:∀ (x':Sch) (v':Value) (h':AH),Kp n h h'→Src h0 h' n→SchD lo h' v' x'→SchB x'→Q (schV x' v') h'):WF S 269 [srcP n,schV x v] h Q:=by
 refine WF_fn (fn:=c269) rfl rfl ?_
 dsimp only[c269,oO,oM,oS,oG,oK,oE,oL,oF,oX,oN]
 have lt:=s.lt
 have l0:=pre_len s.p
 have v1:isOne v=true:=hv.now.one
 obtain⟨b1,b2,b3,b4,b5⟩:=xb
 ((try simp (maxSteps:=3000000) (dsimp:=false) (disch:=first|omega|simp only[lnx];omega) only[↓ypre,ypost,↓reduceIte,reduceEqDiff,reduceAdd,reduceSub,reduceLeDiff,zz0,ynew,schV,v1]);try simp only[yback])
 generalize hH1:AH.new h _=H1
 obtain⟨hb1,p1,n1⟩:=new_facts hH1
 generalize hH2:AH.new H1 _=H2
 obtain⟨hb2,p2,n2⟩:=new_facts hH2
 have old:∀ (x':Sch) (h':AH) (B B':Blk),x'.ps=x.ps→Kp n h h'→Src h0 h' n→SchB x'→Q (schV x' v) ((h'.put H1.length B).put h.length B'):=fun x' h' B B' e kk ss tb=>by
  have kf:Kp n h ((h'.put H1.length B).put h.length B'):=(kk.putb (m:=H1.length) (by omega)).putb (m:=h.length) (by omega)
  exact hQ x' v _ kf ((ss.putb (by omega) (by omega)).putb (by omega) (by omega)) (fun h2 k2 k3=>by rw[e];exact hv.kp kf hlo.1 h2 k2 k3) tb
 refine s_l01Next (s.kp (p1.trans p2)) fun r H3 k3 l3 s3 hr _=>?_
 have g1:=k3.get (by omega) (pre_get p2 hb1)
 have g2:=k3.get (by omega) hb2
 have kk3:Kp n h H3:=(Kp.of (p1.trans p2)).trans k3
 by_cases r0:r=0
 ·((try simp (maxSteps:=3000000) (dsimp:=false) (disch:=first|omega|simp only[lnx];omega) only[↓ypre,ypost,↓reduceIte,reduceEqDiff,reduceAdd,reduceSub,reduceLeDiff,zz0,ynew,decide_eq_true r0,fillL,zrep]);try simp only[yback])
  generalize hH4:AH.new H3 _=H4
  obtain⟨hb4,p4,n4⟩:=new_facts hH4
  have kv:=kp_new (n:=n) (ns:=[0,4,7,3]) hH4 (by omega)
  refine s_l01Pick (s3.kp p4) kv (by simp) (by simp) fun j H5 k5 l5 s5 hj=>?_
  have bp:=pick_in (l:=[0,4,7,3]) (a:=0) (b:=7) (by simp) hj
  generalize ([0,4,7,3]:List Int).getD j 0=p at bp
  have g1:=k5.get (by omega) (pre_get p4 g1)
  have g2:=k5.get (by omega) (pre_get p4 g2)
  have lg1:=get_lt g1
  have lg2:=get_lt g2
  ((try simp (maxSteps:=3000000) (dsimp:=false) (disch:=first|omega|simp only[lnx];omega) only[↓ypre,ypost,↓reduceIte,reduceEqDiff,reduceAdd,reduceSub,reduceLeDiff,zz0,ynew,wr_of g1,v1,wr_of g2,splice_eq,rdn_put_same]);try simp only[yback])
  exact old ⟨p,x.n,x.m,x.k,x.ps⟩ H5 _ _ rfl (kk3.trans ((Kp.of p4).trans k5)) s5 ⟨by show -1000≤p∧p≤1000;omega,b2,b3,b4,b5⟩
 by_cases r1:r=1
 ·((try simp (maxSteps:=3000000) (dsimp:=false) (disch:=first|omega|simp only[lnx];omega) only[↓ypre,ypost,↓reduceIte,reduceEqDiff,reduceAdd,reduceSub,reduceLeDiff,zz0,ynew,decide_eq_false r0,decide_eq_true r1,fillL,zrep]);try simp only[yback])
  generalize hH4:AH.new H3 _=H4
  obtain⟨hb4,p4,n4⟩:=new_facts hH4
  have kv:=kp_new (n:=n) (ns:=[0,4,-1]) hH4 (by omega)
  refine s_l01Pick (s3.kp p4) kv (by simp) (by simp) fun j H5 k5 l5 s5 hj=>?_
  have bp:=pick_in (l:=[0,4,-1]) (a:=-1) (b:=4) (by simp) hj
  generalize ([0,4,-1]:List Int).getD j 0=p at bp
  have g1:=k5.get (by omega) (pre_get p4 g1)
  have g2:=k5.get (by omega) (pre_get p4 g2)
  have lg1:=get_lt g1
  have lg2:=get_lt g2
  ((try simp (maxSteps:=3000000) (dsimp:=false) (disch:=first|omega|simp only[lnx];omega) only[↓ypre,ypost,↓reduceIte,reduceEqDiff,reduceAdd,reduceSub,reduceLeDiff,zz0,ynew,wr_of g1,v1,wr_of g2,splice_eq,rdn_put_same]);try simp only[yback])
  exact old ⟨x.p,p,x.m,x.k,x.ps⟩ H5 _ _ rfl (kk3.trans ((Kp.of p4).trans k5)) s5 ⟨b1,by show -1000≤p∧p≤1000;omega,b3,b4,b5⟩
 by_cases r2:r=2
 ·((try simp (maxSteps:=3000000) (dsimp:=false) (disch:=first|omega|simp only[lnx];omega) only[↓ypre,ypost,↓reduceIte,reduceEqDiff,reduceAdd,reduceSub,reduceLeDiff,zz0,ynew,decide_eq_false r0,decide_eq_false r1,decide_eq_true r2,rd1_of g1,wrap64_in,fillL,zrep]);try simp only[yback])
  generalize hH4:AH.new H3 _=H4
  obtain⟨hb4,p4,n4⟩:=new_facts hH4
  have kv:=kp_new (n:=n) (ns:=[0,4,x.k-1]) hH4 (by omega)
  refine s_l01Pick (s3.kp p4) kv (by simp) (by simp) fun j H5 k5 l5 s5 hj=>?_
  have bp:=pick_in (l:=[0,4,x.k-1]) (a:=-1000) (b:=1000) (by simp;omega) hj
  generalize ([0,4,x.k-1]:List Int).getD j 0=p at bp
  have g1:=k5.get (by omega) (pre_get p4 g1)
  have g2:=k5.get (by omega) (pre_get p4 g2)
  have lg1:=get_lt g1
  have lg2:=get_lt g2
  ((try simp (maxSteps:=3000000) (dsimp:=false) (disch:=first|omega|simp only[lnx];omega) only[↓ypre,ypost,↓reduceIte,reduceEqDiff,reduceAdd,reduceSub,reduceLeDiff,zz0,ynew,wr_of g1,v1,wr_of g2,splice_eq,rdn_put_same]);try simp only[yback])
  exact old ⟨x.p,x.n,x.m,p,x.ps⟩ H5 _ _ rfl (kk3.trans ((Kp.of p4).trans k5)) s5 ⟨b1,b2,b3,bp,b5⟩
 have lg1:=get_lt g1
 have lg2:=get_lt g2
 have e3:=(hv.kp kk3 hlo.1).now
 have hl:=e3.1.len
 have kf:Kp n h (H3.put H1.length ⟨[I64 x.p,I64 x.n,I64 x.m,I64 x.k,v],26,false,true⟩):=kk3.putb (m:=H1.length) (by omega)
 have done:Q (schV x v) (H3.put H1.length ⟨[I64 x.p,I64 x.n,I64 x.m,I64 x.k,v],26,false,true⟩):=hQ x v _ kf (s3.putb (by omega) (by omega)) (hv.kp kf hlo.1) ⟨b1,b2,b3,b4,b5⟩
 by_cases r3:r=3∨r=4∨r=5
 case neg=>
  ((try simp (maxSteps:=3000000) (dsimp:=false) (disch:=first|omega|simp only[lnx];omega) only[↓ypre,ypost,↓reduceIte,reduceEqDiff,reduceAdd,reduceSub,reduceLeDiff,zz0,ynew,decide_eq_false r0,decide_eq_false r1,decide_eq_false r2,decide_eq_false (show ¬ r=3 by omega),decide_eq_false (show ¬ r=4 by omega),decide_eq_false (show ¬ r=5 by omega),v1,rdn_of g1,wr_of g2,splice_eq,rdn_put_same]);try simp only[yback])
  exact done
 by_cases hk:(x.ps.length:Int)>0
 case neg=>
  rcases r3 with rfl|rfl|rfl
  ·((try simp (maxSteps:=3000000) (dsimp:=false) (disch:=first|omega|simp only[lnx];omega) only[↓ypre,ypost,↓reduceIte,reduceEqDiff,reduceAdd,reduceSub,reduceLeDiff,zz0,ynew,decide_eq_false r0,decide_eq_false r1,decide_eq_false r2,decide_eq_true (show (3:Int)=3 from rfl),rd1_of g1,hl,decide_eq_false hk,v1,rdn_of g1,wr_of g2,splice_eq,rdn_put_same]);try simp only[yback])
   exact done
  ·((try simp (maxSteps:=3000000) (dsimp:=false) (disch:=first|omega|simp only[lnx];omega) only[↓ypre,ypost,↓reduceIte,reduceEqDiff,reduceAdd,reduceSub,reduceLeDiff,zz0,ynew,decide_eq_false r0,decide_eq_false r1,decide_eq_false r2,decide_eq_false (show ¬ (4:Int)=3 by omega),decide_eq_true (show (4:Int)=4 from rfl),rd1_of g1,hl,decide_eq_false hk,v1,rdn_of g1,wr_of g2,splice_eq,rdn_put_same]);try simp only[yback])
   exact done
  ·((try simp (maxSteps:=3000000) (dsimp:=false) (disch:=first|omega|simp only[lnx];omega) only[↓ypre,ypost,↓reduceIte,reduceEqDiff,reduceAdd,reduceSub,reduceLeDiff,zz0,ynew,decide_eq_false r0,decide_eq_false r1,decide_eq_false r2,decide_eq_false (show ¬ (5:Int)=3 by omega),decide_eq_false (show ¬ (5:Int)=4 by omega),decide_eq_true (show (5:Int)=5 from rfl),rd1_of g1,hl,decide_eq_false hk,v1,rdn_of g1,wr_of g2,splice_eq,rdn_put_same]);try simp only[yback])
   exact done
 obtain⟨vb,vo,hve,hrd⟩:=e3.1.rdAll (by omega)
 rcases r3 with rfl|rfl|rfl
 ·((try simp (maxSteps:=3000000) (dsimp:=false) (disch:=first|omega|simp only[lnx];omega) only[↓ypre,ypost,↓reduceIte,reduceEqDiff,reduceAdd,reduceSub,reduceLeDiff,zz0,ynew,decide_eq_false r0,decide_eq_false r1,decide_eq_false r2,decide_eq_true (show (3:Int)=3 from rfl),rd1_of g1,hl,decide_eq_true hk,fillL,zrep]);try simp only[yback])
  refine copy_zero e3.1 (by omega) (by unfold SmallX at b5;omega) fun H4 l4 p4 g4=>?_
  have n3:=s3.lt
  have s4:=s3.kp p4
  obtain⟨L,hL⟩:∃ L:Nat,L=x.ps.length:=⟨_,rfl⟩
  refine WO_cut (fun f:Fr=>f 0=srcP n∧f 3=.pointer (some ⟨h.length,0,none⟩)∧f 4=.pointer (some ⟨H1.length,0,none⟩)∧f 5=I64 x.ps.length∧f 43=.slice (some ⟨H3.length+1,0,none⟩) x.ps.length 27∧True) ⟨(by first|rfl|simp[upd_apply]),(by first|rfl|simp[upd_apply]),(by first|rfl|simp[upd_apply]),(by first|rfl|simp[upd_apply]),(by first|rfl|simp[upd_apply]),trivial⟩ ?_
  rintro f ⟨f0,f3,f4,f5,f43,-⟩
  ((try simp (maxSteps:=3000000) (dsimp:=false) (disch:=first|omega|simp only[lnx];omega) only[↓ypre,ypost,↓reduceIte,reduceEqDiff,reduceAdd,reduceSub,reduceLeDiff,zz0,ynew,f0,f3,f4,f5,f43]);try simp only[yback])
  refine s_l01Next s4 fun a H5 k5 l5 s5 ha _=>?_
  have ha:=ha (by omega)
  obtain⟨a,rfl⟩:∃ a':Nat,a=a':=⟨a.toNat,by omega⟩
  have g5:=k5.get (by omega) g4
  have w27:Wid 27 x.ps:=e3.1.widL
  have e5:Els .u8 27 H5 (.slice (some ⟨H3.length+1,0,none⟩) x.ps.length 27) x.ps:=(blk_kN (lo:=H3.length+1) g5 w27 (Nat.le_refl _)).now
  obtain⟨na,oa,ixa,rda⟩:=e5.rdw (i:=a) (by omega)
  have hqa:(x.ps.getD a []).length=27:=e5.wid (by omega)
  ((try simp (maxSteps:=3000000) (dsimp:=false) (disch:=first|omega|simp only[lnx];omega) only[↓ypre,ypost,↓reduceIte,reduceEqDiff,reduceAdd,reduceSub,reduceLeDiff,zz0,ynew,f0,f3,f4,f5,f43,ixa,rda,zeros27,cel_len,cel_all,hqa,List.length_replicate,sp27z hqa]);try simp only[yback])
  generalize hH6:AH.new H5 _=H6
  obtain⟨g6,p6,n6⟩:=new_facts hH6
  refine s_l01Next (s5.kp p6) fun c0 H7 k7 l7 s7 hc _=>?_
  have hc:=hc (by omega)
  obtain⟨c0,rfl⟩:∃ c':Nat,c0=c':=⟨c0.toNat,by omega⟩
  have n5:=s5.lt
  have g6:=k7.get (by omega) g6
  refine WO_cut (fun f:Fr=>f 0=srcP n∧f 3=.pointer (some ⟨h.length,0,none⟩)∧f 4=.pointer (some ⟨H1.length,0,none⟩)∧f 5=I64 x.ps.length∧f 6=.slice (some ⟨H3.length+1,0,none⟩) x.ps.length 27∧f 7=.pointer (some ⟨H5.length,0,none⟩)∧f 51=I64 c0∧True) ⟨(by first|rfl|exact f0|simp[upd_apply,f0]),(by first|rfl|exact f3|simp[upd_apply,f3]),(by first|rfl|exact f4|simp[upd_apply,f4]),(by first|rfl|exact f5|simp[upd_apply,f5]),(by first|rfl|simp[upd_apply]),(by first|rfl|simp[upd_apply]),(by first|rfl|simp[upd_apply]),trivial⟩ ?_
  rintro f ⟨f0,f3,f4,f5,f6,f7,f51,-⟩
  ((try simp (maxSteps:=3000000) (dsimp:=false) (disch:=first|omega|simp only[lnx];omega) only[↓ypre,ypost,↓reduceIte,reduceEqDiff,reduceAdd,reduceSub,reduceLeDiff,zz0,ynew,f0,f3,f4,f5,f6,f7,f51]);try simp only[yback])
  refine s_l01Next s7 fun d H8 k8 l8 s8 hd _=>?_
  have hd:=hd (by omega)
  have g6:=k8.get (by omega) g6
  have ic:=ixa_u (n:=H5.length) (off:=9) (len:=9) (kk:=.i64) (j:=c0) (by omega)
  refine WO_cut (fun f:Fr=>f 0=srcP n∧f 3=.pointer (some ⟨h.length,0,none⟩)∧f 4=.pointer (some ⟨H1.length,0,none⟩)∧f 5=I64 x.ps.length∧f 6=.slice (some ⟨H3.length+1,0,none⟩) x.ps.length 27∧f 7=.pointer (some ⟨H5.length,0,none⟩)∧f 51=I64 c0∧f 53=I64 d∧True) ⟨(by first|rfl|exact f0|simp[upd_apply,f0]),(by first|rfl|exact f3|simp[upd_apply,f3]),(by first|rfl|exact f4|simp[upd_apply,f4]),(by first|rfl|exact f5|simp[upd_apply,f5]),(by first|rfl|exact f6|simp[upd_apply,f6]),(by first|rfl|exact f7|simp[upd_apply,f7]),(by first|rfl|exact f51|simp[upd_apply,f51]),(by first|rfl|simp[upd_apply]),trivial⟩ ?_
  rintro f ⟨f0,f3,f4,f5,f6,f7,f51,f53,-⟩
  have st:=cel_set (k:=.u8) (q:=x.ps.getD a []) (j:=9+c0) (x:=d) (by omega)
  ((try simp (maxSteps:=3000000) (dsimp:=false) (disch:=first|omega|simp only[lnx];omega) only[↓ypre,ypost,↓reduceIte,reduceEqDiff,reduceAdd,reduceSub,reduceLeDiff,zz0,ynew,f0,f3,f4,f5,f6,f7,f51,f53,wrap8_in,ic,wr_of g6,st,cel_len,hqa]);try simp only[yback])
  refine⟨by omega,?_⟩
  generalize hq':(x.ps.getD a []).set (9+c0) d=q'
  have lq':q'.length=27:=by rw[←hq',List.length_set];exact hqa
  generalize hH9:AH.put H8 _ _=H9
  have n7:=s7.lt
  have n8:=s8.lt
  have lg6:=get_lt g6
  have l9:H9.length=H8.length:=by rw[←hH9,len_put]
  have g9:H9.get H5.length=some ⟨cel .u8 q',138,false,true⟩:=hH9▸get_put_same lg6
  have s9:Src h0 H9 n:=hH9▸s8.putb (by omega) (by omega)
  have k59:Kp n H5 H9:=hH9▸(((Kp.of p6).trans k7).trans k8).putb (by omega)
  refine s_l01Next s9 fun e H10 k10 l10 s10 he _=>?_
  have he:=he (by omega)
  obtain⟨e,rfl⟩:∃ e':Nat,e=e':=⟨e.toNat,by omega⟩
  refine⟨⟨_,rfl,k10⟩,?_⟩
  have g10:=k10.get (by omega) g9
  have kA:=k59.trans k10
  have g510:=kA.get (by omega) g5
  have ie:ixsV 27 (.slice (some ⟨H3.length+1,0,none⟩) x.ps.length 27) (I64 e)=some (.pointer (some ⟨H3.length+1,e*27,none⟩)):=by
   rw[ixsV_some,if_pos (by omega),Int.toNat_natCast,Nat.zero_add]
  refine WO_cut (fun f:Fr=>f 0=srcP n∧f 3=.pointer (some ⟨h.length,0,none⟩)∧f 4=.pointer (some ⟨H1.length,0,none⟩)∧f 6=.slice (some ⟨H3.length+1,0,none⟩) x.ps.length 27∧f 7=.pointer (some ⟨H5.length,0,none⟩)∧f 57=.slice (some ⟨H3.length+1,0,none⟩) x.ps.length 27∧f 58=srcP n∧f 60=I64 e∧True) ⟨(by first|rfl|exact f0|simp[upd_apply,f0]),(by first|rfl|exact f3|simp[upd_apply,f3]),(by first|rfl|exact f4|simp[upd_apply,f4]),(by first|rfl|exact f6|simp[upd_apply,f6]),(by first|rfl|exact f7|simp[upd_apply,f7]),(by first|rfl|simp[upd_apply]),(by first|rfl|simp[upd_apply]),(by first|rfl|simp[upd_apply]),trivial⟩ ?_
  rintro f ⟨f0,f3,f4,f6,f7,f57,f58,f60,-⟩
  have rd27:H10.rdn H5.length 0 27=some (cel .u8 q'):=by
   rw[rdn_of g10,if_pos (by rw[cel_len,lq'];omega),List.drop_zero,List.take_of_length_le (by rw[cel_len,lq'];exact Nat.le_refl _)]
  have fl:=flat_len w27
  have sf:=splice_flat (k:=.u8) lq' w27 (j:=e) (by omega)
  have g1:=kA.get (by omega) (k5.get (by omega) (pre_get p4 g1))
  have g2:=kA.get (by omega) (k5.get (by omega) (pre_get p4 g2))
  have lg1:=get_lt g1
  have lg2:=get_lt g2
  have o1:isOne (.slice (some ⟨H3.length+1,0,none⟩) x.ps.length 27)=true:=rfl
  have oc:cellsL (.slice (some ⟨H3.length+1,0,none⟩) x.ps.length 27)=[.slice (some ⟨H3.length+1,0,none⟩) x.ps.length 27]:=rfl
  ((try simp (maxSteps:=3000000) (dsimp:=false) (disch:=first|omega|simp only[lnx];omega) only[↓ypre,ypost,↓reduceIte,reduceEqDiff,reduceAdd,reduceSub,reduceLeDiff,zz0,ynew,f0,f3,f4,f6,f7,f57,f58,f60,rd27,ie,wr_of g510,cel_len,cel_all,lq',sf,fl,wr_of g1,wr_of g2,splice_eq]);try simp only[yback])
  refine⟨by omega,by omega,?_⟩
  ((try simp (maxSteps:=3000000) (dsimp:=false) (disch:=first|omega|simp only[lnx];omega) only[↓ypre,ypost,↓reduceIte,reduceEqDiff,reduceAdd,reduceSub,reduceLeDiff,zz0,ynew,f0,f3,f4,f6,f7,f57,f58,f60,wr_of g1,wr_of g2,splice_eq,rdn_put_same]);try simp only[yback])
  have kk:=(((kk3.trans (Kp.of p4)).trans k5).trans kA)
  have el:(x.ps.set e q').length=x.ps.length:=List.length_set
  rw[←el]
  refine hQ ⟨x.p,x.n,x.m,x.k,x.ps.set e q'⟩ _ _ (((kk.putb (m:=H1.length) (by omega)).putb (m:=h.length) (by omega)).putb (m:=H3.length+1) (by omega)) (((s10.putb (m:=H1.length) (by omega) (by omega)).putb (m:=h.length) (by omega) (by omega)).putb (m:=H3.length+1) (by omega) (by omega)) ?_ ⟨b1,b2,b3,b4,by unfold SmallX at b5 ⊢;rw[el];exact b5⟩
  have bt:Byt 27 (x.ps.set e q'):=hq'▸byt_set e3.2 (by omega) (by omega) (by omega)
  have lgk:=get_lt g510
  exact fun h2 k2 k3=>⟨blk_kN (lo:=lo) (m:=H3.length+1) (get_put_same (by rw[len_put,len_put];omega)) (wid_set w27 lq') (by omega) h2 k2 k3,bt⟩
 ·((try simp (maxSteps:=3000000) (dsimp:=false) (disch:=first|omega|simp only[lnx];omega) only[↓ypre,ypost,↓reduceIte,reduceEqDiff,reduceAdd,reduceSub,reduceLeDiff,zz0,ynew,decide_eq_false r0,decide_eq_false r1,decide_eq_false r2,decide_eq_false (show ¬ (4:Int)=3 by omega),decide_eq_true (show (4:Int)=4 from rfl),rd1_of g1,hl,decide_eq_true hk,fillL,zrep]);try simp only[yback])
  refine copy_zero e3.1 (by omega) (by unfold SmallX at b5;omega) fun H4 l4 p4 g4=>?_
  have n3:=s3.lt
  have s4:=s3.kp p4
  obtain⟨L,hL⟩:∃ L:Nat,L=x.ps.length:=⟨_,rfl⟩
  refine WO_cut (fun f:Fr=>f 0=srcP n∧f 3=.pointer (some ⟨h.length,0,none⟩)∧f 4=.pointer (some ⟨H1.length,0,none⟩)∧f 5=I64 x.ps.length∧f 43=.slice (some ⟨H3.length+1,0,none⟩) x.ps.length 27∧True) ⟨(by first|rfl|exact f0|simp[upd_apply,f0]),(by first|rfl|exact f3|simp[upd_apply,f3]),(by first|rfl|exact f4|simp[upd_apply,f4]),(by first|rfl|exact f5|simp[upd_apply,f5]),(by first|rfl|exact f43|simp[upd_apply,f43]),trivial⟩ ?_
  rintro f ⟨f0,f3,f4,f5,f43,-⟩
  ((try simp (maxSteps:=3000000) (dsimp:=false) (disch:=first|omega|simp only[lnx];omega) only[↓ypre,ypost,↓reduceIte,reduceEqDiff,reduceAdd,reduceSub,reduceLeDiff,zz0,ynew,f0,f3,f4,f5,f43]);try simp only[yback])
  refine s_l01Next s4 fun a H5 k5 l5 s5 ha _=>?_
  have ha:=ha (by omega)
  obtain⟨a,rfl⟩:∃ a':Nat,a=a':=⟨a.toNat,by omega⟩
  have g5:=k5.get (by omega) g4
  have w27:Wid 27 x.ps:=e3.1.widL
  have e5:Els .u8 27 H5 (.slice (some ⟨H3.length+1,0,none⟩) x.ps.length 27) x.ps:=(blk_kN (lo:=H3.length+1) g5 w27 (Nat.le_refl _)).now
  obtain⟨na,oa,ixa,rda⟩:=e5.rdw (i:=a) (by omega)
  have hqa:(x.ps.getD a []).length=27:=e5.wid (by omega)
  ((try simp (maxSteps:=3000000) (dsimp:=false) (disch:=first|omega|simp only[lnx];omega) only[↓ypre,ypost,↓reduceIte,reduceEqDiff,reduceAdd,reduceSub,reduceLeDiff,zz0,ynew,f0,f3,f4,f5,f43,ixa,rda,zeros27,cel_len,cel_all,hqa,List.length_replicate,sp27z hqa]);try simp only[yback])
  generalize hH6:AH.new H5 _=H6
  obtain⟨g6,p6,n6⟩:=new_facts hH6
  refine s_l01Next (s5.kp p6) fun c0 H7 k7 l7 s7 hc _=>?_
  have hc:=hc (by omega)
  obtain⟨c0,rfl⟩:∃ c':Nat,c0=c':=⟨c0.toNat,by omega⟩
  have n5:=s5.lt
  have g6:=k7.get (by omega) g6
  refine WO_cut (fun f:Fr=>f 0=srcP n∧f 3=.pointer (some ⟨h.length,0,none⟩)∧f 4=.pointer (some ⟨H1.length,0,none⟩)∧f 5=I64 x.ps.length∧f 6=.slice (some ⟨H3.length+1,0,none⟩) x.ps.length 27∧f 7=.pointer (some ⟨H5.length,0,none⟩)∧f 51=I64 c0∧True) ⟨(by first|rfl|exact f0|simp[upd_apply,f0]),(by first|rfl|exact f3|simp[upd_apply,f3]),(by first|rfl|exact f4|simp[upd_apply,f4]),(by first|rfl|exact f5|simp[upd_apply,f5]),(by first|rfl|exact f6|simp[upd_apply,f6]),(by first|rfl|exact f7|simp[upd_apply,f7]),(by first|rfl|exact f51|simp[upd_apply,f51]),trivial⟩ ?_
  rintro f ⟨f0,f3,f4,f5,f6,f7,f51,-⟩
  ((try simp (maxSteps:=3000000) (dsimp:=false) (disch:=first|omega|simp only[lnx];omega) only[↓ypre,ypost,↓reduceIte,reduceEqDiff,reduceAdd,reduceSub,reduceLeDiff,zz0,ynew,f0,f3,f4,f5,f6,f7,f51]);try simp only[yback])
  refine s_l01Next s7 fun d H8 k8 l8 s8 hd _=>?_
  have hd:=hd (by omega)
  have g6:=k8.get (by omega) g6
  have ic:=ixa_u (n:=H5.length) (off:=9) (len:=9) (kk:=.i64) (j:=c0) (by omega)
  refine WO_cut (fun f:Fr=>f 0=srcP n∧f 3=.pointer (some ⟨h.length,0,none⟩)∧f 4=.pointer (some ⟨H1.length,0,none⟩)∧f 5=I64 x.ps.length∧f 6=.slice (some ⟨H3.length+1,0,none⟩) x.ps.length 27∧f 7=.pointer (some ⟨H5.length,0,none⟩)∧f 51=I64 c0∧f 53=I64 d∧True) ⟨(by first|rfl|exact f0|simp[upd_apply,f0]),(by first|rfl|exact f3|simp[upd_apply,f3]),(by first|rfl|exact f4|simp[upd_apply,f4]),(by first|rfl|exact f5|simp[upd_apply,f5]),(by first|rfl|exact f6|simp[upd_apply,f6]),(by first|rfl|exact f7|simp[upd_apply,f7]),(by first|rfl|exact f51|simp[upd_apply,f51]),(by first|rfl|exact f53|simp[upd_apply,f53]),trivial⟩ ?_
  rintro f ⟨f0,f3,f4,f5,f6,f7,f51,f53,-⟩
  have st:=cel_set (k:=.u8) (q:=x.ps.getD a []) (j:=9+c0) (x:=d) (by omega)
  ((try simp (maxSteps:=3000000) (dsimp:=false) (disch:=first|omega|simp only[lnx];omega) only[↓ypre,ypost,↓reduceIte,reduceEqDiff,reduceAdd,reduceSub,reduceLeDiff,zz0,ynew,f0,f3,f4,f5,f6,f7,f51,f53,wrap8_in,ic,wr_of g6,st,cel_len,hqa]);try simp only[yback])
  refine⟨by omega,?_⟩
  generalize hq':(x.ps.getD a []).set (9+c0) d=q'
  have lq':q'.length=27:=by rw[←hq',List.length_set];exact hqa
  generalize hH9:AH.put H8 _ _=H9
  have n7:=s7.lt
  have n8:=s8.lt
  have lg6:=get_lt g6
  have l9:H9.length=H8.length:=by rw[←hH9,len_put]
  have g9:H9.get H5.length=some ⟨cel .u8 q',138,false,true⟩:=hH9▸get_put_same lg6
  have s9:Src h0 H9 n:=hH9▸s8.putb (by omega) (by omega)
  have k59:Kp n H5 H9:=hH9▸(((Kp.of p6).trans k7).trans k8).putb (by omega)
  refine s_l01Next s9 fun e H10 k10 l10 s10 he _=>?_
  have he:=he (by omega)
  obtain⟨e,rfl⟩:∃ e':Nat,e=e':=⟨e.toNat,by omega⟩
  refine⟨⟨_,rfl,k10⟩,?_⟩
  have g10:=k10.get (by omega) g9
  have kA:=k59.trans k10
  have g510:=kA.get (by omega) g5
  have ie:ixsV 27 (.slice (some ⟨H3.length+1,0,none⟩) x.ps.length 27) (I64 e)=some (.pointer (some ⟨H3.length+1,e*27,none⟩)):=by
   rw[ixsV_some,if_pos (by omega),Int.toNat_natCast,Nat.zero_add]
  refine WO_cut (fun f:Fr=>f 0=srcP n∧f 3=.pointer (some ⟨h.length,0,none⟩)∧f 4=.pointer (some ⟨H1.length,0,none⟩)∧f 6=.slice (some ⟨H3.length+1,0,none⟩) x.ps.length 27∧f 7=.pointer (some ⟨H5.length,0,none⟩)∧f 57=.slice (some ⟨H3.length+1,0,none⟩) x.ps.length 27∧f 58=srcP n∧f 60=I64 e∧True) ⟨(by first|rfl|exact f0|simp[upd_apply,f0]),(by first|rfl|exact f3|simp[upd_apply,f3]),(by first|rfl|exact f4|simp[upd_apply,f4]),(by first|rfl|exact f6|simp[upd_apply,f6]),(by first|rfl|exact f7|simp[upd_apply,f7]),(by first|rfl|exact f57|simp[upd_apply,f57]),(by first|rfl|exact f58|simp[upd_apply,f58]),(by first|rfl|exact f60|simp[upd_apply,f60]),trivial⟩ ?_
  rintro f ⟨f0,f3,f4,f6,f7,f57,f58,f60,-⟩
  have rd27:H10.rdn H5.length 0 27=some (cel .u8 q'):=by
   rw[rdn_of g10,if_pos (by rw[cel_len,lq'];omega),List.drop_zero,List.take_of_length_le (by rw[cel_len,lq'];exact Nat.le_refl _)]
  have fl:=flat_len w27
  have sf:=splice_flat (k:=.u8) lq' w27 (j:=e) (by omega)
  have g1:=kA.get (by omega) (k5.get (by omega) (pre_get p4 g1))
  have g2:=kA.get (by omega) (k5.get (by omega) (pre_get p4 g2))
  have lg1:=get_lt g1
  have lg2:=get_lt g2
  have o1:isOne (.slice (some ⟨H3.length+1,0,none⟩) x.ps.length 27)=true:=rfl
  have oc:cellsL (.slice (some ⟨H3.length+1,0,none⟩) x.ps.length 27)=[.slice (some ⟨H3.length+1,0,none⟩) x.ps.length 27]:=rfl
  ((try simp (maxSteps:=3000000) (dsimp:=false) (disch:=first|omega|simp only[lnx];omega) only[↓ypre,ypost,↓reduceIte,reduceEqDiff,reduceAdd,reduceSub,reduceLeDiff,zz0,ynew,f0,f3,f4,f6,f7,f57,f58,f60,rd27,ie,wr_of g510,cel_len,cel_all,lq',sf,fl,wr_of g1,wr_of g2,splice_eq]);try simp only[yback])
  refine⟨by omega,by omega,?_⟩
  ((try simp (maxSteps:=3000000) (dsimp:=false) (disch:=first|omega|simp only[lnx];omega) only[↓ypre,ypost,↓reduceIte,reduceEqDiff,reduceAdd,reduceSub,reduceLeDiff,zz0,ynew,f0,f3,f4,f6,f7,f57,f58,f60,wr_of g1,wr_of g2,splice_eq,rdn_put_same]);try simp only[yback])
  have kk:=(((kk3.trans (Kp.of p4)).trans k5).trans kA)
  have el:(x.ps.set e q').length=x.ps.length:=List.length_set
  rw[←el]
  refine hQ ⟨x.p,x.n,x.m,x.k,x.ps.set e q'⟩ _ _ (((kk.putb (m:=H1.length) (by omega)).putb (m:=h.length) (by omega)).putb (m:=H3.length+1) (by omega)) (((s10.putb (m:=H1.length) (by omega) (by omega)).putb (m:=h.length) (by omega) (by omega)).putb (m:=H3.length+1) (by omega) (by omega)) ?_ ⟨b1,b2,b3,b4,by unfold SmallX at b5 ⊢;rw[el];exact b5⟩
  have bt:Byt 27 (x.ps.set e q'):=hq'▸byt_set e3.2 (by omega) (by omega) (by omega)
  have lgk:=get_lt g510
  exact fun h2 k2 k3=>⟨blk_kN (lo:=lo) (m:=H3.length+1) (get_put_same (by rw[len_put,len_put];omega)) (wid_set w27 lq') (by omega) h2 k2 k3,bt⟩
 ·((try simp (maxSteps:=3000000) (dsimp:=false) (disch:=first|omega|simp only[lnx];omega) only[↓ypre,ypost,↓reduceIte,reduceEqDiff,reduceAdd,reduceSub,reduceLeDiff,zz0,ynew,decide_eq_false r0,decide_eq_false r1,decide_eq_false r2,decide_eq_false (show ¬ (5:Int)=3 by omega),decide_eq_false (show ¬ (5:Int)=4 by omega),decide_eq_true (show (5:Int)=5 from rfl),rd1_of g1,hl,decide_eq_true hk,fillL,zrep]);try simp only[yback])
  refine copy_zero e3.1 (by omega) (by unfold SmallX at b5;omega) fun H4 l4 p4 g4=>?_
  have n3:=s3.lt
  have s4:=s3.kp p4
  obtain⟨L,hL⟩:∃ L:Nat,L=x.ps.length:=⟨_,rfl⟩
  refine WO_cut (fun f:Fr=>f 0=srcP n∧f 3=.pointer (some ⟨h.length,0,none⟩)∧f 4=.pointer (some ⟨H1.length,0,none⟩)∧f 5=I64 x.ps.length∧f 43=.slice (some ⟨H3.length+1,0,none⟩) x.ps.length 27∧True) ⟨(by first|rfl|exact f0|simp[upd_apply,f0]),(by first|rfl|exact f3|simp[upd_apply,f3]),(by first|rfl|exact f4|simp[upd_apply,f4]),(by first|rfl|exact f5|simp[upd_apply,f5]),(by first|rfl|exact f43|simp[upd_apply,f43]),trivial⟩ ?_
  rintro f ⟨f0,f3,f4,f5,f43,-⟩
  ((try simp (maxSteps:=3000000) (dsimp:=false) (disch:=first|omega|simp only[lnx];omega) only[↓ypre,ypost,↓reduceIte,reduceEqDiff,reduceAdd,reduceSub,reduceLeDiff,zz0,ynew,f0,f3,f4,f5,f43]);try simp only[yback])
  refine s_l01Next s4 fun a H5 k5 l5 s5 ha _=>?_
  have ha:=ha (by omega)
  obtain⟨a,rfl⟩:∃ a':Nat,a=a':=⟨a.toNat,by omega⟩
  have g5:=k5.get (by omega) g4
  have w27:Wid 27 x.ps:=e3.1.widL
  have e5:Els .u8 27 H5 (.slice (some ⟨H3.length+1,0,none⟩) x.ps.length 27) x.ps:=(blk_kN (lo:=H3.length+1) g5 w27 (Nat.le_refl _)).now
  obtain⟨na,oa,ixa,rda⟩:=e5.rdw (i:=a) (by omega)
  have hqa:(x.ps.getD a []).length=27:=e5.wid (by omega)
  ((try simp (maxSteps:=3000000) (dsimp:=false) (disch:=first|omega|simp only[lnx];omega) only[↓ypre,ypost,↓reduceIte,reduceEqDiff,reduceAdd,reduceSub,reduceLeDiff,zz0,ynew,f0,f3,f4,f5,f43,ixa,rda,zeros27,cel_len,cel_all,hqa,List.length_replicate,sp27z hqa]);try simp only[yback])
  generalize hH6:AH.new H5 _=H6
  obtain⟨g6,p6,n6⟩:=new_facts hH6
  refine s_l01Next (s5.kp p6) fun c0 H7 k7 l7 s7 hc _=>?_
  have hc:=hc (by omega)
  obtain⟨c0,rfl⟩:∃ c':Nat,c0=c':=⟨c0.toNat,by omega⟩
  have n5:=s5.lt
  have g6:=k7.get (by omega) g6
  refine WO_cut (fun f:Fr=>f 0=srcP n∧f 3=.pointer (some ⟨h.length,0,none⟩)∧f 4=.pointer (some ⟨H1.length,0,none⟩)∧f 5=I64 x.ps.length∧f 6=.slice (some ⟨H3.length+1,0,none⟩) x.ps.length 27∧f 7=.pointer (some ⟨H5.length,0,none⟩)∧f 51=I64 c0∧True) ⟨(by first|rfl|exact f0|simp[upd_apply,f0]),(by first|rfl|exact f3|simp[upd_apply,f3]),(by first|rfl|exact f4|simp[upd_apply,f4]),(by first|rfl|exact f5|simp[upd_apply,f5]),(by first|rfl|exact f6|simp[upd_apply,f6]),(by first|rfl|exact f7|simp[upd_apply,f7]),(by first|rfl|exact f51|simp[upd_apply,f51]),trivial⟩ ?_
  rintro f ⟨f0,f3,f4,f5,f6,f7,f51,-⟩
  ((try simp (maxSteps:=3000000) (dsimp:=false) (disch:=first|omega|simp only[lnx];omega) only[↓ypre,ypost,↓reduceIte,reduceEqDiff,reduceAdd,reduceSub,reduceLeDiff,zz0,ynew,f0,f3,f4,f5,f6,f7,f51]);try simp only[yback])
  refine s_l01Next s7 fun d H8 k8 l8 s8 hd _=>?_
  have hd:=hd (by omega)
  have g6:=k8.get (by omega) g6
  have ic:=ixa_u (n:=H5.length) (off:=9) (len:=9) (kk:=.i64) (j:=c0) (by omega)
  refine WO_cut (fun f:Fr=>f 0=srcP n∧f 3=.pointer (some ⟨h.length,0,none⟩)∧f 4=.pointer (some ⟨H1.length,0,none⟩)∧f 5=I64 x.ps.length∧f 6=.slice (some ⟨H3.length+1,0,none⟩) x.ps.length 27∧f 7=.pointer (some ⟨H5.length,0,none⟩)∧f 51=I64 c0∧f 53=I64 d∧True) ⟨(by first|rfl|exact f0|simp[upd_apply,f0]),(by first|rfl|exact f3|simp[upd_apply,f3]),(by first|rfl|exact f4|simp[upd_apply,f4]),(by first|rfl|exact f5|simp[upd_apply,f5]),(by first|rfl|exact f6|simp[upd_apply,f6]),(by first|rfl|exact f7|simp[upd_apply,f7]),(by first|rfl|exact f51|simp[upd_apply,f51]),(by first|rfl|exact f53|simp[upd_apply,f53]),trivial⟩ ?_
  rintro f ⟨f0,f3,f4,f5,f6,f7,f51,f53,-⟩
  have st:=cel_set (k:=.u8) (q:=x.ps.getD a []) (j:=9+c0) (x:=d) (by omega)
  ((try simp (maxSteps:=3000000) (dsimp:=false) (disch:=first|omega|simp only[lnx];omega) only[↓ypre,ypost,↓reduceIte,reduceEqDiff,reduceAdd,reduceSub,reduceLeDiff,zz0,ynew,f0,f3,f4,f5,f6,f7,f51,f53,wrap8_in,ic,wr_of g6,st,cel_len,hqa]);try simp only[yback])
  refine⟨by omega,?_⟩
  generalize hq':(x.ps.getD a []).set (9+c0) d=q'
  have lq':q'.length=27:=by rw[←hq',List.length_set];exact hqa
  generalize hH9:AH.put H8 _ _=H9
  have n7:=s7.lt
  have n8:=s8.lt
  have lg6:=get_lt g6
  have l9:H9.length=H8.length:=by rw[←hH9,len_put]
  have g9:H9.get H5.length=some ⟨cel .u8 q',138,false,true⟩:=hH9▸get_put_same lg6
  have s9:Src h0 H9 n:=hH9▸s8.putb (by omega) (by omega)
  have k59:Kp n H5 H9:=hH9▸(((Kp.of p6).trans k7).trans k8).putb (by omega)
  refine s_l01Next s9 fun e H10 k10 l10 s10 he _=>?_
  have he:=he (by omega)
  obtain⟨e,rfl⟩:∃ e':Nat,e=e':=⟨e.toNat,by omega⟩
  refine⟨⟨_,rfl,k10⟩,?_⟩
  have g10:=k10.get (by omega) g9
  have kA:=k59.trans k10
  have g510:=kA.get (by omega) g5
  have ie:ixsV 27 (.slice (some ⟨H3.length+1,0,none⟩) x.ps.length 27) (I64 e)=some (.pointer (some ⟨H3.length+1,e*27,none⟩)):=by
   rw[ixsV_some,if_pos (by omega),Int.toNat_natCast,Nat.zero_add]
  refine WO_cut (fun f:Fr=>f 0=srcP n∧f 3=.pointer (some ⟨h.length,0,none⟩)∧f 4=.pointer (some ⟨H1.length,0,none⟩)∧f 6=.slice (some ⟨H3.length+1,0,none⟩) x.ps.length 27∧f 7=.pointer (some ⟨H5.length,0,none⟩)∧f 57=.slice (some ⟨H3.length+1,0,none⟩) x.ps.length 27∧f 58=srcP n∧f 60=I64 e∧True) ⟨(by first|rfl|exact f0|simp[upd_apply,f0]),(by first|rfl|exact f3|simp[upd_apply,f3]),(by first|rfl|exact f4|simp[upd_apply,f4]),(by first|rfl|exact f6|simp[upd_apply,f6]),(by first|rfl|exact f7|simp[upd_apply,f7]),(by first|rfl|exact f57|simp[upd_apply,f57]),(by first|rfl|exact f58|simp[upd_apply,f58]),(by first|rfl|exact f60|simp[upd_apply,f60]),trivial⟩ ?_
  rintro f ⟨f0,f3,f4,f6,f7,f57,f58,f60,-⟩
  have rd27:H10.rdn H5.length 0 27=some (cel .u8 q'):=by
   rw[rdn_of g10,if_pos (by rw[cel_len,lq'];omega),List.drop_zero,List.take_of_length_le (by rw[cel_len,lq'];exact Nat.le_refl _)]
  have fl:=flat_len w27
  have sf:=splice_flat (k:=.u8) lq' w27 (j:=e) (by omega)
  have g1:=kA.get (by omega) (k5.get (by omega) (pre_get p4 g1))
  have g2:=kA.get (by omega) (k5.get (by omega) (pre_get p4 g2))
  have lg1:=get_lt g1
  have lg2:=get_lt g2
  have o1:isOne (.slice (some ⟨H3.length+1,0,none⟩) x.ps.length 27)=true:=rfl
  have oc:cellsL (.slice (some ⟨H3.length+1,0,none⟩) x.ps.length 27)=[.slice (some ⟨H3.length+1,0,none⟩) x.ps.length 27]:=rfl
  ((try simp (maxSteps:=3000000) (dsimp:=false) (disch:=first|omega|simp only[lnx];omega) only[↓ypre,ypost,↓reduceIte,reduceEqDiff,reduceAdd,reduceSub,reduceLeDiff,zz0,ynew,f0,f3,f4,f6,f7,f57,f58,f60,rd27,ie,wr_of g510,cel_len,cel_all,lq',sf,fl,wr_of g1,wr_of g2,splice_eq]);try simp only[yback])
  refine⟨by omega,by omega,?_⟩
  ((try simp (maxSteps:=3000000) (dsimp:=false) (disch:=first|omega|simp only[lnx];omega) only[↓ypre,ypost,↓reduceIte,reduceEqDiff,reduceAdd,reduceSub,reduceLeDiff,zz0,ynew,f0,f3,f4,f6,f7,f57,f58,f60,wr_of g1,wr_of g2,splice_eq,rdn_put_same]);try simp only[yback])
  have kk:=(((kk3.trans (Kp.of p4)).trans k5).trans kA)
  have el:(x.ps.set e q').length=x.ps.length:=List.length_set
  rw[←el]
  refine hQ ⟨x.p,x.n,x.m,x.k,x.ps.set e q'⟩ _ _ (((kk.putb (m:=H1.length) (by omega)).putb (m:=h.length) (by omega)).putb (m:=H3.length+1) (by omega)) (((s10.putb (m:=H1.length) (by omega) (by omega)).putb (m:=h.length) (by omega) (by omega)).putb (m:=H3.length+1) (by omega) (by omega)) ?_ ⟨b1,b2,b3,b4,by unfold SmallX at b5 ⊢;rw[el];exact b5⟩
  have bt:Byt 27 (x.ps.set e q'):=hq'▸byt_set e3.2 (by omega) (by omega) (by omega)
  have lgk:=get_lt g510
  exact fun h2 k2 k3=>⟨blk_kN (lo:=lo) (m:=H3.length+1) (get_put_same (by rw[len_put,len_put];omega)) (wid_set w27 lq') (by omega) h2 k2 k3,bt⟩
theorem isX_SchB {x:Sch} {h:AH} {v:Value} (hx:isX x=true) (hv:Prods h v x.ps):SchB x∧(-100≤x.k∧x.k≤100):=by
 obtain⟨z,hp,hl,_⟩:=isX_facts hx
 have:=z.p;have:=z.n;have:=z.m;have:=z.k
 exact⟨⟨by omega,by omega,by omega,by omega,by unfold SmallX;omega⟩,by omega⟩
theorem s_l01Spoil {h0 h:AH} {n:Nat} {Q:Value→AH→Prop} (s:Src h0 h n)
  (hQ:∀ (x:Sch) (v:Value) (h':AH),Kp n h h'→Src h0 h' n→SchD h.length h' v x→SchB x→Q (schV x v) h'):WF S 212 [srcP n] h Q:=by
 refine WF_fn (fn:=c212) rfl rfl ?_
 dsimp only[c212,oO,oM,oS,oG,oK,oE,oL,oF,oX,oN]
 have lt:=s.lt
 have l0:=pre_len s.p
 ((try simp (maxSteps:=3000000) (dsimp:=false) (disch:=first|omega|simp only[lnx];omega) only[↓ypre,ypost,↓reduceIte,reduceEqDiff,reduceAdd,reduceSub,reduceLeDiff,zz0,ynew]);try simp only[yback])
 generalize hH1:AH.new h _=H1
 obtain⟨hb1,p1,n1⟩:=new_facts hH1
 refine s_l01Draw (s.kp p1) fun x v H2 k2 s2 sd hx=>?_
 have g1:=k2.get (by omega) hb1
 have xb:=isX_SchB hx sd.now
 have k2l:=k2.len
 ((try simp (maxSteps:=3000000) (dsimp:=false) (disch:=first|omega|simp only[lnx];omega) only[↓ypre,ypost,↓reduceIte,reduceEqDiff,reduceAdd,reduceSub,reduceLeDiff,zz0,ynew]);try simp only[yback])
 refine s_l01Bad (lo:=H1.length) s2 xb.1 (by omega) sd xb.2 fun x' v' H3 k3 s3 sd' xb'=>?_
 have g1:=k3.get (by omega) g1
 have lg:=get_lt g1
 have o1:isOne v'=true:=sd'.now.one
 ((try simp (maxSteps:=3000000) (dsimp:=false) (disch:=first|omega|simp only[lnx];omega) only[↓ypre,ypost,↓reduceIte,reduceEqDiff,reduceAdd,reduceSub,reduceLeDiff,zz0,ynew,schV,o1,wr_of g1,splice_eq,rdn_put_same]);try simp only[yback])
 exact hQ x' v' _ ((((Kp.of p1).trans k2).trans k3).putb (Nat.le_refl _)) (s3.putb (by omega) (by omega)) ((KN.put sd' (by omega)).mono (by omega)) xb'
theorem RowD.moved {lo kb:Nat} {H H':AH} {fu:Bool} {rows:List (List Int)} {B:Nat→Nat} {cs:List Value} (r:RowD lo H kb fu rows B cs) (k:∀ m,lo≤m→m<H.length→H'.get m=H.get m):RowD lo H' kb fu rows B cs:=
 ⟨by rw[k kb r.low (get_lt r.get)];exact r.get,r.len,r.low,fun i hi=>by
  obtain⟨h1,h2,⟨f,h3⟩,h4⟩:=r.row i hi
  exact⟨h1,h2,⟨f,by unfold Lst;rw[k (B i) h1 (get_lt h3)];exact h3⟩,h4⟩,r.inc⟩
theorem RowD.kN {lo kb:Nat} {H:AH} {fu:Bool} {rows:List (List Int)} {B:Nat→Nat} {cs:List Value} (r:RowD lo H kb fu rows B cs):KN lo H fun h'=>Rows h' (sl kb rows.length) rows:=
 fun h' l g=>(r.moved g).rows
theorem RowD.vals {lo kb:Nat} {H:AH} {fu:Bool} {rows:List (List Int)} {B:Nat→Nat} {cs:List Value} (r:RowD lo H kb fu rows B cs):Vals H (sl kb rows.length) cs:=
 .inr ⟨kb,0,_,by rw[r.len];rfl,r.get,by simp,fun i hi=>by show cs[0+i]?=_;rw[Nat.zero_add];exact getq hi⟩
theorem RowD.slc {lo kb:Nat} {H:AH} {fu:Bool} {rows:List (List Int)} {B:Nat→Nat} {cs:List Value} (r:RowD lo H kb fu rows B cs) (h0:0<rows.length) :
  ∃ v',X.slcV 1 (sl kb rows.length) (some (I64 1)) none=some v'∧KN lo H fun h'=>Rows h' v' (rows.drop 1):=by
 have hl:=r.len
 obtain⟨v',e,-⟩:=r.vals.slcV_lo (k1:=.i64) (l:=1) (by omega)
 refine⟨v',e,fun h' l g=>?_⟩
 have r':=r.moved g
 obtain⟨v'',e',hv⟩:=r'.vals.slcV_lo (k1:=.i64) (l:=1) (by omega)
 have:v'=v'':=Option.some.inj (e.symm.trans e')
 subst this
 refine⟨cs.drop 1,hv,by simp[hl],fun i hi=>?_⟩
 simp only[List.length_drop] at hi
 obtain⟨h1,h2,⟨f,h3⟩,h4⟩:=r'.row (1+i) (by omega)
 have e1:(cs.drop 1).getD i undef=cs.getD (1+i) undef:=by rw[List.getD_eq_getElem?_getD,List.getElem?_drop,←List.getD_eq_getElem?_getD]
 have e2:(rows.drop 1).getD i []=rows.getD (1+i) []:=by rw[List.getD_eq_getElem?_getD,List.getElem?_drop,←List.getD_eq_getElem?_getD]
 rw[e1,e2,h2]
 exact h3.ints
theorem RowD.set0 {lo kb:Nat} {H:AH} {fu f:Bool} {rows:List (List Int)} {B:Nat→Nat} {cs:List Value} {l:List Int} (r:RowD lo H kb fu rows B cs) (h0:0<rows.length) (hl:l.length=(rows.getD 0 []).length) :
  RowD lo (H.put (B 0) ⟨l.map (Value.int .i64),2,false,f⟩) kb fu (rows.set 0 l) B cs:=by
 obtain⟨a1,a2,⟨g,a3⟩,a4⟩:=r.row 0 h0
 refine⟨by rw[get_put_ne a4];exact r.get,by rw[List.length_set];exact r.len,r.low,fun i hi=>?_,fun i j hij hj=>r.inc i j hij (by rw[List.length_set] at hj;exact hj)⟩
 rw[List.length_set] at hi
 obtain⟨h1,h2,⟨f',h3⟩,h4⟩:=r.row i hi
 by_cases h:i=0
 ·subst h
  have e2:(rows.set 0 l).getD 0 []=l:=by
   rw[List.getD_eq_getElem?_getD,List.getElem?_set_self (by omega)]
   rfl
  rw[e2,hl]
  exact⟨h1,h2,⟨f,get_put_same (get_lt a3)⟩,h4⟩
 ·have e2:(rows.set 0 l).getD i []=rows.getD i []:=by
   rw[List.getD_eq_getElem?_getD,List.getElem?_set_ne (by omega),←List.getD_eq_getElem?_getD]
  have:=r.inc 0 i (by omega) hi
  rw[e2]
  exact⟨h1,h2,⟨f',by unfold Lst;rw[get_put_ne (by omega)];exact h3⟩,h4⟩
theorem s_DrawProgramsOf {h:AH} {cv:Value} {code:List (List Int)} {Q:Value→AH→Prop} (c:Cod h cv code)
  (hQ:∀ (x:Sch) (v:Value) (b:Bool) (h':AH),h<+:h'→Prods h' v x.ps→SchB x→Q (.tuple #[schV x v,.bool b]) h'):WF S 140 [cv] h Q:=by
 refine WF_fn (fn:=c140) rfl rfl ?_
 dsimp only[c140,oO,oM,oS,oG,oK,oE,oL,oF,oX,oN]
 ((try simp (maxSteps:=3000000) (dsimp:=false) (disch:=first|omega|simp only[lnx];omega) only[↓ypre,ypost,↓reduceIte,reduceEqDiff,reduceAdd,reduceSub,reduceLeDiff,zz0,ynew]);try simp only[yback])
 generalize hH1:AH.new h _=H1
 obtain⟨hb1,p1,n1⟩:=new_facts hH1
 refine s_l01From (c.els.pre p1) c.byt c.len fun H2 p2 l2 s2=>?_
 have n2:=s2.lt
 ((try simp (maxSteps:=3000000) (dsimp:=false) (disch:=first|omega|simp only[lnx];omega) only[↓ypre,ypost,↓reduceIte,reduceEqDiff,reduceAdd,reduceSub,reduceLeDiff,zz0,ynew]);try simp only[yback])
 refine s_l01Spoil s2 fun x v H3 k3 s3 sd xb=>?_
 have g1:=k3.get (by omega) (pre_get p2 hb1)
 ((try simp (maxSteps:=3000000) (dsimp:=false) (disch:=first|omega|simp only[lnx];omega) only[↓ypre,ypost,↓reduceIte,reduceEqDiff,reduceAdd,reduceSub,reduceLeDiff,zz0,ynew]);try simp only[yback])
 refine s_l01Next s3 fun r H4 k4 l4 s4 _ _=>?_
 have g1:=k4.get (by omega) g1
 have lg:=get_lt g1
 have sd:SchD H2.length H4 v x:=KN.kp sd k4 (by omega)
 have o1:isOne v=true:=sd.now.one
 ((try simp (maxSteps:=3000000) (dsimp:=false) (disch:=first|omega|simp only[lnx];omega) only[↓ypre,ypost,↓reduceIte,reduceEqDiff,reduceAdd,reduceSub,reduceLeDiff,zz0,ynew,schV,o1,wr_of g1,splice_eq,rdn_put_same]);try simp only[yback])
 exact hQ x v (decide (r=0)) _ (pre_put (p1.trans s4.p) (Nat.le_refl _)) (KN.put sd (by omega)).now xb
theorem lenV_sl {n I:Nat}:lenV (sl n I)=some (.int .i64 I):=rfl
structure MatD (lo:Nat) (h:AH) (v:Value) (rows:List (List Int)):Prop where
 kn:KN lo h fun h'=>Rows h' v rows
 len:rows.length≤10
 row:∀ i,i<rows.length→(rows.getD i []).length≤100
theorem s_l01Rows {h0 h:AH} {n:Nat} {p n0 m0:Int} {Q:Value→AH→Prop} (s:Src h0 h n) (hn:-1000≤n0∧n0≤1000)
  (hQ:∀ (rows:List (List Int)) (v:Value) (h':AH),Kp n h h'→Src h0 h' n→MatD h.length h' v rows→Q v h'):WF S 213 [srcP n,I64 p,I64 n0,I64 m0] h Q:=by
 refine WF_fn (fn:=c213) rfl rfl ?_
 dsimp only[c213,oO,oM,oS,oG,oK,oE,oL,oF,oX,oN]
 have lt:=s.lt
 have l0:=pre_len s.p
 ((try simp (maxSteps:=3000000) (dsimp:=false) (disch:=first|omega|simp only[lnx];omega) only[↓ypre,ypost,↓reduceIte,reduceEqDiff,reduceAdd,reduceSub,reduceLeDiff,zz0,ynew,fillL,zrep]);try simp only[yback])
 generalize hH1:AH.new h _=H1
 obtain⟨hb1,p1,n1⟩:=new_facts hH1
 have s1:=s.kp p1
 refine WC_loop_inv (fun m f K1=>∃ (i:Nat) (rows:List (List Int)) (kb:Nat) (fu:Bool) (B:(Nat→Nat)) (cs:List Value),m=4-i∧i≤4∧f 0=srcP n∧f 1=I64 p∧f 2=I64 (n0-i)∧f 3=I64 m0∧f 9=sl kb rows.length∧(Kp n h K1)∧(Src h0 K1 n)∧(rows.length=i)∧(h.length≤kb)∧(RowD h.length K1 kb fu rows B cs)∧(∀ j,j<rows.length→B j<K1.length)∧(∀ j,j<rows.length→(rows.getD j []).length≤4)) ?_ (4-0) _ _ ⟨0,[],h.length,true,(fun _=>0),[],rfl,by omega,(by first|rfl|simp[upd_apply]),(by first|rfl|simp[upd_apply]),(by first|rfl|simp[upd_apply]),(by first|rfl|simp[upd_apply]),(by first|rfl|simp[upd_apply]),Kp.of p1,s1,rfl,Nat.le_refl _,⟨hb1,rfl,Nat.le_refl _,fun i hi=>by simp at hi,fun i j _ hj=>by simp at hj⟩,fun j hj=>by simp at hj,fun j hj=>by simp at hj⟩
 rintro m f K1 ⟨i,rows,kb,fu,B,cs,rfl,hi,f0,f1,f2,f3,f9,kk,ss,li,hq,r,hB,hw⟩
 by_cases hlt:n0-i>0∧i<4
 ·obtain⟨hlt1,hlt2⟩:=hlt
  ((try simp (maxSteps:=3000000) (dsimp:=false) (disch:=first|omega|simp only[lnx];omega) only[↓ypre,ypost,↓reduceIte,reduceEqDiff,reduceAdd,reduceSub,reduceLeDiff,zz0,ynew,f0,f1,f2,f3,f9,decide_eq_true hlt1,lenV_sl,decide_eq_true (show (rows.length:Int)<4 by omega),fillL,zrep]);try simp only[yback])
  generalize hH2:AH.new K1 _=H2
  obtain⟨hb2,p2,n2⟩:=new_facts hH2
  refine WC_loop_inv (fun m f K2=>∃ (k:Nat) (l:List Int) (k2:Nat) (f2:Bool),m=4-k∧k≤4∧f 0=srcP n∧f 1=I64 p∧f 2=I64 (n0-i)∧f 3=I64 m0∧f 9=sl kb rows.length∧f 10=sl k2 l.length∧f 11=I64 k∧(Kp n K1 K2)∧(Src h0 K2 n)∧(l.length=k)∧(K1.length≤k2)∧(Lst K2 k2 l f2)) ?_ (4-0) _ _ ⟨0,[],K1.length,true,rfl,by omega,(by first|rfl|exact f0|(simp[upd_apply];done)),(by first|rfl|exact f1|(simp[upd_apply];done)),(by first|rfl|exact f2|(simp[upd_apply];done)),(by first|rfl|exact f3|(simp[upd_apply];done)),(by first|rfl|exact f9|(simp[upd_apply];done)),(by first|rfl|simp[upd_apply]),(by first|rfl|simp[upd_apply]),Kp.of p2,ss.kp p2,rfl,Nat.le_refl _,hb2⟩
  rintro m f K2 ⟨k,l,k2,f2,rfl,hk,f0,f1,f2,f3,f9,f10,f11,kk2,s2,lk,hk2,q⟩
  by_cases hk:(k:Int)<m0∧(k:Int)<4
  ·obtain⟨hk1,hk4⟩:=hk
   ((try simp (maxSteps:=3000000) (dsimp:=false) (disch:=first|omega|simp only[lnx];omega) only[↓ypre,ypost,↓reduceIte,reduceEqDiff,reduceAdd,reduceSub,reduceLeDiff,zz0,ynew,f0,f1,f2,f3,f9,f10,f11,decide_eq_true hk1,decide_eq_true hk4]);try simp only[yback])
   refine s_l01Next s2 fun x H5 k5 l5 s5 _ _=>?_
   have q:=k5.get (by have:=s.lt;have:=kk.len;omega) q
   have lq:=get_lt q
   have n5:=s5.lt
   ((try simp (maxSteps:=3000000) (dsimp:=false) (disch:=first|omega|simp only[lnx];omega) only[↓ypre,ypost,↓reduceIte,reduceEqDiff,reduceAdd,reduceSub,reduceLeDiff,zz0,ynew,f0,f1,f2,f3,f9,f10,f11,fillL,zrep]);try simp only[yback])
   refine lst_app q (by omega) fun H6 l6 k6 q6=>?_
   ((try simp (maxSteps:=3000000) (dsimp:=false) (disch:=first|omega|simp only[lnx];omega) only[↓ypre,ypost,↓reduceIte,reduceEqDiff,reduceAdd,reduceSub,reduceLeDiff,zz0,ynew,f0,f1,f2,f3,f9,f10,f11,wrap64_in]);try simp only[yback])
   refine InvQ_go (4-(k+1)) (by omega) ⟨(k+1),(l++[x]),(H5.length+1),false,rfl,by omega,(by first|rfl|exact f0|(simp only[upd_apply];rfl)|(show I64 _=_;congr 1;omega)),(by first|rfl|exact f1|(simp only[upd_apply];rfl)|(show I64 _=_;congr 1;omega)),(by first|rfl|exact f2|(simp only[upd_apply];rfl)|(show I64 _=_;congr 1;omega)),(by first|rfl|exact f3|(simp only[upd_apply];rfl)|(show I64 _=_;congr 1;omega)),(by first|rfl|exact f9|(simp only[upd_apply];rfl)|(show I64 _=_;congr 1;omega)),(by first|rfl|exact f10|(simp only[upd_apply];rfl)|(show I64 _=_;congr 1;omega)),(by first|rfl|exact f11|(simp only[upd_apply];rfl)|(show I64 _=_;congr 1;omega)),((kk2.trans k5).over k6 (by omega)),(s5.over k6 (by have:=kk.len;omega) (by have:=pre_len s.p;have:=kk.len;omega)),(by rw[List.length_append,lk];rfl),(by have:=kk2.len;omega),q6⟩
  by_cases hk1:(k:Int)<m0
  ·have hk4:¬ (k:Int)<4:=fun y=>hk ⟨hk1,y⟩
   have r2:=r.kp kk2 (by omega)
   have lq:=get_lt q
   have kkl:=kk.len
   have kk2l:=kk2.len
   have lkb:=get_lt r.get
   ((try simp (maxSteps:=3000000) (dsimp:=false) (disch:=first|omega|simp only[lnx];omega) only[↓ypre,ypost,↓reduceIte,reduceEqDiff,reduceAdd,reduceSub,reduceLeDiff,zz0,ynew,f0,f1,f2,f3,f9,f10,f11,decide_eq_true hk1,decide_eq_false hk4,fillL,zrep,cellsL_sl,isOne_sl]);try simp only[yback])
   refine rowd_app r2 (by omega) (by omega) (by omega) (fun j hj=>by have:=hB j hj;omega) q fun H9 l9 k9 r9=>?_
   ((try simp (maxSteps:=3000000) (dsimp:=false) (disch:=first|omega|simp only[lnx];omega) only[↓ypre,ypost,↓reduceIte,reduceEqDiff,reduceAdd,reduceSub,reduceLeDiff,zz0,ynew,f0,f1,f2,f3,f9,f10,f11,wrap64_in]);try simp only[yback])
   have hB2:∀ j,j<(rows++[l]).length→(if j<rows.length then B j else k2)<H9.length:=fun j hj=>by
    split
    ·rename_i hjr
     have:=hB j hjr
     omega
    ·omega
   have hw2:∀ j,j<(rows++[l]).length→((rows++[l]).getD j []).length≤4:=fun j hj=>by
    rw[getD_snocD]
    split
    ·rename_i hjr
     exact hw j hjr
    ·rw[if_pos (by simp at hj;omega)]
     omega
   refine InvQ_go (4-(i+1)) (by omega) ⟨(i+1),(rows++[l]),(K2.length+1),false,_,_,rfl,by omega,(by first|rfl|exact f0|(simp only[upd_apply];rfl)|(show I64 _=_;congr 1;omega)),(by first|rfl|exact f1|(simp only[upd_apply];rfl)|(show I64 _=_;congr 1;omega)),(by first|rfl|exact f2|(simp only[upd_apply];rfl)|(show I64 _=_;congr 1;omega)),(by first|rfl|exact f3|(simp only[upd_apply];rfl)|(show I64 _=_;congr 1;omega)),(by first|rfl|exact f9|(simp only[upd_apply];rfl)|(show I64 _=_;congr 1;omega)),((kk.trans kk2).over k9 (by omega)),(s2.over k9 (by omega) (by omega)),(by rw[List.length_append,li];rfl),(by omega),r9,hB2,hw2⟩
  ·have hk4:=hk1
   have r2:=r.kp kk2 (by omega)
   have lq:=get_lt q
   have kkl:=kk.len
   have kk2l:=kk2.len
   have lkb:=get_lt r.get
   ((try simp (maxSteps:=3000000) (dsimp:=false) (disch:=first|omega|simp only[lnx];omega) only[↓ypre,ypost,↓reduceIte,reduceEqDiff,reduceAdd,reduceSub,reduceLeDiff,zz0,ynew,f0,f1,f2,f3,f9,f10,f11,decide_eq_false hk1,fillL,zrep,cellsL_sl,isOne_sl]);try simp only[yback])
   refine rowd_app r2 (by omega) (by omega) (by omega) (fun j hj=>by have:=hB j hj;omega) q fun H9 l9 k9 r9=>?_
   ((try simp (maxSteps:=3000000) (dsimp:=false) (disch:=first|omega|simp only[lnx];omega) only[↓ypre,ypost,↓reduceIte,reduceEqDiff,reduceAdd,reduceSub,reduceLeDiff,zz0,ynew,f0,f1,f2,f3,f9,f10,f11,wrap64_in]);try simp only[yback])
   have hB2:∀ j,j<(rows++[l]).length→(if j<rows.length then B j else k2)<H9.length:=fun j hj=>by
    split
    ·rename_i hjr
     have:=hB j hjr
     omega
    ·omega
   have hw2:∀ j,j<(rows++[l]).length→((rows++[l]).getD j []).length≤4:=fun j hj=>by
    rw[getD_snocD]
    split
    ·rename_i hjr
     exact hw j hjr
    ·rw[if_pos (by simp at hj;omega)]
     omega
   refine InvQ_go (4-(i+1)) (by omega) ⟨(i+1),(rows++[l]),(K2.length+1),false,_,_,rfl,by omega,(by first|rfl|exact f0|(simp only[upd_apply];rfl)|(show I64 _=_;congr 1;omega)),(by first|rfl|exact f1|(simp only[upd_apply];rfl)|(show I64 _=_;congr 1;omega)),(by first|rfl|exact f2|(simp only[upd_apply];rfl)|(show I64 _=_;congr 1;omega)),(by first|rfl|exact f3|(simp only[upd_apply];rfl)|(show I64 _=_;congr 1;omega)),(by first|rfl|exact f9|(simp only[upd_apply];rfl)|(show I64 _=_;congr 1;omega)),((kk.trans kk2).over k9 (by omega)),(s2.over k9 (by omega) (by omega)),(by rw[List.length_append,li];rfl),(by omega),r9,hB2,hw2⟩
 ·have base:Kp n h K1∧Src h0 K1 n:=⟨kk,ss⟩
  have hkb:=get_lt r.get
  have h4:rows.length≤4:=by omega
  by_cases hn0:n0-i>0
  ·have hi4:¬ i<4:=fun y=>hlt ⟨hn0,y⟩
   have hz0:(rows.length:Int)>0:=by omega
   ((try simp (maxSteps:=3000000) (dsimp:=false) (disch:=first|omega|simp only[lnx];omega) only[↓ypre,ypost,↓reduceIte,reduceEqDiff,reduceAdd,reduceSub,reduceLeDiff,zz0,ynew,f0,f1,f2,f3,f9,decide_eq_true hn0,lenV_sl,decide_eq_false (show ¬ (rows.length:Int)<4 by omega),decide_eq_true hz0]);try simp only[yback])
   refine s_l01Next ss fun x H5 k5 l5 s5 _ _=>?_
   have r5:=r.kp k5 lt
   have kk5:=kk.trans k5
   have md:MatD h.length H5 (sl kb rows.length) rows:=⟨r5.kN,by omega,fun i hi=>by have:=hw i hi;omega⟩
   by_cases x0:¬ x=0
   ·((try simp (maxSteps:=3000000) (dsimp:=false) (disch:=first|omega|simp only[lnx];omega) only[↓ypre,ypost,↓reduceIte,reduceEqDiff,reduceAdd,reduceSub,reduceLeDiff,zz0,ynew,f0,f1,f2,f3,f9,decide_eq_false x0]);try simp only[yback])
    exact hQ rows _ H5 kk5 s5 md
   have x0:=Decidable.not_not.1 x0
   ((try simp (maxSteps:=3000000) (dsimp:=false) (disch:=first|omega|simp only[lnx];omega) only[↓ypre,ypost,↓reduceIte,reduceEqDiff,reduceAdd,reduceSub,reduceLeDiff,zz0,ynew,f0,f1,f2,f3,f9,decide_eq_true x0]);try simp only[yback])
   refine s_l01Next s5 fun y H6 k6 l6 s6 _ _=>?_
   have r6:=r5.kp k6 lt
   have kk6:=kk5.trans k6
   by_cases y0:y=0
   ·obtain⟨v',hsl,kn⟩:=r6.slc (by omega)
    ((try simp (maxSteps:=3000000) (dsimp:=false) (disch:=first|omega|simp only[lnx];omega) only[↓ypre,ypost,↓reduceIte,reduceEqDiff,reduceAdd,reduceSub,reduceLeDiff,zz0,ynew,f0,f1,f2,f3,f9,decide_eq_true y0,omapF_some,omapF_none,ev,hsl]);try simp only[yback])
    refine hQ (rows.drop 1) v' H6 kk6 s6 ⟨kn,by simp;omega,fun i hi=>?_⟩
    simp only[List.length_drop] at hi
    have e2:(rows.drop 1).getD i []=rows.getD (1+i) []:=by rw[List.getD_eq_getElem?_getD,List.getElem?_drop,←List.getD_eq_getElem?_getD]
    rw[e2]
    have:=hw (1+i) (by omega)
    omega
   obtain⟨h1,h2,⟨g,h3⟩,h4'⟩:=r6.row 0 (by omega)
   have ix0:ixsV 1 (sl kb rows.length) (I64 0)=some (.pointer (some ⟨kb,0,none⟩)):=Lst.ix (n:=kb) (j:=0) (len:=rows.length) ⟨by omega,by omega⟩
   have rd0:H6.rd1 kb 0=some (sl (B 0) (rows.getD 0 []).length):=by
    rw[←h2,rd1_of r6.get]
    have:0<cs.length:=by rw[r6.len];omega
    simp[List.getD_eq_getElem?_getD,List.getElem?_eq_getElem this]
   have w0:=hw 0 (by omega)
   by_cases z0:((rows.getD 0 []).length:Int)>0
   case neg=>
    ((try simp (maxSteps:=3000000) (dsimp:=false) (disch:=first|omega|simp only[lnx];omega) only[↓ypre,ypost,↓reduceIte,reduceEqDiff,reduceAdd,reduceSub,reduceLeDiff,zz0,ynew,f0,f1,f2,f3,f9,decide_eq_false y0,ix0,rd0,lenV_sl,decide_eq_false z0]);try simp only[yback])
    exact hQ rows _ H6 kk6 s6 ⟨r6.kN,by omega,fun i hi=>by have:=hw i hi;omega⟩
   ((try simp (maxSteps:=3000000) (dsimp:=false) (disch:=first|omega|simp only[lnx];omega) only[↓ypre,ypost,↓reduceIte,reduceEqDiff,reduceAdd,reduceSub,reduceLeDiff,zz0,ynew,f0,f1,f2,f3,f9,decide_eq_false y0,ix0,rd0,lenV_sl,decide_eq_true z0,fillL,zrep]);try simp only[yback])
   generalize hH7:AH.new H6 _=H7
   obtain⟨hb7,p7,n7⟩:=new_facts hH7
   have n6:=s6.lt
   have kv:=kp_new (n:=n) (ns:=[p,-1]) hH7 (by omega)
   refine s_l01Pick (s6.kp p7) kv (by simp) (by simp) fun j H8 k8 l8 s8 hj=>?_
   generalize ([p,-1]:List Int).getD j 0=y2
   have r8:=(r6.kp (Kp.of p7) lt).kp k8 lt
   obtain⟨h1,h2,⟨g,h3⟩,h4'⟩:=r8.row 0 (by omega)
   have ixb:ixsV 1 (sl (B 0) (rows.getD 0 []).length) (I64 0)=some (.pointer (some ⟨B 0,0,none⟩)):=Lst.ix (n:=B 0) (j:=0) ⟨by omega,by omega⟩
   obtain⟨H9,w9,e9,q9⟩:=h3.wr (j:=0) (x:=y2) (by omega)
   ((try simp (maxSteps:=3000000) (dsimp:=false) (disch:=first|omega|simp only[lnx];omega) only[↓ypre,ypost,↓reduceIte,reduceEqDiff,reduceAdd,reduceSub,reduceLeDiff,zz0,ynew,f0,f1,f2,f3,f9,ixb,w9]);try simp only[yback])
   have rZ:=r8.set0 (f:=g) (l:=(rows.getD 0 []).set 0 y2) (by omega) (by rw[List.length_set])
   rw[←e9] at rZ
   have kZ:Kp n h H9:=e9▸((kk6.trans (Kp.of p7)).trans k8).putb (by omega)
   have sZ:Src h0 H9 n:=e9▸s8.putb (by omega) (by omega)
   have eL:(rows.set 0 ((rows.getD 0 []).set 0 y2)).length=rows.length:=List.length_set
   rw[←eL]
   refine hQ _ _ H9 kZ sZ ⟨rZ.kN,by omega,fun i hi=>?_⟩
   rw[eL] at hi
   by_cases hi0:i=0
   ·subst hi0
    rw[List.getD_eq_getElem?_getD (l:=rows.set 0 _),List.getElem?_set_self (by omega)]
    simp only[Option.getD_some,List.length_set]
    omega
   ·rw[List.getD_eq_getElem?_getD (l:=rows.set 0 _),List.getElem?_set_ne (by omega),←List.getD_eq_getElem?_getD]
    have:=hw i hi
    omega
  ·by_cases hz0:(rows.length:Int)>0
   case neg=>
    ((try simp (maxSteps:=3000000) (dsimp:=false) (disch:=first|omega|simp only[lnx];omega) only[↓ypre,ypost,↓reduceIte,reduceEqDiff,reduceAdd,reduceSub,reduceLeDiff,zz0,ynew,f0,f1,f2,f3,f9,decide_eq_false hn0,lenV_sl,decide_eq_false hz0]);try simp only[yback])
    exact hQ rows _ K1 kk ss ⟨r.kN,by omega,fun i hi=>by have:=hw i hi;omega⟩
   ((try simp (maxSteps:=3000000) (dsimp:=false) (disch:=first|omega|simp only[lnx];omega) only[↓ypre,ypost,↓reduceIte,reduceEqDiff,reduceAdd,reduceSub,reduceLeDiff,zz0,ynew,f0,f1,f2,f3,f9,decide_eq_false hn0,lenV_sl,decide_eq_true hz0]);try simp only[yback])
   refine s_l01Next ss fun x H5 k5 l5 s5 _ _=>?_
   have r5:=r.kp k5 lt
   have kk5:=kk.trans k5
   have md:MatD h.length H5 (sl kb rows.length) rows:=⟨r5.kN,by omega,fun i hi=>by have:=hw i hi;omega⟩
   by_cases x0:¬ x=0
   ·((try simp (maxSteps:=3000000) (dsimp:=false) (disch:=first|omega|simp only[lnx];omega) only[↓ypre,ypost,↓reduceIte,reduceEqDiff,reduceAdd,reduceSub,reduceLeDiff,zz0,ynew,f0,f1,f2,f3,f9,decide_eq_false x0]);try simp only[yback])
    exact hQ rows _ H5 kk5 s5 md
   have x0:=Decidable.not_not.1 x0
   ((try simp (maxSteps:=3000000) (dsimp:=false) (disch:=first|omega|simp only[lnx];omega) only[↓ypre,ypost,↓reduceIte,reduceEqDiff,reduceAdd,reduceSub,reduceLeDiff,zz0,ynew,f0,f1,f2,f3,f9,decide_eq_true x0]);try simp only[yback])
   refine s_l01Next s5 fun y H6 k6 l6 s6 _ _=>?_
   have r6:=r5.kp k6 lt
   have kk6:=kk5.trans k6
   by_cases y0:y=0
   ·obtain⟨v',hsl,kn⟩:=r6.slc (by omega)
    ((try simp (maxSteps:=3000000) (dsimp:=false) (disch:=first|omega|simp only[lnx];omega) only[↓ypre,ypost,↓reduceIte,reduceEqDiff,reduceAdd,reduceSub,reduceLeDiff,zz0,ynew,f0,f1,f2,f3,f9,decide_eq_true y0,omapF_some,omapF_none,ev,hsl]);try simp only[yback])
    refine hQ (rows.drop 1) v' H6 kk6 s6 ⟨kn,by simp;omega,fun i hi=>?_⟩
    simp only[List.length_drop] at hi
    have e2:(rows.drop 1).getD i []=rows.getD (1+i) []:=by rw[List.getD_eq_getElem?_getD,List.getElem?_drop,←List.getD_eq_getElem?_getD]
    rw[e2]
    have:=hw (1+i) (by omega)
    omega
   obtain⟨h1,h2,⟨g,h3⟩,h4'⟩:=r6.row 0 (by omega)
   have ix0:ixsV 1 (sl kb rows.length) (I64 0)=some (.pointer (some ⟨kb,0,none⟩)):=Lst.ix (n:=kb) (j:=0) (len:=rows.length) ⟨by omega,by omega⟩
   have rd0:H6.rd1 kb 0=some (sl (B 0) (rows.getD 0 []).length):=by
    rw[←h2,rd1_of r6.get]
    have:0<cs.length:=by rw[r6.len];omega
    simp[List.getD_eq_getElem?_getD,List.getElem?_eq_getElem this]
   have w0:=hw 0 (by omega)
   by_cases z0:((rows.getD 0 []).length:Int)>0
   case neg=>
    ((try simp (maxSteps:=3000000) (dsimp:=false) (disch:=first|omega|simp only[lnx];omega) only[↓ypre,ypost,↓reduceIte,reduceEqDiff,reduceAdd,reduceSub,reduceLeDiff,zz0,ynew,f0,f1,f2,f3,f9,decide_eq_false y0,ix0,rd0,lenV_sl,decide_eq_false z0]);try simp only[yback])
    exact hQ rows _ H6 kk6 s6 ⟨r6.kN,by omega,fun i hi=>by have:=hw i hi;omega⟩
   ((try simp (maxSteps:=3000000) (dsimp:=false) (disch:=first|omega|simp only[lnx];omega) only[↓ypre,ypost,↓reduceIte,reduceEqDiff,reduceAdd,reduceSub,reduceLeDiff,zz0,ynew,f0,f1,f2,f3,f9,decide_eq_false y0,ix0,rd0,lenV_sl,decide_eq_true z0,fillL,zrep]);try simp only[yback])
   generalize hH7:AH.new H6 _=H7
   obtain⟨hb7,p7,n7⟩:=new_facts hH7
   have n6:=s6.lt
   have kv:=kp_new (n:=n) (ns:=[p,-1]) hH7 (by omega)
   refine s_l01Pick (s6.kp p7) kv (by simp) (by simp) fun j H8 k8 l8 s8 hj=>?_
   generalize ([p,-1]:List Int).getD j 0=y2
   have r8:=(r6.kp (Kp.of p7) lt).kp k8 lt
   obtain⟨h1,h2,⟨g,h3⟩,h4'⟩:=r8.row 0 (by omega)
   have ixb:ixsV 1 (sl (B 0) (rows.getD 0 []).length) (I64 0)=some (.pointer (some ⟨B 0,0,none⟩)):=Lst.ix (n:=B 0) (j:=0) ⟨by omega,by omega⟩
   obtain⟨H9,w9,e9,q9⟩:=h3.wr (j:=0) (x:=y2) (by omega)
   ((try simp (maxSteps:=3000000) (dsimp:=false) (disch:=first|omega|simp only[lnx];omega) only[↓ypre,ypost,↓reduceIte,reduceEqDiff,reduceAdd,reduceSub,reduceLeDiff,zz0,ynew,f0,f1,f2,f3,f9,ixb,w9]);try simp only[yback])
   have rZ:=r8.set0 (f:=g) (l:=(rows.getD 0 []).set 0 y2) (by omega) (by rw[List.length_set])
   rw[←e9] at rZ
   have kZ:Kp n h H9:=e9▸((kk6.trans (Kp.of p7)).trans k8).putb (by omega)
   have sZ:Src h0 H9 n:=e9▸s8.putb (by omega) (by omega)
   have eL:(rows.set 0 ((rows.getD 0 []).set 0 y2)).length=rows.length:=List.length_set
   rw[←eL]
   refine hQ _ _ H9 kZ sZ ⟨rZ.kN,by omega,fun i hi=>?_⟩
   rw[eL] at hi
   by_cases hi0:i=0
   ·subst hi0
    rw[List.getD_eq_getElem?_getD (l:=rows.set 0 _),List.getElem?_set_self (by omega)]
    simp only[Option.getD_some,List.length_set]
    omega
   ·rw[List.getD_eq_getElem?_getD (l:=rows.set 0 _),List.getElem?_set_ne (by omega),←List.getD_eq_getElem?_getD]
    have:=hw i hi
    omega
theorem MatD.kp {lo n:Nat} {h h':AH} {v:Value} {rows:List (List Int)} (d:MatD lo h v rows) (k:Kp n h h') (hn:n<lo):MatD lo h' v rows:=⟨KN.kp d.kn k hn,d.len,d.row⟩
theorem OQ_C2 {f:Fr} {h:AH} {a b c n e:Nat} {cl:List Value} {ro fl:Bool} {x y:Value} {Q:Value→AH→Prop} (fa:f a=.pointer (some ⟨n,0,none⟩)) (fb:f b=x) (fc:f c=y)
  (ha:h.get n=some ⟨cl,e,ro,fl⟩) (hl:cl.length=5) (hQ:Q (.tuple #[.agg cl.toArray,x,y]) h):OQ (Option.map (fun x=>(x,h)) (xres f h [.celln a 5,.tmp b,.tmp c])) Q:=by
 rw[xres_3 (xresn fa ha hl) (show xres1 f h (.tmp b)=some x by rw[xres1_tmp,fb]) (show xres1 f h (.tmp c)=some y by rw[xres1_tmp,fc]),Option.map_some,OQ_some]
 exact hQ
theorem s_DrawMakeProduct {h:AH} {cv:Value} {code:List (List Int)} {Q:Value→AH→Prop} (c:Cod h cv code)
  (hQ:∀ (x:Sch) (v:Value) (L R:List (List Int)) (a b:Value) (h':AH),h<+:h'→SchD h.length h' v x→SchB x→MatD h.length h' a L→MatD h.length h' b R→Q (.tuple #[schV x v,a,b]) h'):WF S 67 [cv] h Q:=by
 refine WF_fn (fn:=c67) rfl rfl ?_
 dsimp only[c67,oO,oM,oS,oG,oK,oE,oL,oF,oX,oN]
 ((try simp (maxSteps:=3000000) (dsimp:=false) (disch:=first|omega|simp only[lnx];omega) only[↓ypre,ypost,↓reduceIte,reduceEqDiff,reduceAdd,reduceSub,reduceLeDiff,zz0,ynew]);try simp only[yback])
 generalize hH1:AH.new h _=H1
 obtain⟨hb1,p1,n1⟩:=new_facts hH1
 refine s_l01From (c.els.pre p1) c.byt c.len fun H2 p2 l2 s2=>?_
 have n2:=s2.lt
 ((try simp (maxSteps:=3000000) (dsimp:=false) (disch:=first|omega|simp only[lnx];omega) only[↓ypre,ypost,↓reduceIte,reduceEqDiff,reduceAdd,reduceSub,reduceLeDiff,zz0,ynew]);try simp only[yback])
 refine s_l01Spoil s2 fun x v H3 k3 s3 sd xb=>?_
 have g1:=k3.get (by omega) (pre_get p2 hb1)
 have k3l:=k3.len
 obtain⟨b1,b2,b3,b4,b5⟩:=xb
 have o1:isOne v=true:=sd.now.one
 refine WO_cut (fun f:Fr=>f 2=.pointer (some ⟨h.length,0,none⟩)∧f 5=srcP H1.length∧f 11=schV x v∧True) ⟨(by first|rfl|simp[upd_apply]),(by first|rfl|simp[upd_apply]),(by first|rfl|simp[upd_apply]),trivial⟩ ?_
 rintro f ⟨f2,f5,f11,-⟩
 ((try simp (maxSteps:=3000000) (dsimp:=false) (disch:=first|omega|simp only[lnx];omega) only[↓ypre,ypost,↓reduceIte,reduceEqDiff,reduceAdd,reduceSub,reduceLeDiff,zz0,ynew,f2,f5,f11,schV,o1]);try simp only[yback])
 generalize hH4:AH.new H3 _=H4
 obtain⟨hb4,p4,n4⟩:=new_facts hH4
 have g1:=pre_get p4 g1
 have sd:SchD H2.length H4 v x:=KN.pre sd p4
 have s4:=s3.kp p4
 ((try simp (maxSteps:=3000000) (dsimp:=false) (disch:=first|omega|simp only[lnx];omega) only[↓ypre,ypost,↓reduceIte,reduceEqDiff,reduceAdd,reduceSub,reduceLeDiff,zz0,ynew,f2,f5,f11,rdn_of hb4,rd1_of hb4,WX_mm,mmT,mmF]);try simp only[yback])
 refine⟨by omega,?_⟩
 refine s_l01Rows s4 b2 fun L a H5 k5 s5 dL=>?_
 refine⟨⟨_,rfl,k5⟩,?_⟩
 have g1:=k5.get (by omega) g1
 have g4:=k5.get (by omega) hb4
 have sd:SchD H2.length H5 v x:=KN.kp sd k5 (by omega)
 have k5l:=k5.len
 refine WO_cut (fun f:Fr=>f 2=.pointer (some ⟨h.length,0,none⟩)∧f 5=srcP H1.length∧f 6=.pointer (some ⟨H3.length,0,none⟩)∧f 7=I64 (min (max x.p 1) 5)∧f 16=schV x v∧f 17=srcP H1.length∧f 23=a∧True) ⟨(by first|rfl|exact f2|simp[upd_apply,f2]),(by first|rfl|exact f5|simp[upd_apply,f5]),(by first|rfl|simp[upd_apply]),(by first|rfl|simp[upd_apply]),(by first|rfl|simp[upd_apply]),(by first|rfl|simp[upd_apply]),(by first|rfl|simp[upd_apply]),trivial⟩ ?_
 rintro f ⟨f2,f5,f6,f7,f16,f17,f23,-⟩
 ((try simp (maxSteps:=3000000) (dsimp:=false) (disch:=first|omega|simp only[lnx];omega) only[↓ypre,ypost,↓reduceIte,reduceEqDiff,reduceAdd,reduceSub,reduceLeDiff,zz0,ynew,f2,f5,f6,f7,f16,f17,f23,rd1_of g4]);try simp only[yback])
 refine⟨by omega,by omega,by omega,?_⟩
 refine s_l01Rows s5 b3 fun R b H6 k6 s6 dR=>?_
 refine⟨⟨_,rfl,k6⟩,?_⟩
 have g1:=k6.get (by omega) g1
 have sd:SchD H2.length H6 v x:=KN.kp sd k6 (by omega)
 have dL:=dL.kp k6 (by omega)
 have k6l:=k6.len
 have o1:isOne v=true:=sd.now.one
 refine WO_cut (fun f:Fr=>f 2=.pointer (some ⟨h.length,0,none⟩)∧f 16=schV x v∧f 23=a∧f 30=b∧True) ⟨(by first|rfl|exact f2|simp[upd_apply,f2]),(by first|rfl|exact f16|simp[upd_apply,f16]),(by first|rfl|exact f23|simp[upd_apply,f23]),(by first|rfl|simp[upd_apply]),trivial⟩ ?_
 rintro f ⟨f2,f16,f23,f30,-⟩
 ((try simp (maxSteps:=3000000) (dsimp:=false) (disch:=first|omega|simp only[lnx];omega) only[↓ypre,ypost,↓reduceIte,reduceEqDiff,reduceAdd,reduceSub,reduceLeDiff,zz0,ynew,f2,f16,f23,f30,schV,o1,wr_of g1,splice_eq]);try simp only[yback])
 generalize hHF:AH.put H6 _ _=HF
 have F1:HF.get h.length=some ⟨[I64 x.p,I64 x.n,I64 x.m,I64 x.k,v],26,false,true⟩:=hHF▸get_put_same (by omega)
 refine OQ_C2 (x:=a) (y:=b) (a:=2) (b:=3) (c:=4) (n:=h.length) ?_ ?_ ?_ F1 rfl (hQ x v L R a b HF (hHF▸pre_put (p1.trans s6.p) (Nat.le_refl _)) ?_ ⟨b1,b2,b3,b4,b5⟩ ?_ ?_)
 ·exact f2
 ·rfl
 ·rfl
 ·exact hHF▸(KN.mono (KN.put sd (by omega)) (by omega))
 ·exact⟨hHF▸(KN.mono (KN.put dL.kn (by omega)) (by omega)),dL.len,dL.row⟩
 ·exact⟨hHF▸(KN.mono (KN.put dR.kn (by omega)) (by omega)),dR.len,dR.row⟩
theorem xres_t3 {f:Fr} {h:AH} {a b c:Nat}:xres f h [.tmp a,.tmp b,.tmp c]=some (.tuple #[f a,f b,f c]):=xres_3 rfl rfl rfl
theorem s_l07Draw {h0 h:AH} {n:Nat} {Q:Value→AH→Prop} (s:Src h0 h n)
  (hQ:∀ (p m:Int) (rows:List (List Int)) (v:Value) (h':AH),0≤p∧p≤5→0≤m∧m≤31→Kp n h h'→Src h0 h' n→MatD h.length h' v rows→Q (.tuple #[I64 p,I64 m,v]) h'):WF S 201 [srcP n] h Q:=by
 refine WF_fn (fn:=c201) rfl rfl ?_
 dsimp only[c201,oO,oM,oS,oG,oK,oE,oL,oF,oX,oN]
 have lt:=s.lt
 have l0:=pre_len s.p
 ((try simp (maxSteps:=3000000) (dsimp:=false) (disch:=first|omega|simp only[lnx];omega) only[↓ypre,ypost,↓reduceIte,reduceEqDiff,reduceAdd,reduceSub,reduceLeDiff,zz0,ynew,fillL,zrep]);try simp only[yback])
 generalize hH1:AH.new h _=H1
 obtain⟨hb1,p1,n1⟩:=new_facts hH1
 have kv:=kp_new (n:=n) (ns:=[2,2,3,5]) hH1 (by omega)
 refine s_l01Pick (s.kp p1) kv (by simp) (by simp) fun j H2 k2 l2 s2 hj=>?_
 have bp:=pick_in (l:=[2,2,3,5]) (a:=2) (b:=5) (by simp) hj
 generalize ([2,2,3,5]:List Int).getD j 0=p at bp
 have n2:=s2.lt
 refine WO_cut (fun f:Fr=>f 0=srcP n∧f 14=I64 p∧True) ⟨(by first|rfl|simp[upd_apply]),(by first|rfl|simp[upd_apply]),trivial⟩ ?_
 rintro f ⟨f0,f14,-⟩
 ((try simp (maxSteps:=3000000) (dsimp:=false) (disch:=first|omega|simp only[lnx];omega) only[↓ypre,ypost,↓reduceIte,reduceEqDiff,reduceAdd,reduceSub,reduceLeDiff,zz0,ynew,f0,f14,fillL,zrep]);try simp only[yback])
 generalize hH3:AH.new H2 _=H3
 obtain⟨hb3,p3,n3⟩:=new_facts hH3
 have kv:=kp_new (n:=n) (ns:=[2,3,4,4,6,9]) hH3 (by omega)
 refine s_l01Pick (s2.kp p3) kv (by simp) (by simp) fun j H4 k4 l4 s4 hj=>?_
 have bn:=pick_in (l:=[2,3,4,4,6,9]) (a:=2) (b:=9) (by simp) hj
 generalize ([2,3,4,4,6,9]:List Int).getD j 0=m at bn
 obtain⟨N,rfl⟩:∃ N:Nat,m=N:=⟨m.toNat,by omega⟩
 have n4:=s4.lt
 have kk4:Kp n h H4:=((Kp.of p1).trans k2).trans ((Kp.of p3).trans k4)
 have k4l:=kk4.len
 refine WO_cut (fun f:Fr=>f 0=srcP n∧f 14=I64 p∧f 17=I64 N∧True) ⟨(by first|rfl|exact f0|simp[upd_apply,f0]),(by first|rfl|exact f14|simp[upd_apply,f14]),(by first|rfl|simp[upd_apply]),trivial⟩ ?_
 rintro f ⟨f0,f14,f17,-⟩
 ((try simp (maxSteps:=3000000) (dsimp:=false) (disch:=first|omega|simp only[lnx];omega) only[↓ypre,ypost,↓reduceIte,reduceEqDiff,reduceAdd,reduceSub,reduceLeDiff,zz0,ynew,f0,f14,f17,fillL,zrep]);try simp only[yback])
 generalize hH5:AH.new H4 _=H5
 obtain⟨hb5,p5,n5⟩:=new_facts hH5
 generalize hH6:AH.new H5 _=H6
 obtain⟨hb6,p6,n6⟩:=new_facts hH6
 have kv:=kp_new (n:=n) (ns:=[1,2,3,4,7]) hH6 (by omega)
 refine s_l01Pick ((s4.kp p5).kp p6) kv (by simp) (by simp) fun j H7 k7 l7 s7 hj=>?_
 have bK:=pick_in (l:=[1,2,3,4,7]) (a:=1) (b:=7) (by simp) hj
 generalize ([1,2,3,4,7]:List Int).getD j 0=K0 at bK
 obtain⟨K,rfl⟩:∃ K:Nat,K0=K:=⟨K0.toNat,by omega⟩
 have hb5:=k7.get (by omega) (pre_get p6 hb5)
 have k7l:=k7.len
 have kk7:Kp n h H7:=(kk4.trans (Kp.of (p5.trans p6))).trans k7
 refine WO_cut (fun f:Fr=>f 0=srcP n∧f 5=I64 p∧f 6=I64 N∧f 7=sl H4.length 0∧f 21=I64 K∧True) ⟨(by first|rfl|exact f0|simp[upd_apply,f0]),(by first|rfl|simp[upd_apply]),(by first|rfl|simp[upd_apply]),(by first|rfl|simp[upd_apply]),(by first|rfl|simp[upd_apply]),trivial⟩ ?_
 rintro f ⟨f0,f5,f6,f7,f21,-⟩
 ((try simp (maxSteps:=3000000) (dsimp:=false) (disch:=first|omega|simp only[lnx];omega) only[↓ypre,ypost,↓reduceIte,reduceEqDiff,reduceAdd,reduceSub,reduceLeDiff,zz0,ynew,f0,f5,f6,f7,f21]);try simp only[yback])
 refine WC_loop_inv (fun m f K1=>∃ (i:Nat) (rows:List (List Int)) (kb:Nat) (fu:Bool) (B:(Nat→Nat)) (cs:List Value),m=K-i∧i≤K∧f 0=srcP n∧f 5=I64 p∧f 6=I64 N∧f 7=sl kb rows.length∧f 8=I64 ((K-i:Nat):Int)∧(Kp n h K1)∧(Src h0 K1 n)∧(rows.length=i)∧(h.length≤kb)∧(RowD h.length K1 kb fu rows B cs)∧(∀ j,j<rows.length→B j<K1.length)∧(∀ j,j<rows.length→(rows.getD j []).length=N)) ?_ (K-0) _ _ ⟨0,[],H4.length,true,(fun _=>0),[],rfl,by omega,(by first|rfl|exact f0|(simp[upd_apply];done)),(by first|rfl|exact f5|(simp[upd_apply];done)),(by first|rfl|exact f6|(simp[upd_apply];done)),(by first|rfl|exact f7|(simp[upd_apply];done)),(by first|rfl|simp[upd_apply]),kk7,s7,rfl,(by omega),⟨hb5,rfl,by omega,fun i hi=>by simp at hi,fun i j _ hj=>by simp at hj⟩,fun j hj=>by simp at hj,fun j hj=>by simp at hj⟩
 rintro m f K1 ⟨i,rows,kb,fu,B,cs,rfl,hi,f0,f5,f6,f7,f8,kk,ss,li,hq,r,hB,hw⟩
 have lkb:=get_lt r.get
 have kkl:=kk.len
 by_cases hlt:((K-i:Nat):Int)>0
 ·((try simp (maxSteps:=3000000) (dsimp:=false) (disch:=first|omega|simp only[lnx];omega) only[↓ypre,ypost,↓reduceIte,reduceEqDiff,reduceAdd,reduceSub,reduceLeDiff,zz0,ynew,f0,f5,f6,f7,f8,decide_eq_true hlt,fillL,zrep]);try simp only[yback])
  generalize hH2:AH.new K1 _=G2
  obtain⟨hg2,q2,m2⟩:=new_facts hH2
  refine WC_loop_inv (fun m f K2=>∃ (k:Nat) (l:List Int) (k2:Nat) (fl:Bool),m=N-k∧k≤N∧f 0=srcP n∧f 5=I64 p∧f 6=I64 N∧f 7=sl kb rows.length∧f 8=I64 ((K-i:Nat):Int)∧f 9=sl k2 l.length∧f 10=I64 k∧(Kp n K1 K2)∧(Src h0 K2 n)∧(l.length=k)∧(K1.length≤k2)∧(Lst K2 k2 l fl)) ?_ (N-0) _ _ ⟨0,[],K1.length,true,rfl,by omega,(by first|rfl|exact f0|(simp[upd_apply];done)),(by first|rfl|exact f5|(simp[upd_apply];done)),(by first|rfl|exact f6|(simp[upd_apply];done)),(by first|rfl|exact f7|(simp[upd_apply];done)),(by first|rfl|exact f8|(simp[upd_apply];done)),(by first|rfl|simp[upd_apply]),(by first|rfl|simp[upd_apply]),Kp.of q2,ss.kp q2,rfl,Nat.le_refl _,hg2⟩
  rintro m f K2 ⟨k,l,k2,fl,rfl,hk,f0,f5,f6,f7,f8,f9,f10,kk2,s2,lk,hk2,q⟩
  have kk2l:=kk2.len
  have lq:=get_lt q
  by_cases hk:(k:Int)<N
  ·((try simp (maxSteps:=3000000) (dsimp:=false) (disch:=first|omega|simp only[lnx];omega) only[↓ypre,ypost,↓reduceIte,reduceEqDiff,reduceAdd,reduceSub,reduceLeDiff,zz0,ynew,f0,f5,f6,f7,f8,f9,f10,decide_eq_true hk]);try simp only[yback])
   refine s_l01Next s2 fun x H8 k8 l8 s8 hx _=>?_
   have hx:=hx (by omega)
   ((try simp (maxSteps:=3000000) (dsimp:=false) (disch:=first|omega|simp only[lnx];omega) only[↓ypre,ypost,↓reduceIte,reduceEqDiff,reduceAdd,reduceSub,reduceLeDiff,zz0,ynew,f0,f5,f6,f7,f8,f9,f10]);try simp only[yback])
   refine s_l01Next s8 fun y H9 k9 l9 s9 hy _=>?_
   have hy:=hy (by omega)
   have hxy:=mul_in (a:=x) (b:=y) (A:=5) (B:=1) ⟨hx.1,by omega⟩ ⟨hy.1,by omega⟩
   have q:=k9.get (by omega) (k8.get (by omega) q)
   have lq:=get_lt q
   have n9:=s9.lt
   ((try simp (maxSteps:=3000000) (dsimp:=false) (disch:=first|omega|simp only[lnx];omega) only[↓ypre,ypost,↓reduceIte,reduceEqDiff,reduceAdd,reduceSub,reduceLeDiff,zz0,ynew,f0,f5,f6,f7,f8,f9,f10,wrap64_in,fillL,zrep]);try simp only[yback])
   refine lst_app q (by omega) fun HA lA kA qA=>?_
   ((try simp (maxSteps:=3000000) (dsimp:=false) (disch:=first|omega|simp only[lnx];omega) only[↓ypre,ypost,↓reduceIte,reduceEqDiff,reduceAdd,reduceSub,reduceLeDiff,zz0,ynew,f0,f5,f6,f7,f8,f9,f10,wrap64_in]);try simp only[yback])
   refine InvQ_go (N-(k+1)) (by omega) ⟨(k+1),(l++[x*y]),(H9.length+1),false,rfl,by omega,(by first|rfl|exact f0|(simp only[upd_apply];rfl)|(show I64 _=_;congr 1;omega)),(by first|rfl|exact f5|(simp only[upd_apply];rfl)|(show I64 _=_;congr 1;omega)),(by first|rfl|exact f6|(simp only[upd_apply];rfl)|(show I64 _=_;congr 1;omega)),(by first|rfl|exact f7|(simp only[upd_apply];rfl)|(show I64 _=_;congr 1;omega)),(by first|rfl|exact f8|(simp only[upd_apply];rfl)|(show I64 _=_;congr 1;omega)),(by first|rfl|exact f9|(simp only[upd_apply];rfl)|(show I64 _=_;congr 1;omega)),(by first|rfl|exact f10|(simp only[upd_apply];rfl)|(show I64 _=_;congr 1;omega)),((kk2.trans (k8.trans k9)).over kA (by omega)),(s9.over kA (by omega) (by have:=pre_len s.p;omega)),(by rw[List.length_append,lk];rfl),(by omega),qA⟩
  ·have ek:k=N:=by omega
   have r2:=r.kp kk2 (by omega)
   by_cases hi0:¬ (rows.length:Int)>0
   ·((try simp (maxSteps:=3000000) (dsimp:=false) (disch:=first|omega|simp only[lnx];omega) only[↓ypre,ypost,↓reduceIte,reduceEqDiff,reduceAdd,reduceSub,reduceLeDiff,zz0,ynew,f0,f5,f6,f7,f8,f9,f10,decide_eq_false hk,lenV_sl,decide_eq_false hi0,fillL,zrep,cellsL_sl,isOne_sl]);try simp only[yback])
    refine rowd_app r2 (by omega) (by omega) (by omega) (fun j hj=>by have:=hB j hj;omega) q fun HZ lZ kZ rZ=>?_
    ((try simp (maxSteps:=3000000) (dsimp:=false) (disch:=first|omega|simp only[lnx];omega) only[↓ypre,ypost,↓reduceIte,reduceEqDiff,reduceAdd,reduceSub,reduceLeDiff,zz0,ynew,f0,f5,f6,f7,f8,f9,f10,wrap64_in]);try simp only[yback])
    have hB2:∀ j,j<(rows++[l]).length→(if j<rows.length then B j else k2)<HZ.length:=fun j hj=>by
     split
     ·rename_i hjr
      have:=hB j hjr
      omega
     ·omega
    have hw2:∀ j,j<(rows++[l]).length→((rows++[l]).getD j []).length=N:=fun j hj=>by
     rw[getD_snocD]
     split
     ·rename_i hjr
      exact hw j hjr
     ·rw[if_pos (by simp at hj;omega)]
      omega
    refine InvQ_go (K-(i+1)) (by omega) ⟨(i+1),(rows++[l]),(K2.length+1),false,_,_,rfl,by omega,(by first|rfl|exact f0|(simp only[upd_apply];rfl)|(show I64 _=_;congr 1;omega)),(by first|rfl|exact f5|(simp only[upd_apply];rfl)|(show I64 _=_;congr 1;omega)),(by first|rfl|exact f6|(simp only[upd_apply];rfl)|(show I64 _=_;congr 1;omega)),(by first|rfl|exact f7|(simp only[upd_apply];rfl)|(show I64 _=_;congr 1;omega)),(by first|rfl|exact f8|(simp only[upd_apply];rfl)|(show I64 _=_;congr 1;omega)),((kk.trans kk2).over kZ (by omega)),(s2.over kZ (by omega) (by omega)),(by rw[List.length_append,li];rfl),(by omega),rZ,hB2,hw2⟩
   have hi0:=Decidable.not_not.1 hi0
   ((try simp (maxSteps:=3000000) (dsimp:=false) (disch:=first|omega|simp only[lnx];omega) only[↓ypre,ypost,↓reduceIte,reduceEqDiff,reduceAdd,reduceSub,reduceLeDiff,zz0,ynew,f0,f5,f6,f7,f8,f9,f10,decide_eq_false hk,lenV_sl,decide_eq_true hi0]);try simp only[yback])
   refine s_l01Next s2 fun x H8 k8 l8 s8 _ _=>?_
   have r8:=r2.kp k8 (by omega)
   have q8:=k8.get (by omega) q
   have k8l:=k8.len
   by_cases x0:¬ x=0
   ·((try simp (maxSteps:=3000000) (dsimp:=false) (disch:=first|omega|simp only[lnx];omega) only[↓ypre,ypost,↓reduceIte,reduceEqDiff,reduceAdd,reduceSub,reduceLeDiff,zz0,ynew,f0,f5,f6,f7,f8,f9,f10,decide_eq_false x0,fillL,zrep,cellsL_sl,isOne_sl]);try simp only[yback])
    refine rowd_app r8 (by omega) (by omega) (by omega) (fun j hj=>by have:=hB j hj;omega) q8 fun HZ lZ kZ rZ=>?_
    ((try simp (maxSteps:=3000000) (dsimp:=false) (disch:=first|omega|simp only[lnx];omega) only[↓ypre,ypost,↓reduceIte,reduceEqDiff,reduceAdd,reduceSub,reduceLeDiff,zz0,ynew,f0,f5,f6,f7,f8,f9,f10,wrap64_in]);try simp only[yback])
    have hB2:∀ j,j<(rows++[l]).length→(if j<rows.length then B j else k2)<HZ.length:=fun j hj=>by
     split
     ·rename_i hjr
      have:=hB j hjr
      omega
     ·omega
    have hw2:∀ j,j<(rows++[l]).length→((rows++[l]).getD j []).length=N:=fun j hj=>by
     rw[getD_snocD]
     split
     ·rename_i hjr
      exact hw j hjr
     ·rw[if_pos (by simp at hj;omega)]
      omega
    refine InvQ_go (K-(i+1)) (by omega) ⟨(i+1),(rows++[l]),(H8.length+1),false,_,_,rfl,by omega,(by first|rfl|exact f0|(simp only[upd_apply];rfl)|(show I64 _=_;congr 1;omega)),(by first|rfl|exact f5|(simp only[upd_apply];rfl)|(show I64 _=_;congr 1;omega)),(by first|rfl|exact f6|(simp only[upd_apply];rfl)|(show I64 _=_;congr 1;omega)),(by first|rfl|exact f7|(simp only[upd_apply];rfl)|(show I64 _=_;congr 1;omega)),(by first|rfl|exact f8|(simp only[upd_apply];rfl)|(show I64 _=_;congr 1;omega)),(((kk.trans kk2).trans k8).over kZ (by omega)),(s8.over kZ (by omega) (by omega)),(by rw[List.length_append,li];rfl),(by omega),rZ,hB2,hw2⟩
   have x0:=Decidable.not_not.1 x0
   obtain⟨e1,e2,⟨g,e3⟩,e4⟩:=r8.row (rows.length-1) (by omega)
   have eN:=hw (rows.length-1) (by omega)
   have ixl:ixsV 1 (sl kb rows.length) (I64 ((rows.length:Int)-1))=some (.pointer (some ⟨kb,rows.length-1,none⟩)):=by
    have:=Lst.ix (n:=kb) (j:=(rows.length:Int)-1) (len:=rows.length) ⟨by omega,by omega⟩
    rw[this]
    congr 4
    omega
   have rdl:H8.rd1 kb (rows.length-1)=some (sl (B (rows.length-1)) (rows.getD (rows.length-1) []).length):=by
    rw[←e2,rd1_of r8.get]
    exact getq (by rw[r8.len];omega)
   ((try simp (maxSteps:=3000000) (dsimp:=false) (disch:=first|omega|simp only[lnx];omega) only[↓ypre,ypost,↓reduceIte,reduceEqDiff,reduceAdd,reduceSub,reduceLeDiff,zz0,ynew,f0,f5,f6,f7,f8,f9,f10,decide_eq_true x0,lenV_sl,wrap64_in,ixl,rdl]);try simp only[yback])
   refine s_OwnT e3.ints (by omega) (by omega) fun kc H9 hkc p9 q9=>?_
   have s9:=s8.kp p9
   have p9l:=p9.length_le
   have lq9:=get_lt q9
   rw[eN]
   generalize hll:rows.getD (rows.length-1) []=lst at eN q9
   ((try simp (maxSteps:=3000000) (dsimp:=false) (disch:=first|omega|simp only[lnx];omega) only[↓ypre,ypost,↓reduceIte,reduceEqDiff,reduceAdd,reduceSub,reduceLeDiff,zz0,ynew,f0,f5,f6,f7,f8,f9,f10]);try simp only[yback])
   refine s_l01Next s9 fun a HA kA lA sA ha _=>?_
   have ha:=ha (by omega)
   obtain⟨a,rfl⟩:∃ a':Nat,a=a':=⟨a.toNat,by omega⟩
   ((try simp (maxSteps:=3000000) (dsimp:=false) (disch:=first|omega|simp only[lnx];omega) only[↓ypre,ypost,↓reduceIte,reduceEqDiff,reduceAdd,reduceSub,reduceLeDiff,zz0,ynew,f0,f5,f6,f7,f8,f9,f10]);try simp only[yback])
   refine s_l01Next sA fun b HB kB lB sB hb _=>?_
   have n8:=s8.lt
   have qB:Lst HB kc lst false:=kB.get (by omega) (kA.get (by omega) q9)
   have ixa:ixsV 1 (sl kc N) (I64 a)=some (.pointer (some ⟨kc,a,none⟩)):=Lst.ix (j:=(a:Int)) ⟨by omega,by omega⟩
   obtain⟨HC,wC,eC,qC⟩:=qB.wr (j:=a) (x:=b) (by omega)
   have kC:Kp n H8 HC:=eC▸(((Kp.of p9).trans kA).trans kB).putb (by omega)
   have sC:Src h0 HC n:=eC▸sB.putb (by omega) (by omega)
   have rC:=r8.kp kC (by omega)
   have lC:(lst.set a b).length=N:=by rw[List.length_set];exact eN
   have hCl:HC.length=HB.length:=by rw[eC,len_put]
   ((try simp (maxSteps:=3000000) (dsimp:=false) (disch:=first|omega|simp only[lnx];omega) only[↓ypre,ypost,↓reduceIte,reduceEqDiff,reduceAdd,reduceSub,reduceLeDiff,zz0,ynew,f0,f5,f6,f7,f8,f9,f10,ixa,wC]);try simp only[yback])
   rw[show sl kc N=sl kc (lst.set a b).length by rw[lC]]
   ((try simp (maxSteps:=3000000) (dsimp:=false) (disch:=first|omega|simp only[lnx];omega) only[↓ypre,ypost,↓reduceIte,reduceEqDiff,reduceAdd,reduceSub,reduceLeDiff,zz0,ynew,f0,f5,f6,f7,f8,f9,f10,fillL,zrep,cellsL_sl,isOne_sl]);try simp only[yback])
   have kCl:=kC.len
   refine rowd_app rC (by omega) (by omega) (by omega) (fun j hj=>by have:=hB j hj;omega) qC fun HZ lZ kZ rZ=>?_
   ((try simp (maxSteps:=3000000) (dsimp:=false) (disch:=first|omega|simp only[lnx];omega) only[↓ypre,ypost,↓reduceIte,reduceEqDiff,reduceAdd,reduceSub,reduceLeDiff,zz0,ynew,f0,f5,f6,f7,f8,f9,f10,wrap64_in]);try simp only[yback])
   have hB2:∀ j,j<(rows++[lst.set a b]).length→(if j<rows.length then B j else kc)<HZ.length:=fun j hj=>by
    split
    ·rename_i hjr
     have:=hB j hjr
     omega
    ·omega
   have hw2:∀ j,j<(rows++[lst.set a b]).length→((rows++[lst.set a b]).getD j []).length=N:=fun j hj=>by
    rw[getD_snocD]
    split
    ·rename_i hjr
     exact hw j hjr
    ·rw[if_pos (by simp at hj;omega)]
     omega
   refine InvQ_go (K-(i+1)) (by omega) ⟨(i+1),(rows++[lst.set a b]),(HC.length+1),false,_,_,rfl,by omega,(by first|rfl|exact f0|(simp only[upd_apply];rfl)|(show I64 _=_;congr 1;omega)),(by first|rfl|exact f5|(simp only[upd_apply];rfl)|(show I64 _=_;congr 1;omega)),(by first|rfl|exact f6|(simp only[upd_apply];rfl)|(show I64 _=_;congr 1;omega)),(by first|rfl|exact f7|(simp only[upd_apply];rfl)|(show I64 _=_;congr 1;omega)),(by first|rfl|exact f8|(simp only[upd_apply];rfl)|(show I64 _=_;congr 1;omega)),((((kk.trans kk2).trans k8).trans kC).over kZ (by omega)),(sC.over kZ (by omega) (by omega)),(by rw[List.length_append,li];rfl),(by omega),rZ,hB2,hw2⟩
 ·have ei:i=K:=by omega
  ((try simp (maxSteps:=3000000) (dsimp:=false) (disch:=first|omega|simp only[lnx];omega) only[↓ypre,ypost,↓reduceIte,reduceEqDiff,reduceAdd,reduceSub,reduceLeDiff,zz0,ynew,f0,f5,f6,f7,f8,decide_eq_false hlt]);try simp only[yback])
  refine s_l01Next ss fun x H8 k8 l8 s8 _ _=>?_
  have r8:=r.kp k8 (by omega)
  have kk8:=kk.trans k8
  have md:MatD h.length H8 (sl kb rows.length) rows:=⟨r8.kN,by omega,fun i hi=>by have:=hw i hi;omega⟩
  have n8:=s8.lt
  by_cases x0:x=0
  ·((try simp (maxSteps:=3000000) (dsimp:=false) (disch:=first|omega|simp only[lnx];omega) only[↓ypre,ypost,↓reduceIte,reduceEqDiff,reduceAdd,reduceSub,reduceLeDiff,zz0,ynew,f0,f5,f6,f7,f8,decide_eq_true x0,fillL,zrep]);try simp only[yback])
   generalize hH9:AH.new H8 _=H9
   obtain⟨hb9,p9,n9⟩:=new_facts hH9
   have kv:=kp_new (n:=n) (ns:=[4,0]) hH9 (by omega)
   refine s_l01Pick (s8.kp p9) kv (by simp) (by simp) fun j HA kA lA sA hj=>?_
   have by2:=pick_in (l:=[4,0]) (a:=0) (b:=4) (by simp) hj
   generalize ([4,0]:List Int).getD j 0=y at by2
   ((try simp (maxSteps:=3000000) (dsimp:=false) (disch:=first|omega|simp only[lnx];omega) only[↓ypre,ypost,↓reduceIte,reduceEqDiff,reduceAdd,reduceSub,reduceLeDiff,zz0,ynew,f0,f5,f6,f7,f8,xres_t3]);try simp only[yback])
   exact hQ y N rows _ HA (by omega) (by omega) ((kk8.trans (Kp.of p9)).trans kA) sA ((md.kp (Kp.of p9) lt).kp kA lt)
  by_cases x1:x=1
  ·((try simp (maxSteps:=3000000) (dsimp:=false) (disch:=first|omega|simp only[lnx];omega) only[↓ypre,ypost,↓reduceIte,reduceEqDiff,reduceAdd,reduceSub,reduceLeDiff,zz0,ynew,f0,f5,f6,f7,f8,decide_eq_false x0,decide_eq_true x1,wrap64_in,fillL,zrep]);try simp only[yback])
   generalize hH9:AH.new H8 _=H9
   obtain⟨hb9,p9,n9⟩:=new_facts hH9
   have kv:=kp_new (n:=n) (ns:=[0,(N:Int)+1,31]) hH9 (by omega)
   refine s_l01Pick (s8.kp p9) kv (by simp) (by simp) fun j HA kA lA sA hj=>?_
   have by2:=pick_in (l:=[0,(N:Int)+1,31]) (a:=0) (b:=31) (by simp;omega) hj
   generalize ([0,(N:Int)+1,31]:List Int).getD j 0=y at by2
   ((try simp (maxSteps:=3000000) (dsimp:=false) (disch:=first|omega|simp only[lnx];omega) only[↓ypre,ypost,↓reduceIte,reduceEqDiff,reduceAdd,reduceSub,reduceLeDiff,zz0,ynew,f0,f5,f6,f7,f8,xres_t3]);try simp only[yback])
   exact hQ p y rows _ HA (by omega) (by omega) ((kk8.trans (Kp.of p9)).trans kA) sA ((md.kp (Kp.of p9) lt).kp kA lt)
  by_cases x2:¬ x=2
  ·((try simp (maxSteps:=3000000) (dsimp:=false) (disch:=first|omega|simp only[lnx];omega) only[↓ypre,ypost,↓reduceIte,reduceEqDiff,reduceAdd,reduceSub,reduceLeDiff,zz0,ynew,f0,f5,f6,f7,f8,decide_eq_false x0,decide_eq_false x1,decide_eq_false x2,xres_t3]);try simp only[yback])
   exact hQ p N rows _ H8 (by omega) (by omega) kk8 s8 md
  have x2:=Decidable.not_not.1 x2
  have ix0:ixsV 1 (sl kb rows.length) (I64 0)=some (.pointer (some ⟨kb,0,none⟩)):=Lst.ix (n:=kb) (j:=0) (len:=rows.length) ⟨by omega,by omega⟩
  obtain⟨h1,h2,⟨g,h3⟩,h4'⟩:=r8.row 0 (by omega)
  have rd0:H8.rd1 kb 0=some (sl (B 0) (rows.getD 0 []).length):=by
   rw[←h2,rd1_of r8.get]
   have:0<cs.length:=by rw[r8.len];omega
   simp[List.getD_eq_getElem?_getD,List.getElem?_eq_getElem this]
  have w0:=hw 0 (by omega)
  ((try simp (maxSteps:=3000000) (dsimp:=false) (disch:=first|omega|simp only[lnx];omega) only[↓ypre,ypost,↓reduceIte,reduceEqDiff,reduceAdd,reduceSub,reduceLeDiff,zz0,ynew,f0,f5,f6,f7,f8,decide_eq_false x0,decide_eq_false x1,decide_eq_true x2,ix0,rd0,fillL,zrep]);try simp only[yback])
  generalize hH9:AH.new H8 _=H9
  obtain⟨hb9,p9,n9⟩:=new_facts hH9
  have kv:=kp_new (n:=n) (ns:=[p,-1]) hH9 (by omega)
  refine s_l01Pick (s8.kp p9) kv (by simp) (by simp) fun j HA kA lA sA hj=>?_
  generalize ([p,-1]:List Int).getD j 0=y
  have rA:=(r8.kp (Kp.of p9) lt).kp kA lt
  obtain⟨h1,h2,⟨g,h3⟩,h4'⟩:=rA.row 0 (by omega)
  have ixb:ixsV 1 (sl (B 0) (rows.getD 0 []).length) (I64 0)=some (.pointer (some ⟨B 0,0,none⟩)):=Lst.ix (n:=B 0) (j:=0) ⟨by omega,by omega⟩
  obtain⟨HB,wB,eB,qB⟩:=h3.wr (j:=0) (x:=y) (by omega)
  ((try simp (maxSteps:=3000000) (dsimp:=false) (disch:=first|omega|simp only[lnx];omega) only[↓ypre,ypost,↓reduceIte,reduceEqDiff,reduceAdd,reduceSub,reduceLeDiff,zz0,ynew,f0,f5,f6,f7,f8,ixb,wB,xres_t3]);try simp only[yback])
  have rZ:=rA.set0 (f:=g) (l:=(rows.getD 0 []).set 0 y) (by omega) (by rw[List.length_set])
  rw[←eB] at rZ
  have kZ:Kp n h HB:=eB▸((kk8.trans (Kp.of p9)).trans kA).putb (by omega)
  have sZ:Src h0 HB n:=eB▸sA.putb (by omega) (by omega)
  have eL:(rows.set 0 ((rows.getD 0 []).set 0 y)).length=rows.length:=List.length_set
  rw[←eL]
  refine hQ p N _ _ HB (by omega) (by omega) kZ sZ ⟨rZ.kN,by omega,fun i hi=>?_⟩
  rw[eL] at hi
  by_cases hi0:i=0
  ·subst hi0
   rw[List.getD_eq_getElem?_getD (l:=rows.set 0 _),List.getElem?_set_self (by omega)]
   simp only[Option.getD_some,List.length_set]
   omega
  ·rw[List.getD_eq_getElem?_getD (l:=rows.set 0 _),List.getElem?_set_ne (by omega),←List.getD_eq_getElem?_getD]
   have:=hw i hi
   omega
theorem app_code {H:AH} {cv:Value} {code:List (List Int)} {e:TypeId} (c:Els .u8 1 H cv code) (hz:code=[]→∃ t,t≤2∧cv=.slice none 0 t) (hl:code.length≤4096) {x:Int} {Q:Value→AH→Prop}
  (hQ:∀ (v:Value) (H':AH),H<+:H'→Els .u8 1 H' v ([x]::code)→Q v H') :
  OQ (appV e 1 1 (.slice (some ⟨H.length,0,none⟩) 1 1) cv (H.new ⟨[.int .u8 x],e,false,true⟩)) Q:=by
 have p1:H<+:H.new ⟨[.int .u8 x],e,false,true⟩:=pre_new (List.prefix_refl _)
 by_cases h0:code=[]
 ·obtain⟨t,ht,rfl⟩:=hz h0
  subst h0
  have e1:appV e 1 1 (.slice (some ⟨H.length,0,none⟩) 1 1) (.slice none 0 t) (H.new ⟨[.int .u8 x],e,false,true⟩)=some (.slice (some ⟨H.length,0,none⟩) 1 1,H.new ⟨[.int .u8 x],e,false,true⟩):=by
   simp[appV,xop,ev]
  rw[e1,OQ_some]
  exact hQ _ _ p1 (InE.rd (a:=H.length) (b:=H.length+1) (.inr ⟨H.length,e,true,⟨Nat.le_refl _,by omega⟩,rfl,get_new_same,fun q hq=>by simp at hq;rw[hq];rfl⟩))
 ·have hl0:0<code.length:=List.length_pos_iff.2 h0
  have hw:=c.widL
  obtain⟨b,off,rfl,hrd⟩:=(c.pre p1).rdAll hl0
  have e1:appV e 1 1 (.slice (some ⟨H.length,0,none⟩) 1 1) (.slice (some ⟨b,off,none⟩) code.length 1) (H.new ⟨[.int .u8 x],e,false,true⟩) =
    some (.slice (some ⟨H.length+1,0,none⟩) (1+code.length) 1,((H.new ⟨[.int .u8 x],e,false,true⟩).kill H.length).new ⟨[.int .u8 x]++cel .u8 code.flatten,e,false,false⟩):=by
   simp only[appV,xop,ev,if_true,hrd,get_new_same,len_new]
   rw[if_pos (by omega),if_neg (by omega)]
   simp
  rw[e1,OQ_some]
  have e2:(1+code.length:Nat)=([x]::code).length:=by simp;omega
  rw[e2]
  refine hQ _ _ (pre_new (pre_kill p1 (Nat.le_refl _))) (InE.rd (a:=H.length) (b:=H.length+2) (.inr ⟨H.length+1,e,false,⟨by omega,by omega⟩,rfl,?_,fun q hq=>?_⟩))
  ·rw[get_new_eq (by rw[len_kill,len_new])]
   rfl
  ·rcases List.mem_cons.1 hq with h|h
   ·rw[h];rfl
   ·exact hw q h
theorem OQ_C3 {f:Fr} {h:AH} {a b c d n e:Nat} {cl:List Value} {ro fl:Bool} {x y z:Value} {Q:Value→AH→Prop} (fa:f a=.pointer (some ⟨n,0,none⟩)) (fb:f b=x) (fc:f c=y) (fd:f d=z)
  (ha:h.get n=some ⟨cl,e,ro,fl⟩) (hl:cl.length=5) (hQ:Q (.tuple #[.agg cl.toArray,x,y,z]) h):OQ (Option.map (fun x=>(x,h)) (xres f h [.celln a 5,.tmp b,.tmp c,.tmp d])) Q:=by
 have e:xres f h [.celln a 5,.tmp b,.tmp c,.tmp d]=some (.tuple #[.agg cl.toArray,x,y,z]):=by
  unfold xres xresl xresl xresl xresl xresl
  rw[show xres1 f h (.celln a 5)=some (.agg cl.toArray) from xresn fa ha hl,xres1_tmp,xres1_tmp,xres1_tmp,fb,fc,fd]
 rw[e,Option.map_some,OQ_some]
 exact hQ
theorem s_DrawRunScheme {h:AH} {cv:Value} {code:List (List Int)} {Q:Value→AH→Prop} (c:Cod h cv code) (hz:code=[]→∃ t,t≤2∧cv=.slice none 0 t) (hl:code.length≤4096)
  (hQ:∀ (x:Sch) (v:Value) (L R:List (List Int)) (a b:Value) (t:Bool) (h':AH),h<+:h'→SchD h.length h' v x→SchB x→MatD h.length h' a L→MatD h.length h' b R→Q (.tuple #[schV x v,.bool t,a,b]) h'):WF S 138 [cv] h Q:=by
 refine WF_fn (fn:=c138) rfl rfl ?_
 dsimp only[c138,oO,oM,oS,oG,oK,oE,oL,oF,oX,oN]
 ((try simp (maxSteps:=3000000) (dsimp:=false) (disch:=first|omega|simp only[lnx];omega) only[↓ypre,ypost,↓reduceIte,reduceEqDiff,reduceAdd,reduceSub,reduceLeDiff,zz0,ynew]);try simp only[yback])
 generalize hH1:AH.new h _=H1
 obtain⟨hb1,p1,n1⟩:=new_facts hH1
 ((try simp (maxSteps:=3000000) (dsimp:=false) (disch:=first|omega|simp only[lnx];omega) only[↓ypre,ypost,↓reduceIte,reduceEqDiff,reduceAdd,reduceSub,reduceLeDiff,zz0,ynew,fillL,zrep]);try simp only[yback])
 refine app_code (c.els.pre p1) hz hl fun cv2 H2 p2 e2=>?_
 ((try simp (maxSteps:=3000000) (dsimp:=false) (disch:=first|omega|simp only[lnx];omega) only[↓ypre,ypost,↓reduceIte,reduceEqDiff,reduceAdd,reduceSub,reduceLeDiff,zz0,ynew]);try simp only[yback])
 have b2:Byt 1 ([3]::code):=fun i hi j hj=>by
  cases i with
  | zero=>
   have:j=0:=by omega
   subst this
   show 0≤(3:Int)∧(3:Int)≤255
   omega
  | succ i=>exact c.byt i (by simpa using hi) j hj
 refine s_l01From e2 b2 (by simp;omega) fun H3 p3 l3 s3=>?_
 have n3:=s3.lt
 have g1:=pre_get (p2.trans p3) hb1
 refine WO_cut (fun f:Fr=>f 0=cv∧f 2=.pointer (some ⟨h.length,0,none⟩)∧f 13=srcP H2.length∧True) ⟨(by first|rfl|simp[upd_apply]),(by first|rfl|simp[upd_apply]),(by first|rfl|simp[upd_apply]),trivial⟩ ?_
 rintro f ⟨f0,f2,f13,-⟩
 ((try simp (maxSteps:=3000000) (dsimp:=false) (disch:=first|omega|simp only[lnx];omega) only[↓ypre,ypost,↓reduceIte,reduceEqDiff,reduceAdd,reduceSub,reduceLeDiff,zz0,ynew,f0,f2,f13]);try simp only[yback])
 refine s_DrawMakeProduct (c.pre ((p1.trans p2).trans p3)) fun x v L R a b H4 p4 hv xb dL dR=>?_
 have g1:=pre_get p4 g1
 have s4:=s3.kp p4
 have p4l:=p4.length_le
 have p23:=p2.length_le
 have o1:isOne v=true:=hv.now.one
 refine WO_cut (fun f:Fr=>f 2=.pointer (some ⟨h.length,0,none⟩)∧f 6=srcP H2.length∧f 16=.tuple #[schV x v,a,b]∧True) ⟨(by first|rfl|exact f2|simp[upd_apply,f2]),(by first|rfl|simp[upd_apply]),(by first|rfl|simp[upd_apply]),trivial⟩ ?_
 rintro f ⟨f2,f6,f16,-⟩
 ((try simp (maxSteps:=3000000) (dsimp:=false) (disch:=first|omega|simp only[lnx];omega) only[↓ypre,ypost,↓reduceIte,reduceEqDiff,reduceAdd,reduceSub,reduceLeDiff,zz0,ynew,f2,f6,f16,schV,o1]);try simp only[yback])
 generalize hH5:AH.new H4 _=H5
 obtain⟨hb5,p5,n5⟩:=new_facts hH5
 have g1:=pre_get p5 g1
 ((try simp (maxSteps:=3000000) (dsimp:=false) (disch:=first|omega|simp only[lnx];omega) only[↓ypre,ypost,↓reduceIte,reduceEqDiff,reduceAdd,reduceSub,reduceLeDiff,zz0,ynew,f2,f6,f16,rdn_of hb5]);try simp only[yback])
 refine⟨by omega,?_⟩
 refine s_l01Next (s4.kp p5) fun r H6 k6 l6 s6 _ _=>?_
 refine⟨⟨_,rfl,k6⟩,?_⟩
 have g1:=k6.get (by omega) g1
 have kv:=KN.kp (KN.pre hv p5) k6 (by omega)
 have ka:=KN.kp (KN.pre dL.kn p5) k6 (by omega)
 have kb:=KN.kp (KN.pre dR.kn p5) k6 (by omega)
 have k6l:=k6.len
 refine WO_cut (fun f:Fr=>f 2=.pointer (some ⟨h.length,0,none⟩)∧f 8=a∧f 9=b∧f 20=schV x v∧f 22=I64 r∧True) ⟨(by first|rfl|exact f2|simp[upd_apply,f2]),(by first|rfl|simp[upd_apply]),(by first|rfl|simp[upd_apply]),(by first|rfl|simp[upd_apply]),(by first|rfl|simp[upd_apply]),trivial⟩ ?_
 rintro f ⟨f2,f8,f9,f20,f22,-⟩
 ((try simp (maxSteps:=3000000) (dsimp:=false) (disch:=first|omega|simp only[lnx];omega) only[↓ypre,ypost,↓reduceIte,reduceEqDiff,reduceAdd,reduceSub,reduceLeDiff,zz0,ynew,f2,f8,f9,f20,f22,schV,o1,wr_of g1,splice_eq]);try simp only[yback])
 generalize hHF:AH.put H6 _ _=HF
 have F1:HF.get h.length=some ⟨[I64 x.p,I64 x.n,I64 x.m,I64 x.k,v],26,false,true⟩:=hHF▸get_put_same (by omega)
 refine OQ_C3 (x:=.bool (decide (r=0))) (y:=a) (z:=b) (a:=2) (b:=3) (c:=4) (d:=5) (n:=h.length) ?_ ?_ ?_ ?_ F1 rfl (hQ x v L R a b (decide (r=0)) HF (hHF▸pre_put ((p1.trans p2).trans s6.p) (Nat.le_refl _)) ?_ xb ?_ ?_)
 ·exact f2
 ·rfl
 ·rfl
 ·rfl
 ·exact hHF▸(KN.mono (KN.put kv (by omega)) (by omega))
 ·exact⟨hHF▸(KN.mono (KN.put ka (by omega)) (by omega)),dL.len,dL.row⟩
 ·exact⟨hHF▸(KN.mono (KN.put kb (by omega)) (by omega)),dR.len,dR.row⟩
end Go.Proofs.Ytapafdpnmakekaa.X

set_option linter.unusedVariables false
set_option linter.unusedSimpArgs false
set_option maxRecDepth 20000
set_option maxHeartbeats 4000000
namespace Go.Proofs.Ytapafdpnmakekaa.X
open Go Go.RowKit
def ProgD (lo:Nat) (h:AH) (v w:Value) (x:Prg):Prop:=KN lo h fun h'=>PrgR h' v w x
theorem WayX.kN {e:TypeId} {k:IntKind} {w lo:Nat} {h:AH} {v:Value} {L:List (List Int)} {ex:List Nat} (o:WayX e k w h lo ex v L):KN lo h fun h'=>Els k w h' v L:=o.inE.kN (Nat.le_refl _)
theorem Way2.kN {lo:Nat} {h:AH} {v w:Value} {x:Prg} (o:Way2 h lo v w x):ProgD lo h v w x:=fun h' l g=>⟨o.st.kN h' l g,o.out.kN h' l g⟩
theorem ProgD.kp {lo n:Nat} {h h':AH} {v w:Value} {x:Prg} (o:ProgD lo h v w x) (k:Kp n h h') (hn:n<lo):ProgD lo h' v w x:=KN.kp o k hn
theorem ProgD.mono {lo lo':Nat} {h:AH} {v w:Value} {x:Prg} (o:ProgD lo h v w x) (hl:lo'≤lo):ProgD lo' h v w x:=KN.mono o hl
theorem ProgD.none {lo:Nat} {h:AH} {p n:Int}:ProgD lo h (.slice none 0 0) (.slice none 0 0) ⟨p,n,[],[]⟩:=fun h' _ _=>⟨.inl ⟨rfl,0,by omega,rfl⟩,.inl ⟨rfl,0,by omega,rfl⟩⟩
theorem WayX.app_kp {e:TypeId} {k:IntKind} {w lo:Nat} {sv:Value} {L:List (List Int)} {H:AH} {q:List Int} {e':TypeId} {ro full:Bool} {bytes:Nat} (o:WayX e k w H lo [] sv L) (hq:q.length=w) (hl:((L.length:Int)+1)*bytes≤140737488355328) (hn:(L.length:Int)<1048576) (hlo:lo≤H.length)
  {Q:Value→AH→Prop} (hQ:∀ (sv':Value) (H':AH) (kb:Nat),H'.length=H.length+2→lo≤kb→(kb=H.length∨blkOf sv=some kb)→Kp kb H H'→WayX e k w H' H.length [] sv' (L++[q])→Q sv' H') :
  OQ (appV e w bytes sv (.slice (some ⟨H.length,0,none⟩) 1 w) (H.new ⟨cel k q,e',ro,full⟩)) Q:=by
 have hr:(H.new ⟨cel k q,e',ro,full⟩).rdn H.length 0 w=some (cel k q):=by
  rw[rdn_of get_new_same]
  simp only
  rw[if_pos (by rw[cel_len,hq];omega),List.drop_zero,List.take_of_length_le (by rw[cel_len,hq];omega)]
 obtain⟨hw,⟨rfl,rfl⟩|⟨kb,fu,rfl,h2,h3,h4⟩⟩:=o
 ·rw[app_nilW (.inl rfl) hr (by simp only[List.length_nil] at hl;omega),OQ_some]
  refine hQ _ _ H.length (by rw[len_new,len_new]) hlo (.inl rfl) (Kp.of (pre_new (pre_new (List.prefix_refl _)))) ⟨?_,.inr ⟨_,false,rfl,by rw[len_new];omega,by simp,?_⟩⟩
  ·intro r hr
   rw[List.nil_append,List.mem_singleton] at hr
   rw[hr,hq]
  ·rw[get_new_same]
   simp
 ·have hk:(H.new ⟨cel k q,e',ro,full⟩).get kb=some ⟨cel k L.flatten,e,false,fu⟩:=get_new_any h4
  have hkb:=get_lt h4
  rw[app_ownW hk (by rw[cel_len,flat_len hw]) hr ⟨hl,by omega⟩,OQ_some]
  refine hQ _ _ kb (by rw[len_new,len_kill,len_new]) h2 (.inr rfl) ⟨by rw[len_new,len_kill,len_new];omega,fun j hj hne=>?_⟩ ⟨?_,.inr ⟨(H.new ⟨cel k q,e',ro,full⟩).length,false,by simp,by rw[len_new];omega,by simp,?_⟩⟩
  ·rw[show ∀ b,(((H.new ⟨cel k q,e',ro,full⟩).kill kb).new b).get j=((H.new ⟨cel k q,e',ro,full⟩).kill kb).get j from fun b=>prefix_get (pre_new (List.prefix_refl _)) (by rw[len_kill,len_new];omega),get_kill_ne (Ne.symm hne)]
   exact prefix_get (pre_new (List.prefix_refl _)) hj
  ·intro r hr
   rcases List.mem_append.1 hr with hr|hr
   ·exact hw r hr
   ·rw[List.mem_singleton.1 hr,hq]
  ·rw[get_new_eq (by rw[len_kill])]
   simp[cel_app]
end Go.Proofs.Ytapafdpnmakekaa.X
