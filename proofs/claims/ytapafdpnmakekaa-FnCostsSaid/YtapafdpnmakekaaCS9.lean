/- Texts of one claim, put together by merge.py: XD8, XQ1, XR1, XQ2, XF34, XF35, XR2, XF11, XF12, XF13, XF14, XF15, XQ3, XD9, XDA, XDB, XDC, XDF, XDG, XDI, XDJ, XDK, XZ1, XZ2, XZ3, XZ4. -/
import Derived.Test.YtapafdpnmakekaaCS8
import Derived.Test.YtapafdpnmakekaaCS7
set_option linter.unusedVariables false
set_option linter.unusedSimpArgs false
set_option maxRecDepth 20000
set_option maxHeartbeats 4000000
namespace Go.Proofs.Ytapafdpnmakekaa.X
open Go Go.RowKit
open Nat (reduceEqDiff reduceAdd reduceSub reduceLeDiff)
theorem By.nn {w:Nat} {q:List Int} (h:By w q):∀ j,j<w→0≤q.getD j 0:=fun j hj=>(h.2 j hj).1
structure DL (x:Sch) (L:List (List Int)):Prop where
 w:Wid 27 L
 by':∀ q∈L,By 27 q
 ok:∀ q∈L,okProd x q=true
theorem DL.nil {x:Sch}:DL x []:=⟨fun q h=>by simp at h,fun q h=>by simp at h,fun q h=>by simp at h⟩
theorem DL.snoc {x:Sch} {L:List (List Int)} {q:List Int} (d:DL x L) (hb:By 27 q) (ho:okProd x q=true):DL x (L++[q]):=by
 refine⟨fun r h=>?_,fun r h=>?_,fun r h=>?_⟩<;>rcases List.mem_append.1 h with h|h
 ·exact d.w r h
 ·rw[List.mem_singleton.1 h];exact hb.1
 ·exact d.by' r h
 ·rw[List.mem_singleton.1 h];exact hb
 ·exact d.ok r h
 ·rw[List.mem_singleton.1 h];exact ho
theorem DL.byt {x:Sch} {L:List (List Int)} (d:DL x L):Byt 27 L:=fun i hi j hj=>by
 have hm:L.getD i []∈L:=by
  rw[List.getD_eq_getElem?_getD,List.getElem?_eq_getElem hi]
  exact List.getElem_mem _
 exact (d.by' _ hm).2 j hj
theorem DL.isX {x:Sch} (d:DL x x.ps) (hs:szX x=true) (hl:x.ps.length≤30):isX x=true:=by
 unfold X.isX
 rw[hs,decide_eq_true hl]
 simp only[Bool.true_and]
 exact List.all_eq_true.2 d.ok
def SchD (lo:Nat) (h:AH) (v:Value) (x:Sch):Prop:=KN lo h fun h'=>Prods h' v x.ps
theorem zrep27:zrep 1 [.int .u8 0,.int .u8 0,.int .u8 0,.int .u8 0,.int .u8 0,.int .u8 0,.int .u8 0,.int .u8 0,.int .u8 0,.int .u8 0,.int .u8 0,.int .u8 0,.int .u8 0,.int .u8 0,.int .u8 0,.int .u8 0,.int .u8 0,.int .u8 0,.int .u8 0,.int .u8 0,.int .u8 0,.int .u8 0,.int .u8 0,.int .u8 0,.int .u8 0,.int .u8 0,.int .u8 0]=cel .u8 (List.replicate 27 0):=rfl
theorem sp27z {q:List Int} (hq:q.length=27):splice (cel .u8 (List.replicate 27 0)) 0 (cel .u8 q)=cel .u8 q:=splice_27 hq
theorem s_l01Draw {h0 h:AH} {n:Nat} {Q:Value→AH→Prop} (s:Src h0 h n)
  (hQ:∀ x v h',Kp n h h'→Src h0 h' n→SchD h.length h' v x→X.isX x=true→Q (schV x v) h'):WF S 266 [srcP n] h Q:=by
 refine WF_fn (fn:=c266) rfl rfl ?_
 dsimp only[c266,oO,oM,oS,oG,oK,oE,oL,oF,oX,oN]
 have lt:=s.lt
 have l0:=pre_len s.p
 ((try simp (maxSteps:=3000000) (dsimp:=false) (disch:=first|omega|simp only[lnx];omega) only[↓ypre,ypost,↓reduceIte,reduceEqDiff,reduceAdd,reduceSub,reduceLeDiff,zz0,ynew]);try simp only[yback])
 generalize hH1:AH.new h _=H1
 obtain⟨hb1,p1,n1⟩:=new_facts hH1
 refine s_l01DrawSizes (s.kp p1) fun p a b c nb H2 k2 s2 hnb gnb hp ha hb hc=>?_
 have g1:=k2.get (by omega) hb1
 ((try simp (maxSteps:=3000000) (dsimp:=false) (disch:=first|omega|simp only[lnx];omega) only[↓ypre,ypost,↓reduceIte,reduceEqDiff,reduceAdd,reduceSub,reduceLeDiff,zz0,ynew,schV,one_slice]);try simp only[yback])
 generalize hH3:AH.new H2 _=H3
 obtain⟨hb3,p3,n3⟩:=new_facts hH3
 have k3:Kp n h H3:=(Kp.of p1).trans (k2.trans (Kp.of p3))
 have l2:=k2.len
 have szx:szX ⟨p,a,b,c,[]⟩=true:=by
  unfold szX
  rw[isP_of hp,sz_of ha,sz_of hb,sz_of hc]
  rfl
 have z:=szX_facts szx
 have zp:=z.p
 ((try simp (maxSteps:=3000000) (dsimp:=false) (disch:=first|omega|simp only[lnx];omega) only[↓ypre,ypost,↓reduceIte,reduceEqDiff,reduceAdd,reduceSub,reduceLeDiff,zz0,ynew]);try simp only[yback])
 refine s_l01Next (s2.kp p3) fun r H4 k4 l4 s4 hr _=>?_
 have g1:=k4.get (by omega) (pre_get p3 g1)
 have g3:=k4.get (by omega) hb3
 have gn:=k4.get (by omega) (pre_get p3 gnb)
 have fin:∀ (x:Sch) (v:Value) (h':AH),Kp n h h'→Src h0 h' n→SchD h.length (h'.put h.length ⟨[I64 x.p,I64 x.n,I64 x.m,I64 x.k,v],26,false,true⟩) v x→X.isX x=true →
   Q (schV x v) (h'.put h.length ⟨[I64 x.p,I64 x.n,I64 x.m,I64 x.k,v],26,false,true⟩):=fun x v h' kk ss sd hx=>
  hQ x v _ (kk.putb (Nat.le_refl _)) (ss.putb (by omega) (by omega)) sd hx
 have k4':=k3.trans k4
 by_cases r0:r=0
 ·((try simp (maxSteps:=3000000) (dsimp:=false) (disch:=first|omega|simp only[lnx];omega) only[↓ypre,ypost,↓reduceIte,reduceEqDiff,reduceAdd,reduceSub,reduceLeDiff,zz0,ynew,decide_eq_true r0,rd1_of g3]);try simp only[yback])
  refine s_l01Strassen zp fun m H5 p5 hm gm=>?_
  have g1:=pre_get p5 g1
  have lg:=get_lt g1
  ((try simp (maxSteps:=3000000) (dsimp:=false) (disch:=first|omega|simp only[lnx];omega) only[↓ypre,ypost,↓reduceIte,reduceEqDiff,reduceAdd,reduceSub,reduceLeDiff,zz0,ynew,schV,wr_of g1,splice_eq,rdn_put_same]);try simp only[yback])
  have l5:=pre_len p5
  exact fin ⟨p,2,2,2,stra (p-1)⟩ _ H5 (k4'.trans (Kp.of p5)) (s4.kp p5) (fun h' d d'=>⟨blk_kN (L:=stra (p-1)) (by rw[get_put_ne (by omega)];exact gm) stra_wid (by omega) h' d d',
   byt_isX (x:=⟨p,2,2,2,stra (p-1)⟩) (stra_isX hp) stra_wid (fun q hq j hj=>by
    simp only[stra,List.mem_cons,List.not_mem_nil,or_false] at hq
    have:∀ l:List Int,(∀ x∈l,0≤x)→0≤l.getD j 0:=fun l hl=>by
     by_cases hj:j<l.length
     ·rw[List.getD_eq_getElem?_getD,List.getElem?_eq_getElem hj]
      exact hl _ (List.getElem_mem _)
     ·rw[List.getD_eq_getElem?_getD,List.getElem?_eq_none (by omega)]
      exact Int.le_refl _
    refine this q ?_
    rcases hq with rfl|rfl|rfl|rfl|rfl|rfl|rfl<;>intro x hx<;>simp only[List.mem_cons,List.not_mem_nil,or_false] at hx<;>omega)⟩) (stra_isX hp)
 by_cases r1:r=1
 ·((try simp (maxSteps:=3000000) (dsimp:=false) (disch:=first|omega|simp only[lnx];omega) only[↓ypre,ypost,↓reduceIte,reduceEqDiff,reduceAdd,reduceSub,reduceLeDiff,zz0,ynew,decide_eq_false r0,decide_eq_true r1,rd1_of g3]);try simp only[yback])
  refine s_l01Standard (szX_facts (x:=stdX p a b c) szx) fun v H5 p5 o5=>?_
  have g1:=pre_get p5 g1
  have lg:=get_lt g1
  have l5:=pre_len p5
  ((try simp (maxSteps:=3000000) (dsimp:=false) (disch:=first|omega|simp only[lnx];omega) only[↓ypre,ypost,↓reduceIte,reduceEqDiff,reduceAdd,reduceSub,reduceLeDiff,zz0,ynew,schV,o5.rd.one,wr_of g1,splice_eq,rdn_put_same]);try simp only[yback])
  have o6:InX H4.length H5.length (AH.put H5 h.length ⟨[I64 p,I64 a,I64 b,I64 c,v],26,false,true⟩) v (stdX p a b c).ps:=⟨o5.1.putb (by omega),o5.2⟩
  exact fin (stdX p a b c) v H5 (k4'.trans (Kp.of p5)) (s4.kp p5) (fun h' d d'=>⟨o6.1.kN (by omega) h' d d',o6.2⟩) (std_isX hp ha hb hc)
 ((try simp (maxSteps:=3000000) (dsimp:=false) (disch:=first|omega|simp only[lnx];omega) only[↓ypre,ypost,↓reduceIte,reduceEqDiff,reduceAdd,reduceSub,reduceLeDiff,zz0,ynew,decide_eq_false r0,decide_eq_false r1]);try simp only[yback])
 refine s_l01Next s4 fun N H5 k5 l5 s5 hN _=>?_
 have hN:=hN (by omega)
 have g1:=k5.get (by omega) g1
 have g3:=k5.get (by omega) g3
 have gn:=k5.get (by omega) gn
 obtain⟨M,rfl⟩:∃ M:Nat,N=M:=⟨N.toNat,by omega⟩
 ((try simp (maxSteps:=3000000) (dsimp:=false) (disch:=first|omega|simp only[lnx];omega) only[↓ypre,ypost,↓reduceIte,reduceEqDiff,reduceAdd,reduceSub,reduceLeDiff,zz0,ynew]);try simp only[yback])
 refine WC_loop_inv (fun m f K1=>∃ (i:Nat) (L:List (List Int)) (b2:Nat) (fu:Bool),m=M-i∧i≤M∧f 0=srcP n∧f 2=.pointer (some ⟨h.length,0,none⟩)∧f 3=.pointer (some ⟨H2.length,0,none⟩)∧f 4=I64 ((M-i:Nat):Int)∧(Kp n h K1)∧(Src h0 K1 n)∧(L.length=i)∧(DL ⟨p,a,b,c,[]⟩ L)∧(h.length<b2∧b2≠H2.length∧b2≠n)∧(K1.get h.length=some ⟨[.int .i64 0,.int .i64 0,.int .i64 0,.int .i64 0,.slice none 0 0],26,false,true⟩)∧(K1.get H2.length=some ⟨[I64 p,I64 a,I64 b,I64 c,.slice (some ⟨b2,0,none⟩) L.length 27],26,false,true⟩)∧(K1.get b2=some ⟨cel .u8 L.flatten,138,false,fu⟩)) ?_ (M-0) _ _ ⟨0,[],nb,true,rfl,by omega,(by first|rfl|simp[upd_apply]),(by first|rfl|simp[upd_apply]),(by first|rfl|simp[upd_apply]),(by first|rfl|simp[upd_apply]),k4'.trans k5,s5,rfl,DL.nil,(by have:=get_lt gnb;omega),g1,g3,gn⟩
 rintro m f K1 ⟨i,L,b2,fu,rfl,hi,f0,f2,f3,f4,kk,ss,li,dl,hb2,q1,q3,qn⟩
 by_cases hlt:(0:Int)<((M-i:Nat):Int)
 ·((try simp (maxSteps:=3000000) (dsimp:=false) (disch:=first|omega|simp only[lnx];omega) only[↓ypre,ypost,↓reduceIte,reduceEqDiff,reduceAdd,reduceSub,reduceLeDiff,zz0,ynew,f0,f2,f3,f4,decide_eq_true hlt,rd1_of q3,rdn_of q3,List.length_cons,List.length_nil,List.drop_zero,List.take_succ_cons,List.take_nil]);try simp only[yback])
  refine⟨by omega,?_⟩
  refine s_l01DrawOf ss (x:=⟨p,a,b,c,[]⟩) z rfl fun q H6 k6 s6 hq oq=>?_
  have q1:=k6.get (by omega) q1
  have q3:=k6.get (by omega) q3
  have qn:=k6.get (by omega) qn
  have lq6:=get_lt q3
  have ln6:=s6.lt
  have lh6:=get_lt q1
  refine⟨⟨n,rfl,k6⟩,?_⟩
  ((try simp (maxSteps:=3000000) (dsimp:=false) (disch:=first|omega|simp only[lnx];omega) only[↓ypre,ypost,↓reduceIte,reduceEqDiff,reduceAdd,reduceSub,reduceLeDiff,zz0,ynew,f0,f2,f3,f4,aggV,zrep27,hq.1,cel_len,sp27z,List.append_nil,cel_all]);try simp only[yback])
  refine app_kp (bytes:=27) qn dl.w hq.1 (by omega) (by omega) fun H7 l7 k7 q7 w7=>?_
  have q1:=k7.get (by omega) q1
  have q3:=k7.get (by omega) q3
  ((try simp (maxSteps:=3000000) (dsimp:=false) (disch:=first|omega|simp only[lnx];omega) only[↓ypre,ypost,↓reduceIte,reduceEqDiff,reduceAdd,reduceSub,reduceLeDiff,zz0,ynew,f0,f2,f3,f4,wr_of q3,splice_eq,wrap64_in]);try simp only[yback])
  have lt6:=s6.lt
  have lq3:=get_lt q3
  refine InvQ_go (M-(i+1)) (by omega) ⟨(i+1),(L++[q]),(H6.length+1),false,rfl,by omega,(by first|rfl|exact f0|(simp only[upd_apply];rfl)|(show I64 _=_;congr 1;omega)),(by first|rfl|exact f2|(simp only[upd_apply];rfl)|(show I64 _=_;congr 1;omega)),(by first|rfl|exact f3|(simp only[upd_apply];rfl)|(show I64 _=_;congr 1;omega)),(by first|rfl|exact f4|(simp only[upd_apply];rfl)|(show I64 _=_;congr 1;omega)),(Kp.putb (m:=H2.length) ((kk.trans k6).over k7 (by omega)) (by omega)),(Src.putb (m:=H2.length) (s6.over k7 (by omega) (by omega)) (by omega) (by omega)),(by rw[List.length_append,li];rfl),(dl.snoc hq oq),(by have:=k6.len;have:=kk.len;omega),(by rw[get_put_ne (by omega)];exact q1),(by rw[get_put_same (by omega),List.length_append];rfl),(by rw[get_put_ne (by omega)];exact q7)⟩
 ·((try simp (maxSteps:=3000000) (dsimp:=false) (disch:=first|omega|simp only[lnx];omega) only[↓ypre,ypost,↓reduceIte,reduceEqDiff,reduceAdd,reduceSub,reduceLeDiff,zz0,ynew,f0,f2,f3,f4,decide_eq_false hlt]);try simp only[yback])
  have lg:=get_lt q1
  ((try simp (maxSteps:=3000000) (dsimp:=false) (disch:=first|omega|simp only[lnx];omega) only[↓ypre,ypost,↓reduceIte,reduceEqDiff,reduceAdd,reduceSub,reduceLeDiff,zz0,ynew,f0,f2,f3,f4,rdn_of q3,wr_of q1,splice_eq,rdn_put_same]);try simp only[yback])
  exact fin ⟨p,a,b,c,L⟩ _ K1 kk ss (fun h' d d'=>⟨blk_kN (L:=L) (by rw[get_put_ne (by omega)];exact qn) dl.w (by omega) h' d d',dl.byt⟩) (DL.isX (x:=⟨p,a,b,c,L⟩) ⟨dl.w,dl.by',dl.ok⟩ szx (by show L.length≤30;omega))
end Go.Proofs.Ytapafdpnmakekaa.X

set_option linter.unusedVariables false
set_option linter.unusedSimpArgs false
set_option maxRecDepth 20000
set_option maxHeartbeats 4000000
namespace Go.Proofs.Ytapafdpnmakekaa.X
def sm:Nat→(Nat→Int)→Int
 | 0,_=>0
 | n+1,f=>sm n f+f n
theorem sm_ext {f g:Nat→Int}:∀ {n:Nat},(∀ i,i<n→f i=g i)→sm n f=sm n g
 | 0,_=>rfl
 | n+1,h=>by rw[sm,sm,sm_ext (fun i hi=>h i (by omega)),h n (by omega)]
theorem sm_zero {n:Nat}:sm n (fun _=>0)=0:=by
 induction n with
 | zero=>rfl
 | succ n ih=>rw[sm,ih];rfl
theorem sm_zero' {f:Nat→Int} {n:Nat} (h:∀ i,i<n→f i=0):sm n f=0:=by rw[sm_ext h,sm_zero]
theorem sm_add {f g:Nat→Int} {n:Nat}:sm n (fun i=>f i+g i)=sm n f+sm n g:=by
 induction n with
 | zero=>rfl
 | succ n ih=>simp only[sm,ih];omega
theorem sm_mul {f:Nat→Int} {c:Int} {n:Nat}:sm n (fun i=>c*f i)=c*sm n f:=by
 induction n with
 | zero=>simp[sm]
 | succ n ih=>simp only[sm,ih,Int.mul_add]
theorem sm_mulr {f:Nat→Int} {c:Int} {n:Nat}:sm n (fun i=>f i*c)=sm n f*c:=by
 induction n with
 | zero=>simp[sm]
 | succ n ih=>simp only[sm,ih,Int.add_mul]
theorem sm_comm {f:Nat→Nat→Int} {n m:Nat}:sm n (fun i=>sm m (fun j=>f i j))=sm m (fun j=>sm n (fun i=>f i j)):=by
 induction n with
 | zero=>simp only[sm];exact sm_zero.symm
 | succ n ih=>simp only[sm,ih];rw[←sm_add]
theorem sm_left {f:Nat→Int} {n:Nat}:sm (n+1) f=f 0+sm n (fun i=>f (i+1)):=by
 induction n with
 | zero=>simp[sm]
 | succ n ih=>rw[sm,ih,sm];omega
theorem sm_split {f:Nat→Int} {n m:Nat}:sm (n+m) f=sm n f+sm m (fun i=>f (n+i)):=by
 induction m with
 | zero=>simp[sm]
 | succ m ih=>rw[←Nat.add_assoc,sm,ih,sm];omega
theorem sm_rows {f:Nat→Int} {n m:Nat}:sm (n*m) f=sm n (fun a=>sm m (fun b=>f (a*m+b))):=by
 induction n with
 | zero=>simp[sm]
 | succ n ih=>rw[Nat.succ_mul,sm_split,ih,sm]
theorem sm_delta {f:Nat→Int} {n a:Nat} (h:a<n):sm n (fun i=>if i=a then f i else 0)=f a:=by
 induction n with
 | zero=>omega
 | succ n ih=>
  rw[sm]
  by_cases e:a=n
  ·subst e
   rw[if_pos rfl,sm_zero' (fun i hi=>if_neg (by omega))]
   omega
  ·rw[ih (by omega),if_neg (by omega)]
   omega
def Cg (p a b:Int):Prop:=p∣a-b
theorem Cg.rfl' {p a:Int}:Cg p a a:=⟨0,by omega⟩
theorem Cg.of {p a b:Int} (h:a=b):Cg p a b:=by subst h;exact .rfl'
theorem Cg.symm {p a b:Int} (h:Cg p a b):Cg p b a:=by
 obtain⟨k,h⟩:=h
 exact⟨-k,by rw[Int.mul_neg];omega⟩
theorem Cg.trans {p a b c:Int} (h:Cg p a b) (g:Cg p b c):Cg p a c:=by
 obtain⟨k,h⟩:=h
 obtain⟨l,g⟩:=g
 exact⟨k+l,by rw[Int.mul_add];omega⟩
theorem Cg.add {p a b c d:Int} (h:Cg p a b) (g:Cg p c d):Cg p (a+c) (b+d):=by
 obtain⟨k,h⟩:=h
 obtain⟨l,g⟩:=g
 exact⟨k+l,by rw[Int.mul_add];omega⟩
theorem Cg.mul {p a b c d:Int} (h:Cg p a b) (g:Cg p c d):Cg p (a*c) (b*d):=by
 obtain⟨k,h⟩:=h
 obtain⟨l,g⟩:=g
 exact⟨k*c+b*l,by grind⟩
theorem Cg.sm {p:Int} {f g:Nat→Int}:∀ {n:Nat},(∀ i,i<n→Cg p (f i) (g i))→Cg p (sm n f) (sm n g)
 | 0,_=>.rfl'
 | n+1,h=>(Cg.sm fun i hi=>h i (by omega)).add (h n (by omega))
def Fld (p:Int):Prop:=2≤p∧∀ x,¬ p∣x→∃ w,Cg p (w*x) 1
def dl (a b:Nat):Int:=if a=b then 1 else 0
theorem dim_le {p:Int} (hp:Fld p):∀ (r s:Nat) (U V:Nat→Nat→Int),(∀ i j,i<s→j<s→Cg p (sm r fun k=>U i k*V k j) (dl i j))→s≤r
 | 0,0,U,V,h=>Nat.le_refl _
 | 0,s+1,U,V,h=>by
  have:=h 0 0 (by omega) (by omega)
  obtain⟨k,hk⟩:=this
  simp only[sm,dl,if_true] at hk
  have:p∣1:=⟨-k,by rw[Int.mul_neg];omega⟩
  have:=Int.le_of_dvd (by omega) this
  have:=hp.1
  omega
 | r+1,0,U,V,h=>by omega
 | r+1,s+1,U,V,h=>by
  -- a place where the last row is not 0
  have h1:∃ k,k<r+1∧¬ p∣U s k:=by
   refine Classical.byContradiction fun hn=>?_
   have hz:∀ k,k<r+1→p∣U s k:=fun k hk=>Classical.byContradiction fun hd=>hn ⟨k,hk,hd⟩
   have h2:=h s s (by omega) (by omega)
   have h3:Cg p (sm (r+1) fun k=>U s k*V k s) (sm (r+1) fun _=>0):=Cg.sm fun k hk=>by
    obtain⟨q,hq⟩:=hz k hk
    exact⟨q*V k s,by rw[hq,←Int.mul_assoc];omega⟩
   rw[sm_zero] at h3
   have h4:=h3.symm.trans h2
   obtain⟨k,hk⟩:=h4
   simp only[dl,if_true] at hk
   have h5:p∣1:=⟨-k,by rw[Int.mul_neg];omega⟩
   have:=Int.le_of_dvd (by omega) h5
   have:=hp.1
   omega
  obtain⟨k0,hk0,hd⟩:=h1
  obtain⟨w,hw⟩:=hp.2 _ hd
  -- the places without k0
  let nx:Nat→Nat:=fun k=>if k=k0 then r else k
  have hsum:∀ (f:Nat→Int),sm (r+1) f=sm r (fun k=>f (nx k))+f k0:=fun f=>by
   by_cases e:k0=r
   ·subst e
    rw[sm,sm_ext (f:=fun k=>f (nx k)) (g:=f) fun i hi=>by show f (if i=k0 then k0 else i)=f i;rw[if_neg (by omega)]]
   ·have e1:sm r (fun k=>f (nx k))=sm r f+sm r (fun k=>if k=k0 then f r-f k else 0):=by
     rw[←sm_add]
     refine sm_ext fun i hi=>?_
     show f (if i=k0 then r else i)=_
     by_cases e2:i=k0
     ·rw[if_pos e2,if_pos e2];omega
     ·rw[if_neg e2,if_neg e2];omega
    rw[e1,sm_delta (f:=fun k=>f r-f k) (by omega),sm]
    show _+f r=_+(f r-f k0)+f k0
    omega
  refine Nat.succ_le_succ (dim_le hp r s (fun i k=>U i (nx k)-U i k0*w*U s (nx k)) (fun k j=>V (nx k) j) fun i j hi hj=>?_)
  have a1:=h i j (by omega) (by omega)
  have a2:=h s j (by omega) (by omega)
  rw[hsum] at a1 a2
  have a3:sm r (fun k=>(U i (nx k)-U i k0*w*U s (nx k))*V (nx k) j)=sm r (fun k=>U i (nx k)*V (nx k) j)+(- (U i k0*w))*sm r (fun k=>U s (nx k)*V (nx k) j):=by
   rw[←sm_mul,←sm_add]
   exact sm_ext fun k hk=>by grind
  rw[a3]
  have e0:dl s j=0:=if_neg (by omega)
  rw[e0] at a2
  generalize sm r (fun k=>U i (nx k)*V (nx k) j)=x1 at *
  generalize sm r (fun k=>U s (nx k)*V (nx k) j)=x2 at *
  obtain⟨q1,a1⟩:=a1
  obtain⟨q2,a2⟩:=a2
  obtain⟨q3,hw⟩:=hw
  exact⟨q1-U i k0*w*q2+U i k0*V k0 j*q3,by grind⟩
structure Rk (p:Int) (A:Nat→Nat→Int) (n w R:Nat):Prop where
 up:∃ X Y:Nat→Nat→Int,∀ i j,i<n→j<w→Cg p (A i j) (sm R fun r=>X i r*Y r j)
 lo:∃ P Q:Nat→Nat→Int,∀ a b,a<R→b<R→Cg p (sm n fun i=>sm w fun j=>P a i*A i j*Q j b) (dl a b)
theorem Rk.nil {p:Int} {A:Nat→Nat→Int} {n:Nat}:Rk p A n 0 0:=
 ⟨⟨fun _ _=>0,fun _ _=>0,fun _ _ _ h=>by omega⟩,⟨fun _ _=>0,fun _ _=>0,fun _ _ h=>by omega⟩⟩
theorem Rk.none {p:Int} {A:Nat→Nat→Int} {w:Nat}:Rk p A 0 w 0:=
 ⟨⟨fun _ _=>0,fun _ _=>0,fun _ _ h=>by omega⟩,⟨fun _ _=>0,fun _ _=>0,fun _ _ h=>by omega⟩⟩
theorem Rk.pivot {p:Int} {A B:Nat→Nat→Int} {n w R:Nat} (hp:Fld p) (h:Rk p B n w R) (hs:¬ p∣A 0 0) (hz:∀ i,i<n→Cg p (A (i+1) 0) 0) (hB:∀ i j,i<n→j<w→B i j=A (i+1) (j+1)):Rk p A (n+1) (w+1) (R+1):=by
 obtain⟨⟨X,Y,hu⟩,⟨P,Q,hl⟩⟩:=h
 obtain⟨s',hw⟩:=hp.2 _ hs
 refine⟨⟨fun i r=>if r=0 then (if i=0 then 1 else 0) else (if i=0 then 0 else X (i-1) (r-1)),fun r j=>if r=0 then A 0 j else if j=0 then 0 else Y (r-1) (j-1),fun i j hi hj=>?_⟩,
  ⟨fun a i=>if a=0 then (if i=0 then s' else 0) else (if i=0 then 0 else P (a-1) (i-1)),
   fun j b=>if b=0 then (if j=0 then 1 else 0) else (if j=0 then-(s'*sm w fun l=>A 0 (l+1)*Q l (b-1)) else Q (j-1) (b-1)),fun a b ha hb=>?_⟩⟩
 ·rw[sm_left]
  simp only[if_true,Nat.add_sub_cancel,Nat.succ_ne_zero,if_false,Nat.add_one_ne_zero]
  cases i with
  | zero=>
   simp only[if_true]
   rw[sm_zero' fun r _=>by simp]
   exact .of (by omega)
  | succ i=>
   simp only[Nat.succ_ne_zero,if_false,Nat.add_sub_cancel,Nat.add_one_ne_zero]
   cases j with
   | zero=>
    refine (hz i (by omega)).trans (.of ?_)
    rw[sm_zero' fun r _=>by simp]
    omega
   | succ j=>
    have:=hu i j (by omega) (by omega)
    rw[hB i j (by omega) (by omega)] at this
    refine this.trans (.of ?_)
    simp only[Nat.succ_ne_zero,if_false,Nat.add_sub_cancel,Nat.add_one_ne_zero,Int.zero_mul,Int.zero_add]
 ·rw[sm_left]
  simp only[if_true,Nat.add_sub_cancel,Nat.succ_ne_zero,if_false,Nat.add_one_ne_zero]
  cases a with
  | zero=>
   simp only[if_true,Int.zero_mul,sm_zero,Int.add_zero]
   rw[sm_left]
   simp only[if_true,Nat.add_sub_cancel,Nat.succ_ne_zero,if_false,Nat.add_one_ne_zero]
   cases b with
   | zero=>
    simp only[if_true,Int.mul_zero,sm_zero,Int.add_zero,Int.mul_one]
    exact hw
   | succ b=>
    simp only[Nat.succ_ne_zero,if_false,Nat.add_sub_cancel,Nat.add_one_ne_zero]
    have e:(sm w fun i=>s'*A 0 (i+1)*Q i b)=s'*sm w fun l=>A 0 (l+1)*Q l b:=by
     rw[←sm_mul]
     exact sm_ext fun l _=>Int.mul_assoc _ _ _
    rw[e]
    have e0:dl 0 (b+1)=0:=if_neg (by omega)
    rw[e0]
    generalize (sm w fun l=>A 0 (l+1)*Q l b)=z
    obtain⟨q,hq⟩:=hw
    exact⟨- (s'*z)*q,by grind⟩
  | succ a=>
   simp only[Nat.succ_ne_zero,if_false,Nat.add_sub_cancel,Nat.add_one_ne_zero,Int.zero_mul,sm_zero,Int.zero_add]
   cases b with
   | zero=>
    have e0:dl (a+1) 0=0:=if_neg (by omega)
    rw[e0]
    have:Cg p (sm n fun i=>sm (w+1) fun j=>P a i*A (i+1) j*if j=0 then 1 else 0) (sm n fun i=>0):=Cg.sm fun i hi=>by
     rw[sm_left]
     simp only[if_true,Nat.succ_ne_zero,if_false,Nat.add_one_ne_zero,Int.mul_zero,sm_zero,Int.add_zero,Int.mul_one]
     have:=(Cg.rfl' (a:=P a i)).mul (hz i hi)
     rwa [Int.mul_zero] at this
    rw[sm_zero] at this
    simpa using this
   | succ b=>
    have e0:dl (a+1) (b+1)=dl a b:=by simp[dl]
    rw[e0]
    simp only[Nat.succ_ne_zero,if_false,Nat.add_sub_cancel,Nat.add_one_ne_zero]
    refine Cg.trans ?_ (hl a b (by omega) (by omega))
    refine Cg.sm fun i hi=>?_
    rw[sm_left]
    simp only[if_true,Nat.succ_ne_zero,if_false,Nat.add_sub_cancel,Nat.add_one_ne_zero]
    have e1:(sm w fun j=>P a i*B i j*Q j b)=sm w fun j=>P a i*A (i+1) (j+1)*Q j b:=sm_ext fun j hj=>by rw[hB i j hi hj]
    rw[e1]
    have z:=hz i hi
    generalize (sm w fun j=>P a i*A (i+1) (j+1)*Q j b)=y
    generalize (sm w fun l=>A 0 (l+1)*Q l b)=x
    obtain⟨q,hq⟩:=z
    exact⟨- (P a i*s'*x)*q,by grind⟩
theorem Rk.rows {p:Int} {A B:Nat→Nat→Int} {n w R:Nat} (h:Rk p B n w R) (G H:Nat→Nat→Int) (hG:∀ l j,l<n→j<w→Cg p (B l j) (sm n fun i=>G l i*A i j)) (hH:∀ i j,i<n→j<w→Cg p (A i j) (sm n fun l=>H i l*B l j)):Rk p A n w R:=by
 obtain⟨⟨X,Y,hu⟩,⟨P,Q,hl⟩⟩:=h
 refine⟨⟨fun i r=>sm n fun l=>H i l*X l r,Y,fun i j hi hj=>?_⟩,⟨fun a i=>sm n fun l=>P a l*G l i,Q,fun a b ha hb=>?_⟩⟩
 ·refine (hH i j hi hj).trans ?_
  have h1:Cg p (sm n fun l=>H i l*B l j) (sm n fun l=>H i l*sm R fun r=>X l r*Y r j):=Cg.sm fun l hl'=>Cg.rfl'.mul (hu l j hl' hj)
  refine h1.trans (.of ?_)
  have h2:(sm n fun l=>H i l*sm R fun r=>X l r*Y r j)=sm n fun l=>sm R fun r=>H i l*X l r*Y r j:=sm_ext fun l _=>by
   rw[←sm_mul]
   exact sm_ext fun r _=>(Int.mul_assoc _ _ _).symm
  rw[h2,sm_comm]
  exact sm_ext fun r _=>sm_mulr
 ·refine Cg.trans ?_ (hl a b ha hb)
  have h1:Cg p (sm n fun l=>sm w fun j=>P a l*B l j*Q j b) (sm n fun l=>sm w fun j=>P a l*(sm n fun i=>G l i*A i j)*Q j b):=
   Cg.sm fun l hl'=>Cg.sm fun j hj=>(Cg.rfl'.mul (hG l j hl' hj)).mul .rfl'
  refine Cg.trans (.of ?_) h1.symm
  have h2:(sm n fun i=>sm w fun j=>(sm n fun l=>P a l*G l i)*A i j*Q j b)=sm n fun i=>sm w fun j=>sm n fun l=>P a l*G l i*A i j*Q j b:=sm_ext fun i _=>sm_ext fun j _=>by
   rw[←sm_mulr,←sm_mulr]
  have h3:(sm n fun l=>sm w fun j=>P a l*(sm n fun i=>G l i*A i j)*Q j b)=sm n fun l=>sm w fun j=>sm n fun i=>P a l*G l i*A i j*Q j b:=sm_ext fun l _=>sm_ext fun j _=>by
   rw[←sm_mul,←sm_mulr]
   exact sm_ext fun i _=>by grind
  rw[h2,h3]
  have h4:(sm n fun i=>sm w fun j=>sm n fun l=>P a l*G l i*A i j*Q j b)=sm n fun i=>sm n fun l=>sm w fun j=>P a l*G l i*A i j*Q j b:=sm_ext fun i _=>sm_comm
  have h5:(sm n fun l=>sm w fun j=>sm n fun i=>P a l*G l i*A i j*Q j b)=sm n fun l=>sm n fun i=>sm w fun j=>P a l*G l i*A i j*Q j b:=sm_ext fun l _=>sm_comm
  rw[h4,h5]
  exact sm_comm
structure Rk3 (p:Int) (T:Nat→Nat→Nat→Int) (I J K R:Nat):Prop where
 up:∃ (X:Nat→Nat→Int) (Y:Nat→Nat→Nat→Int),∀ i j k,i<I→j<J→k<K→Cg p (T i j k) (sm R fun r=>X i r*Y r j k)
 lo:∃ (P:Nat→Nat→Int) (Q:Nat→Nat→Nat→Int),∀ a b,a<R→b<R→Cg p (sm I fun i=>sm J fun j=>sm K fun k=>P a i*T i j k*Q j k b) (dl a b)
theorem lin_lt {j k J K:Nat} (hj:j<J) (hk:k<K):j*K+k<J*K:=by
 have:=Nat.mul_le_mul_right K (show j+1≤J from hj)
 rw[Nat.succ_mul] at this
 omega
theorem Rk.three {p:Int} {A:Nat→Nat→Int} {T:Nat→Nat→Nat→Int} {I J K R:Nat} (h:Rk p A I (J*K) R) (hT:∀ i j k,i<I→j<J→k<K→T i j k=A i (j*K+k)):Rk3 p T I J K R:=by
 obtain⟨⟨X,Y,hu⟩,⟨P,Q,hl⟩⟩:=h
 refine⟨⟨X,fun r j k=>Y r (j*K+k),fun i j k hi hj hk=>?_⟩,⟨P,fun j k b=>Q (j*K+k) b,fun a b ha hb=>?_⟩⟩
 ·rw[hT i j k hi hj hk]
  exact hu i _ hi (lin_lt hj hk)
 ·refine Cg.trans (.of ?_) (hl a b ha hb)
  refine sm_ext fun i hi=>?_
  rw[sm_rows]
  exact sm_ext fun j hj=>sm_ext fun k hk=>by rw[hT i j k hi hj hk]
theorem Rk3.le {p:Int} {T:Nat→Nat→Nat→Int} {I J K R S:Nat} (hp:Fld p) (h:Rk3 p T I J K R) {X:Nat→Nat→Int} {Y:Nat→Nat→Nat→Int} (hu:∀ i j k,i<I→j<J→k<K→Cg p (T i j k) (sm S fun r=>X i r*Y r j k)):R≤S:=by
 obtain⟨_,⟨P,Q,hl⟩⟩:=h
 refine dim_le hp S R (fun a r=>sm I fun i=>P a i*X i r) (fun r b=>sm J fun j=>sm K fun k=>Y r j k*Q j k b) fun a b ha hb=>?_
 refine Cg.trans ?_ (hl a b ha hb)
 have h1:Cg p (sm I fun i=>sm J fun j=>sm K fun k=>P a i*T i j k*Q j k b) (sm I fun i=>sm J fun j=>sm K fun k=>P a i*(sm S fun r=>X i r*Y r j k)*Q j k b):=
  Cg.sm fun i hi=>Cg.sm fun j hj=>Cg.sm fun k hk=>(Cg.rfl'.mul (hu i j k hi hj hk)).mul .rfl'
 refine Cg.trans (.of ?_) h1.symm
 have h2:(sm I fun i=>sm J fun j=>sm K fun k=>P a i*(sm S fun r=>X i r*Y r j k)*Q j k b)=sm I fun i=>sm S fun r=>sm J fun j=>sm K fun k=>P a i*X i r*(Y r j k*Q j k b):=sm_ext fun i _=>by
  rw[sm_comm (n:=S)]
  refine sm_ext fun j _=>?_
  rw[sm_comm (n:=S)]
  refine sm_ext fun k _=>?_
  rw[←sm_mul,←sm_mulr]
  exact sm_ext fun r _=>by grind
 rw[h2,sm_comm (n:=I)]
 refine sm_ext fun r _=>?_
 rw[←sm_mulr]
 refine sm_ext fun i _=>?_
 rw[←sm_mul]
 refine sm_ext fun j _=>?_
 rw[←sm_mul]
theorem Rk3.eq {p:Int} {T:Nat→Nat→Nat→Int} {I J K R S:Nat} (hp:Fld p) (h:Rk3 p T I J K R) (g:Rk3 p T I J K S):R=S:=by
 obtain⟨X,Y,hu⟩:=h.up
 obtain⟨X',Y',hu'⟩:=g.up
 exact Nat.le_antisymm (h.le hp hu') (g.le hp hu)
theorem Rk3.add {p:Int} {T A B:Nat→Nat→Nat→Int} {c:Int} {I J K R a b:Nat} (hp:Fld p) (h:Rk3 p T I J K R) (hA:Rk3 p A I J K a) (hB:Rk3 p B I J K b) (e:∀ i j k,i<I→j<J→k<K→Cg p (T i j k) (A i j k+c*B i j k)):R≤a+b:=by
 obtain⟨X,Y,hu⟩:=hA.up
 obtain⟨X',Y',hu'⟩:=hB.up
 refine h.le hp (X:=fun i r=>if r<a then X i r else X' i (r-a)) (Y:=fun r j k=>if r<a then Y r j k else c*Y' (r-a) j k) fun i j k hi hj hk=>?_
 refine (e i j k hi hj hk).trans (((hu i j k hi hj hk).add (Cg.rfl'.mul (hu' i j k hi hj hk))).trans (.of ?_))
 rw[sm_split,←sm_mul]
 congr 1
 ·exact sm_ext fun r hr=>by rw[if_pos hr,if_pos hr]
 ·exact sm_ext fun r hr=>by rw[if_neg (by omega),if_neg (by omega),Nat.add_sub_cancel_left];grind
end Go.Proofs.Ytapafdpnmakekaa.X

set_option linter.unusedVariables false
set_option linter.unusedSimpArgs false
set_option maxRecDepth 20000
set_option maxHeartbeats 4000000
namespace Go.Proofs.Ytapafdpnmakekaa.X
open Go Go.RowKit
end Go.Proofs.Ytapafdpnmakekaa.X

set_option linter.unusedVariables false
set_option linter.unusedSimpArgs false
set_option maxRecDepth 20000
set_option maxHeartbeats 4000000
namespace Go.Proofs.Ytapafdpnmakekaa.X
end Go.Proofs.Ytapafdpnmakekaa.X

set_option linter.unusedVariables false
set_option linter.unusedSimpArgs false
set_option maxRecDepth 20000
set_option maxHeartbeats 4000000
namespace Go.Proofs.Ytapafdpnmakekaa.X
open Go Go.RowKit
section
variable (t:Ten) (f e:Int)
end
def mmV (isMax:Bool) (x:Value) (l:List Value):Option Value:=match x with
 | .int k a=>(xmm isMax a l).map fun b=>.int k b
 | _=>none
theorem WX_mm {S:XS} {f:Fr} {h:AH} {Q:Value→AH→Prop} {b:Bool} {x:Operand} {l:List Operand}:WX S (.mm b x l) f h Q=WV (mmV b (ev f x) (l.map (ev f))) fun v=>Q v h:=by
 rw[WX_op (fun _=>rfl)]
 have:xop (.mm b x l) f h=(mmV b (ev f x) (l.map (ev f))).map (·,h):=by
  simp only[xop,mmV]
  generalize ev f x=vx
  cases vx<;>try rfl
  simp only
  generalize xmm b _ _=r
  cases r<;>rfl
 rw[this]
 cases mmV b (ev f x) (l.map (ev f))<;>simp[OQ_some,WV_some,OQ_none,WV_none]
def DoneS (N:Nat) (g:Nat→Int) (l:List Int) (m:Int):Prop:=l.length=N∧∀ n:Nat,(n:Int)<m→l.getD n 0=g n
theorem DoneS.step {N:Nat} {g:Nat→Int} {l:List Int} {m:Int} (d:DoneS N g l m) (hm:0≤m∧m<N) {x:Int} (hx:x=g m.toNat):DoneS N g (l.set m.toNat x) (m+1):=by
 refine⟨by rw[List.length_set];exact d.1,fun n hn=>?_⟩
 rw[set_getD (by rw[d.1];omega)]
 split
 ·rename_i e
  rw[e,hx]
 ·exact d.2 n (by omega)
theorem DoneS.all {N:Nat} {g:Nat→Int} {l:List Int} {m:Int} (d:DoneS N g l m) (hm:m=N):l=gen N g:=gen_ext d.1 fun n hn=>d.2 n (by omega)
structure KrS (t u s:Ten) (v w:Value) (h0 h:AH) (b5 nb:Nat) (l:List Int):Prop where
 hp:h0<+:h
 lo:h0.length+3≤nb∧nb<b5
 g1:OwnB h h0.length [I64 t.p,I64 t.i,I64 t.j,I64 t.k,v] true
 g2:OwnB h (h0.length+1) [I64 u.p,I64 u.i,I64 u.j,I64 u.k,w] true
 g3:∃ c,c.length=5∧OwnB h (h0.length+2) c true
 g5:OwnB h b5 [I64 s.p,I64 s.i,I64 s.j,I64 s.k,.slice (some ⟨nb,0,none⟩) (s.i*s.j*s.k).toNat 1] true
 gn:OwnB h nb (l.map (Value.int .i64)) true
theorem KrS.pre {t u s:Ten} {v w:Value} {h0 h h':AH} {b5 nb:Nat} {l:List Int} (a:KrS t u s v w h0 h b5 nb l) (p:h<+:h'):KrS t u s v w h0 h' b5 nb l:=by
 obtain⟨c,c1,c2⟩:=a.g3
 exact⟨a.hp.trans p,a.lo,a.g1.pre p,a.g2.pre p,⟨c,c1,c2.pre p⟩,a.g5.pre p,a.gn.pre p⟩
def DoneZ (N:Nat) (g:Nat→Int) (l:List Int) (m:Int):Prop:=DoneS N g l m∧∀ n:Nat,m≤(n:Int)→l.getD n 0=0
theorem DoneZ.step {N:Nat} {g:Nat→Int} {l:List Int} {m:Int} (d:DoneZ N g l m) (hm:0≤m∧m<N) {x:Int} (hx:x=g m.toNat):DoneZ N g (l.set m.toNat x) (m+1):=by
 refine⟨d.1.step hm hx,fun n hn=>?_⟩
 rw[set_getD (by rw[d.1.1];omega),if_neg (by omega)]
 exact d.2 n (by omega)
theorem DoneZ.skip {N:Nat} {g:Nat→Int} {l:List Int} {m:Int} (d:DoneZ N g l m) (hm:0≤m∧m<N) (hx:g m.toNat=0):DoneZ N g l (m+1):=by
 refine⟨⟨d.1.1,fun n hn=>?_⟩,fun n hn=>d.2 n (by omega)⟩
 by_cases h:(n:Int)<m
 ·exact d.1.2 n h
 ·have:n=m.toNat:=by omega
  rw[d.2 n (by omega),this,hx]
def pK (s i j k:Nat):Nat:=match s with
 | 0=>k
 | 1=>i
 | _=>j
section
variable {t u:Ten}
end
structure TenB (t:Ten):Prop where
 p:-1000≤t.p∧t.p≤1000
 i:-1000≤t.i∧t.i≤1000
 j:-1000≤t.j∧t.j≤1000
 k:-1000≤t.k∧t.k≤1000
 ns:t.ns.length≤1000
theorem OwnI.blk {h h':AH} {v:Value} {ns:List Int} (o:OwnI h h' v ns):∃ m e,h.length≤m∧v=sl m ns.length∧h'.get m=some ⟨ns.map (Value.int .i64),e,false,true⟩:=by
 obtain⟨m,e,h1,rfl,h3⟩:=o
 exact⟨m,e,h1,rfl,h3⟩
theorem pick_in {l:List Int} {a b:Int} (hl:∀ x∈l,a≤x∧x≤b) {j:Nat} (hj:j<l.length):a≤l.getD j 0∧l.getD j 0≤b:=by
 rw[List.getD_eq_getElem?_getD,List.getElem?_eq_getElem hj]
 exact hl _ (List.getElem_mem _)
structure Cod (h:AH) (cv:Value) (code:List (List Int)):Prop where
 els:Els .u8 1 h cv code
 byt:Byt 1 code
 len:code.length≤1000000
theorem Cod.pre {h h':AH} {cv:Value} {code:List (List Int)} (c:Cod h cv code) (p:h<+:h'):Cod h' cv code:=⟨c.els.pre p,c.byt,c.len⟩
theorem xres_3 {f:Fr} {h:AH} {r r' r'':XRes} {a b c:Value} (ha:xres1 f h r=some a) (hb:xres1 f h r'=some b) (hc:xres1 f h r''=some c):xres f h [r,r',r'']=some (.tuple #[a,b,c]):=by
 unfold xres xresl xresl xresl xresl
 rw[ha,hb,hc]
theorem xresn {f:Fr} {h:AH} {t n m e:Nat} {c:List Value} {ro fl:Bool} (hf:f t=.pointer (some ⟨n,0,none⟩)) (hb:h.get n=some ⟨c,e,ro,fl⟩) (hc:c.length=m):xres1 f h (.celln t m)=some (.agg c.toArray):=by
 rw[xres1_cells,hf,rdnV_ptr]
 simp only[rdn_of hb]
 subst hc
 simp
theorem mmF {a b:Int}:mmV false (.int .i64 a) [.int .i64 b]=some (I64 (min a b)):=by
 simp only[mmV,xmm]
 by_cases h:a≤b
 ·simp[h,Int.min_def]
  try omega
 ·simp[h,Int.min_def]
  try omega
theorem getq {l:List Value} {i:Nat} (hi:i<l.length):l[i]?=some (l.getD i undef):=by
 rw[List.getD_eq_getElem?_getD,List.getElem?_eq_getElem hi]
 rfl
structure RowD (lo:Nat) (H:AH) (kb:Nat) (fu:Bool) (rows:List (List Int)) (B:Nat→Nat) (cs:List Value):Prop where
 get:H.get kb=some ⟨cs,27,false,fu⟩
 len:cs.length=rows.length
 low:lo≤kb
 row:∀ i,i<rows.length→lo≤B i∧cs.getD i undef=sl (B i) (rows.getD i []).length∧(∃ f,Lst H (B i) (rows.getD i []) f)∧B i≠kb
 inc:∀ i j,i<j→j<rows.length→B i<B j
theorem RowD.kp {lo kb n:Nat} {H H':AH} {fu:Bool} {rows:List (List Int)} {B:Nat→Nat} {cs:List Value} (r:RowD lo H kb fu rows B cs) (k:Kp n H H') (hn:n<lo):RowD lo H' kb fu rows B cs:=
 ⟨k.get (by have:=r.low;omega) r.get,r.len,r.low,fun i hi=>by
  obtain⟨h1,h2,⟨f,h3⟩,h4⟩:=r.row i hi
  exact⟨h1,h2,⟨f,k.get (by omega) h3⟩,h4⟩,r.inc⟩
theorem RowD.rows {lo kb:Nat} {H:AH} {fu:Bool} {rows:List (List Int)} {B:Nat→Nat} {cs:List Value} (r:RowD lo H kb fu rows B cs):Rows H (sl kb rows.length) rows:=by
 refine⟨cs,.inr ⟨kb,0,_,by rw[r.len];rfl,r.get,by simp,fun i hi=>?_⟩,r.len,fun i hi=>?_⟩
 ·show cs[0+i]?=_
  rw[Nat.zero_add]
  exact getq hi
 ·obtain⟨h1,h2,⟨f,h3⟩,h4⟩:=r.row i hi
  rw[h2]
  exact h3.ints
end Go.Proofs.Ytapafdpnmakekaa.X

set_option linter.unusedVariables false
set_option linter.unusedSimpArgs false
set_option maxRecDepth 20000
set_option maxHeartbeats 4000000
namespace Go.Proofs.Ytapafdpnmakekaa.X
open Go Go.RowKit
open Nat (reduceEqDiff reduceAdd reduceSub reduceLeDiff)
theorem takeD {L:List (List Int)} {m:Nat} (h:m<L.length):L.take (m+1)=L.take m++[L.getD m []]:=by
 rw[List.take_add_one,List.getElem?_eq_getElem h,List.getD_eq_getElem?_getD,List.getElem?_eq_getElem h]
 rfl
theorem Els.rdAll {k:IntKind} {w:Nat} {h:AH} {v:Value} {L:List (List Int)} (e:Els k w h v L) (hl:0<L.length) :
  ∃ b off,v=.slice (some ⟨b,off,none⟩) L.length w∧h.rdn b off (L.length*w)=some (cel k L.flatten):=by
 rcases e with⟨rfl,-⟩|⟨b,off,blk,h1,h2,h3⟩
 ·simp at hl
 refine⟨b,off,h1,?_⟩
 have key:∀ m,m≤L.length→off+m*w≤blk.c.length∨m=0∧True→(blk.c.drop off).take (m*w)=cel k (L.take m).flatten:=by
  intro m hm _
  induction m with
  | zero=>simp[cel]
  | succ m ih=>
   obtain⟨g1,g2⟩:=h3 m (by omega)
   rw[Nat.succ_mul,List.take_add,ih (by omega) (by left;omega),takeD (by omega),List.flatten_append,List.drop_drop,g2]
   simp[cel]
 have hb:=(h3 (L.length-1) (by omega)).1
 have hb':off+L.length*w≤blk.c.length:=by
  have:L.length*w=(L.length-1)*w+w:=by
   rw[←Nat.succ_mul]
   congr 1
   omega
  omega
 rw[rdn_of h2,if_pos hb',key _ (Nat.le_refl _) (Or.inl hb'),List.take_length]
theorem set_flat {w:Nat} {q:List Int} (hq:q.length=w):∀ {L:List (List Int)} {j:Nat},Wid w L→j<L.length→L.flatten.take (j*w)++q++L.flatten.drop (j*w+w)=(L.set j q).flatten
 | [],j,_,h=>by simp at h
 | r::L,0,hw,_=>by
  have:=hw r (by simp)
  simp[←this]
 | r::L,j+1,hw,h=>by
  have hr:=hw r (by simp)
  have ih:=set_flat hq (L:=L) (j:=j) (fun x hx=>hw x (by simp[hx])) (by simpa using h)
  rw[List.set_cons_succ,List.flatten_cons,List.flatten_cons,←ih,Nat.succ_mul]
  rw[List.take_append,List.drop_append,List.take_of_length_le (by omega),List.drop_eq_nil_of_le (by omega),List.nil_append,
   show j*w+w-r.length=j*w by omega,show j*w+w+w-r.length=j*w+w by omega]
  simp only[List.append_assoc]
theorem splice_flat {k:IntKind} {w:Nat} {q:List Int} {L:List (List Int)} {j:Nat} (hq:q.length=w) (hw:Wid w L) (hj:j<L.length):splice (cel k L.flatten) (j*w) (cel k q)=cel k (L.set j q).flatten:=by
 rw[splice_eq,←set_flat hq hw hj]
 simp only[cel,List.map_append,List.map_take,List.map_drop,List.length_map,hq]
structure SchB (x:Sch):Prop where
 p:-1000≤x.p∧x.p≤1000
 n:-1000≤x.n∧x.n≤1000
 m:-1000≤x.m∧x.m≤1000
 k:-1000≤x.k∧x.k≤1000
 l:SmallX x.ps
theorem copy_zero {k:IntKind} {w bytes:Nat} {e:TypeId} {H:AH} {v:Value} {L:List (List Int)} (he:Els k w H v L) (hl:0<L.length) (hs:(L.length:Int)*bytes≤140737488355328∧(L.length:Int)≤9223372036854775807) {Q:Value→AH→Prop}
  (hQ:∀ H':AH,H'.length=H.length+2→H<+:H'→H'.get (H.length+1)=some ⟨cel k L.flatten,e,false,false⟩→Q (.slice (some ⟨H.length+1,0,none⟩) L.length w) H') :
  OQ (appV e w bytes (.slice (some ⟨H.length,0,none⟩) 0 w) v (H.new ⟨[],e,false,true⟩)) Q:=by
 obtain⟨b,off,rfl,hrd⟩:=(he.pre (pre_new (List.prefix_refl _):H<+:H.new ⟨[],e,false,true⟩)).rdAll hl
 rw[app_zeroW (k:=H.length) get_new_same hrd hl hs,OQ_some,len_new]
 have p:H<+:((H.new ⟨[],e,false,true⟩).kill H.length).new ⟨cel k L.flatten,e,false,false⟩:=pre_new (pre_kill (pre_new (List.prefix_refl _)) (Nat.le_refl _))
 exact hQ _ (by rw[len_new,len_kill,len_new]) p (get_new_eq (by rw[len_kill,len_new]))
theorem byt_set {L:List (List Int)} {a e j0:Nat} {d:Int} (b:Byt 27 L) (ha:a<L.length) (he:e<L.length) (hd:0≤d∧d≤255):Byt 27 (L.set e ((L.getD a []).set j0 d)):=by
 intro i hi j hj
 rw[List.length_set] at hi
 by_cases hie:i=e
 ·subst hie
  rw[List.getD_eq_getElem?_getD (l:=L.set i _),List.getElem?_set_self hi,Option.getD_some]
  by_cases hjj:j0=j
  ·subst hjj
   by_cases hl:j0<(L.getD a []).length
   ·rw[List.getD_eq_getElem?_getD,List.getElem?_set_self hl,Option.getD_some]
    exact hd
   ·rw[List.getD_eq_getElem?_getD,List.getElem?_eq_none (by rw[List.length_set];omega),Option.getD_none]
    omega
  ·rw[List.getD_eq_getElem?_getD,List.getElem?_set_ne hjj,←List.getD_eq_getElem?_getD]
   exact b a ha j hj
 ·rw[List.getD_eq_getElem?_getD (l:=L.set e _),List.getElem?_set_ne (Ne.symm hie),←List.getD_eq_getElem?_getD]
  exact b i hi j hj
theorem wid_set {w e:Nat} {L:List (List Int)} {q:List Int} (hw:Wid w L) (hq:q.length=w):Wid w (L.set e q):=by
 intro r hr
 rcases List.mem_or_eq_of_mem_set hr with h|h
 ·exact hw r h
 ·rw[h];exact hq
theorem s_l01Bad {h0 h:AH} {n lo:Nat} {v:Value} {x:Sch} {Q:Value→AH→Prop} (s:Src h0 h n) (xb:SchB x) (hlo:n<lo∧lo≤h.length) (hv:SchD lo h v x) (h9:-100≤x.k∧x.k≤100)
  (hQ:∀ (x':Sch) (v':Value) (h':AH),Kp n h h'→Src h0 h' n→SchD lo h' v' x'→SchB x'→Q (schV x' v') h'):WF S 269 [srcP n,schV x v] h Q:=by
 refine WF_fn (fn:=c269) rfl rfl ?_
 dsimp only[c269,oO,oM,oS,oG,oK,oE,oL,oF,oX,oN]
 have lt:=s.lt
 have l0:=pre_len s.p
 have v1:isOne v=true:=hv.now.one
 obtain⟨b1,b2,b3,b4,b5⟩:=xb
 ((try simp (maxSteps:=3000000) (dsimp:=false) (disch:=first|omega|simp only[lnx];omega) only[↓ypre,ypost,↓reduceIte,reduceEqDiff,reduceAdd,reduceSub,reduceLeDiff,zz0,ynew,schV,v1]);try simp only[yback])
 generalize hH1:AH.new h _=H1
 obtain⟨hb1,p1,n1⟩:=new_facts hH1
 generalize hH2:AH.new H1 _=H2
 obtain⟨hb2,p2,n2⟩:=new_facts hH2
 have old:∀ (x':Sch) (h':AH) (B B':Blk),x'.ps=x.ps→Kp n h h'→Src h0 h' n→SchB x'→Q (schV x' v) ((h'.put H1.length B).put h.length B'):=fun x' h' B B' e kk ss tb=>by
  have kf:Kp n h ((h'.put H1.length B).put h.length B'):=(kk.putb (m:=H1.length) (by omega)).putb (m:=h.length) (by omega)
  exact hQ x' v _ kf ((ss.putb (by omega) (by omega)).putb (by omega) (by omega)) (fun h2 k2 k3=>by rw[e];exact hv.kp kf hlo.1 h2 k2 k3) tb
 refine s_l01Next (s.kp (p1.trans p2)) fun r H3 k3 l3 s3 hr _=>?_
 have g1:=k3.get (by omega) (pre_get p2 hb1)
 have g2:=k3.get (by omega) hb2
 have kk3:Kp n h H3:=(Kp.of (p1.trans p2)).trans k3
 by_cases r0:r=0
 ·((try simp (maxSteps:=3000000) (dsimp:=false) (disch:=first|omega|simp only[lnx];omega) only[↓ypre,ypost,↓reduceIte,reduceEqDiff,reduceAdd,reduceSub,reduceLeDiff,zz0,ynew,decide_eq_true r0,fillL,zrep]);try simp only[yback])
  generalize hH4:AH.new H3 _=H4
  obtain⟨hb4,p4,n4⟩:=new_facts hH4
  have kv:=kp_new (n:=n) (ns:=[0,4,7,3]) hH4 (by omega)
  refine s_l01Pick (s3.kp p4) kv (by simp) (by simp) fun j H5 k5 l5 s5 hj=>?_
  have bp:=pick_in (l:=[0,4,7,3]) (a:=0) (b:=7) (by simp) hj
  generalize ([0,4,7,3]:List Int).getD j 0=p at bp
  have g1:=k5.get (by omega) (pre_get p4 g1)
  have g2:=k5.get (by omega) (pre_get p4 g2)
  have lg1:=get_lt g1
  have lg2:=get_lt g2
  ((try simp (maxSteps:=3000000) (dsimp:=false) (disch:=first|omega|simp only[lnx];omega) only[↓ypre,ypost,↓reduceIte,reduceEqDiff,reduceAdd,reduceSub,reduceLeDiff,zz0,ynew,wr_of g1,v1,wr_of g2,splice_eq,rdn_put_same]);try simp only[yback])
  exact old ⟨p,x.n,x.m,x.k,x.ps⟩ H5 _ _ rfl (kk3.trans ((Kp.of p4).trans k5)) s5 ⟨by show -1000≤p∧p≤1000;omega,b2,b3,b4,b5⟩
 by_cases r1:r=1
 ·((try simp (maxSteps:=3000000) (dsimp:=false) (disch:=first|omega|simp only[lnx];omega) only[↓ypre,ypost,↓reduceIte,reduceEqDiff,reduceAdd,reduceSub,reduceLeDiff,zz0,ynew,decide_eq_false r0,decide_eq_true r1,fillL,zrep]);try simp only[yback])
  generalize hH4:AH.new H3 _=H4
  obtain⟨hb4,p4,n4⟩:=new_facts hH4
  have kv:=kp_new (n:=n) (ns:=[0,4,-1]) hH4 (by omega)
  refine s_l01Pick (s3.kp p4) kv (by simp) (by simp) fun j H5 k5 l5 s5 hj=>?_
  have bp:=pick_in (l:=[0,4,-1]) (a:=-1) (b:=4) (by simp) hj
  generalize ([0,4,-1]:List Int).getD j 0=p at bp
  have g1:=k5.get (by omega) (pre_get p4 g1)
  have g2:=k5.get (by omega) (pre_get p4 g2)
  have lg1:=get_lt g1
  have lg2:=get_lt g2
  ((try simp (maxSteps:=3000000) (dsimp:=false) (disch:=first|omega|simp only[lnx];omega) only[↓ypre,ypost,↓reduceIte,reduceEqDiff,reduceAdd,reduceSub,reduceLeDiff,zz0,ynew,wr_of g1,v1,wr_of g2,splice_eq,rdn_put_same]);try simp only[yback])
  exact old ⟨x.p,p,x.m,x.k,x.ps⟩ H5 _ _ rfl (kk3.trans ((Kp.of p4).trans k5)) s5 ⟨b1,by show -1000≤p∧p≤1000;omega,b3,b4,b5⟩
 by_cases r2:r=2
 ·((try simp (maxSteps:=3000000) (dsimp:=false) (disch:=first|omega|simp only[lnx];omega) only[↓ypre,ypost,↓reduceIte,reduceEqDiff,reduceAdd,reduceSub,reduceLeDiff,zz0,ynew,decide_eq_false r0,decide_eq_false r1,decide_eq_true r2,rd1_of g1,wrap64_in,fillL,zrep]);try simp only[yback])
  generalize hH4:AH.new H3 _=H4
  obtain⟨hb4,p4,n4⟩:=new_facts hH4
  have kv:=kp_new (n:=n) (ns:=[0,4,x.k-1]) hH4 (by omega)
  refine s_l01Pick (s3.kp p4) kv (by simp) (by simp) fun j H5 k5 l5 s5 hj=>?_
  have bp:=pick_in (l:=[0,4,x.k-1]) (a:=-1000) (b:=1000) (by simp;omega) hj
  generalize ([0,4,x.k-1]:List Int).getD j 0=p at bp
  have g1:=k5.get (by omega) (pre_get p4 g1)
  have g2:=k5.get (by omega) (pre_get p4 g2)
  have lg1:=get_lt g1
  have lg2:=get_lt g2
  ((try simp (maxSteps:=3000000) (dsimp:=false) (disch:=first|omega|simp only[lnx];omega) only[↓ypre,ypost,↓reduceIte,reduceEqDiff,reduceAdd,reduceSub,reduceLeDiff,zz0,ynew,wr_of g1,v1,wr_of g2,splice_eq,rdn_put_same]);try simp only[yback])
  exact old ⟨x.p,x.n,x.m,p,x.ps⟩ H5 _ _ rfl (kk3.trans ((Kp.of p4).trans k5)) s5 ⟨b1,b2,b3,bp,b5⟩
 have lg1:=get_lt g1
 have lg2:=get_lt g2
 have e3:=(hv.kp kk3 hlo.1).now
 have hl:=e3.1.len
 have kf:Kp n h (H3.put H1.length ⟨[I64 x.p,I64 x.n,I64 x.m,I64 x.k,v],26,false,true⟩):=kk3.putb (m:=H1.length) (by omega)
 have done:Q (schV x v) (H3.put H1.length ⟨[I64 x.p,I64 x.n,I64 x.m,I64 x.k,v],26,false,true⟩):=hQ x v _ kf (s3.putb (by omega) (by omega)) (hv.kp kf hlo.1) ⟨b1,b2,b3,b4,b5⟩
 by_cases r3:r=3∨r=4∨r=5
 case neg=>
  ((try simp (maxSteps:=3000000) (dsimp:=false) (disch:=first|omega|simp only[lnx];omega) only[↓ypre,ypost,↓reduceIte,reduceEqDiff,reduceAdd,reduceSub,reduceLeDiff,zz0,ynew,decide_eq_false r0,decide_eq_false r1,decide_eq_false r2,decide_eq_false (show ¬ r=3 by omega),decide_eq_false (show ¬ r=4 by omega),decide_eq_false (show ¬ r=5 by omega),v1,rdn_of g1,wr_of g2,splice_eq,rdn_put_same]);try simp only[yback])
  exact done
 by_cases hk:(x.ps.length:Int)>0
 case neg=>
  rcases r3 with rfl|rfl|rfl
  ·((try simp (maxSteps:=3000000) (dsimp:=false) (disch:=first|omega|simp only[lnx];omega) only[↓ypre,ypost,↓reduceIte,reduceEqDiff,reduceAdd,reduceSub,reduceLeDiff,zz0,ynew,decide_eq_false r0,decide_eq_false r1,decide_eq_false r2,decide_eq_true (show (3:Int)=3 from rfl),rd1_of g1,hl,decide_eq_false hk,v1,rdn_of g1,wr_of g2,splice_eq,rdn_put_same]);try simp only[yback])
   exact done
  ·((try simp (maxSteps:=3000000) (dsimp:=false) (disch:=first|omega|simp only[lnx];omega) only[↓ypre,ypost,↓reduceIte,reduceEqDiff,reduceAdd,reduceSub,reduceLeDiff,zz0,ynew,decide_eq_false r0,decide_eq_false r1,decide_eq_false r2,decide_eq_false (show ¬ (4:Int)=3 by omega),decide_eq_true (show (4:Int)=4 from rfl),rd1_of g1,hl,decide_eq_false hk,v1,rdn_of g1,wr_of g2,splice_eq,rdn_put_same]);try simp only[yback])
   exact done
  ·((try simp (maxSteps:=3000000) (dsimp:=false) (disch:=first|omega|simp only[lnx];omega) only[↓ypre,ypost,↓reduceIte,reduceEqDiff,reduceAdd,reduceSub,reduceLeDiff,zz0,ynew,decide_eq_false r0,decide_eq_false r1,decide_eq_false r2,decide_eq_false (show ¬ (5:Int)=3 by omega),decide_eq_false (show ¬ (5:Int)=4 by omega),decide_eq_true (show (5:Int)=5 from rfl),rd1_of g1,hl,decide_eq_false hk,v1,rdn_of g1,wr_of g2,splice_eq,rdn_put_same]);try simp only[yback])
   exact done
 obtain⟨vb,vo,hve,hrd⟩:=e3.1.rdAll (by omega)
 rcases r3 with rfl|rfl|rfl
 ·((try simp (maxSteps:=3000000) (dsimp:=false) (disch:=first|omega|simp only[lnx];omega) only[↓ypre,ypost,↓reduceIte,reduceEqDiff,reduceAdd,reduceSub,reduceLeDiff,zz0,ynew,decide_eq_false r0,decide_eq_false r1,decide_eq_false r2,decide_eq_true (show (3:Int)=3 from rfl),rd1_of g1,hl,decide_eq_true hk,fillL,zrep]);try simp only[yback])
  refine copy_zero e3.1 (by omega) (by unfold SmallX at b5;omega) fun H4 l4 p4 g4=>?_
  have n3:=s3.lt
  have s4:=s3.kp p4
  obtain⟨L,hL⟩:∃ L:Nat,L=x.ps.length:=⟨_,rfl⟩
  refine WO_cut (fun f:Fr=>f 0=srcP n∧f 3=.pointer (some ⟨h.length,0,none⟩)∧f 4=.pointer (some ⟨H1.length,0,none⟩)∧f 5=I64 x.ps.length∧f 43=.slice (some ⟨H3.length+1,0,none⟩) x.ps.length 27∧True) ⟨(by first|rfl|simp[upd_apply]),(by first|rfl|simp[upd_apply]),(by first|rfl|simp[upd_apply]),(by first|rfl|simp[upd_apply]),(by first|rfl|simp[upd_apply]),trivial⟩ ?_
  rintro f ⟨f0,f3,f4,f5,f43,-⟩
  ((try simp (maxSteps:=3000000) (dsimp:=false) (disch:=first|omega|simp only[lnx];omega) only[↓ypre,ypost,↓reduceIte,reduceEqDiff,reduceAdd,reduceSub,reduceLeDiff,zz0,ynew,f0,f3,f4,f5,f43]);try simp only[yback])
  refine s_l01Next s4 fun a H5 k5 l5 s5 ha _=>?_
  have ha:=ha (by omega)
  obtain⟨a,rfl⟩:∃ a':Nat,a=a':=⟨a.toNat,by omega⟩
  have g5:=k5.get (by omega) g4
  have w27:Wid 27 x.ps:=e3.1.widL
  have e5:Els .u8 27 H5 (.slice (some ⟨H3.length+1,0,none⟩) x.ps.length 27) x.ps:=(blk_kN (lo:=H3.length+1) g5 w27 (Nat.le_refl _)).now
  obtain⟨na,oa,ixa,rda⟩:=e5.rdw (i:=a) (by omega)
  have hqa:(x.ps.getD a []).length=27:=e5.wid (by omega)
  ((try simp (maxSteps:=3000000) (dsimp:=false) (disch:=first|omega|simp only[lnx];omega) only[↓ypre,ypost,↓reduceIte,reduceEqDiff,reduceAdd,reduceSub,reduceLeDiff,zz0,ynew,f0,f3,f4,f5,f43,ixa,rda,zeros27,cel_len,cel_all,hqa,List.length_replicate,sp27z hqa]);try simp only[yback])
  generalize hH6:AH.new H5 _=H6
  obtain⟨g6,p6,n6⟩:=new_facts hH6
  refine s_l01Next (s5.kp p6) fun c0 H7 k7 l7 s7 hc _=>?_
  have hc:=hc (by omega)
  obtain⟨c0,rfl⟩:∃ c':Nat,c0=c':=⟨c0.toNat,by omega⟩
  have n5:=s5.lt
  have g6:=k7.get (by omega) g6
  refine WO_cut (fun f:Fr=>f 0=srcP n∧f 3=.pointer (some ⟨h.length,0,none⟩)∧f 4=.pointer (some ⟨H1.length,0,none⟩)∧f 5=I64 x.ps.length∧f 6=.slice (some ⟨H3.length+1,0,none⟩) x.ps.length 27∧f 7=.pointer (some ⟨H5.length,0,none⟩)∧f 51=I64 c0∧True) ⟨(by first|rfl|exact f0|simp[upd_apply,f0]),(by first|rfl|exact f3|simp[upd_apply,f3]),(by first|rfl|exact f4|simp[upd_apply,f4]),(by first|rfl|exact f5|simp[upd_apply,f5]),(by first|rfl|simp[upd_apply]),(by first|rfl|simp[upd_apply]),(by first|rfl|simp[upd_apply]),trivial⟩ ?_
  rintro f ⟨f0,f3,f4,f5,f6,f7,f51,-⟩
  ((try simp (maxSteps:=3000000) (dsimp:=false) (disch:=first|omega|simp only[lnx];omega) only[↓ypre,ypost,↓reduceIte,reduceEqDiff,reduceAdd,reduceSub,reduceLeDiff,zz0,ynew,f0,f3,f4,f5,f6,f7,f51]);try simp only[yback])
  refine s_l01Next s7 fun d H8 k8 l8 s8 hd _=>?_
  have hd:=hd (by omega)
  have g6:=k8.get (by omega) g6
  have ic:=ixa_u (n:=H5.length) (off:=9) (len:=9) (kk:=.i64) (j:=c0) (by omega)
  refine WO_cut (fun f:Fr=>f 0=srcP n∧f 3=.pointer (some ⟨h.length,0,none⟩)∧f 4=.pointer (some ⟨H1.length,0,none⟩)∧f 5=I64 x.ps.length∧f 6=.slice (some ⟨H3.length+1,0,none⟩) x.ps.length 27∧f 7=.pointer (some ⟨H5.length,0,none⟩)∧f 51=I64 c0∧f 53=I64 d∧True) ⟨(by first|rfl|exact f0|simp[upd_apply,f0]),(by first|rfl|exact f3|simp[upd_apply,f3]),(by first|rfl|exact f4|simp[upd_apply,f4]),(by first|rfl|exact f5|simp[upd_apply,f5]),(by first|rfl|exact f6|simp[upd_apply,f6]),(by first|rfl|exact f7|simp[upd_apply,f7]),(by first|rfl|exact f51|simp[upd_apply,f51]),(by first|rfl|simp[upd_apply]),trivial⟩ ?_
  rintro f ⟨f0,f3,f4,f5,f6,f7,f51,f53,-⟩
  have st:=cel_set (k:=.u8) (q:=x.ps.getD a []) (j:=9+c0) (x:=d) (by omega)
  ((try simp (maxSteps:=3000000) (dsimp:=false) (disch:=first|omega|simp only[lnx];omega) only[↓ypre,ypost,↓reduceIte,reduceEqDiff,reduceAdd,reduceSub,reduceLeDiff,zz0,ynew,f0,f3,f4,f5,f6,f7,f51,f53,wrap8_in,ic,wr_of g6,st,cel_len,hqa]);try simp only[yback])
  refine⟨by omega,?_⟩
  generalize hq':(x.ps.getD a []).set (9+c0) d=q'
  have lq':q'.length=27:=by rw[←hq',List.length_set];exact hqa
  generalize hH9:AH.put H8 _ _=H9
  have n7:=s7.lt
  have n8:=s8.lt
  have lg6:=get_lt g6
  have l9:H9.length=H8.length:=by rw[←hH9,len_put]
  have g9:H9.get H5.length=some ⟨cel .u8 q',138,false,true⟩:=hH9▸get_put_same lg6
  have s9:Src h0 H9 n:=hH9▸s8.putb (by omega) (by omega)
  have k59:Kp n H5 H9:=hH9▸(((Kp.of p6).trans k7).trans k8).putb (by omega)
  refine s_l01Next s9 fun e H10 k10 l10 s10 he _=>?_
  have he:=he (by omega)
  obtain⟨e,rfl⟩:∃ e':Nat,e=e':=⟨e.toNat,by omega⟩
  refine⟨⟨_,rfl,k10⟩,?_⟩
  have g10:=k10.get (by omega) g9
  have kA:=k59.trans k10
  have g510:=kA.get (by omega) g5
  have ie:ixsV 27 (.slice (some ⟨H3.length+1,0,none⟩) x.ps.length 27) (I64 e)=some (.pointer (some ⟨H3.length+1,e*27,none⟩)):=by
   rw[ixsV_some,if_pos (by omega),Int.toNat_natCast,Nat.zero_add]
  refine WO_cut (fun f:Fr=>f 0=srcP n∧f 3=.pointer (some ⟨h.length,0,none⟩)∧f 4=.pointer (some ⟨H1.length,0,none⟩)∧f 6=.slice (some ⟨H3.length+1,0,none⟩) x.ps.length 27∧f 7=.pointer (some ⟨H5.length,0,none⟩)∧f 57=.slice (some ⟨H3.length+1,0,none⟩) x.ps.length 27∧f 58=srcP n∧f 60=I64 e∧True) ⟨(by first|rfl|exact f0|simp[upd_apply,f0]),(by first|rfl|exact f3|simp[upd_apply,f3]),(by first|rfl|exact f4|simp[upd_apply,f4]),(by first|rfl|exact f6|simp[upd_apply,f6]),(by first|rfl|exact f7|simp[upd_apply,f7]),(by first|rfl|simp[upd_apply]),(by first|rfl|simp[upd_apply]),(by first|rfl|simp[upd_apply]),trivial⟩ ?_
  rintro f ⟨f0,f3,f4,f6,f7,f57,f58,f60,-⟩
  have rd27:H10.rdn H5.length 0 27=some (cel .u8 q'):=by
   rw[rdn_of g10,if_pos (by rw[cel_len,lq'];omega),List.drop_zero,List.take_of_length_le (by rw[cel_len,lq'];exact Nat.le_refl _)]
  have fl:=flat_len w27
  have sf:=splice_flat (k:=.u8) lq' w27 (j:=e) (by omega)
  have g1:=kA.get (by omega) (k5.get (by omega) (pre_get p4 g1))
  have g2:=kA.get (by omega) (k5.get (by omega) (pre_get p4 g2))
  have lg1:=get_lt g1
  have lg2:=get_lt g2
  have o1:isOne (.slice (some ⟨H3.length+1,0,none⟩) x.ps.length 27)=true:=rfl
  have oc:cellsL (.slice (some ⟨H3.length+1,0,none⟩) x.ps.length 27)=[.slice (some ⟨H3.length+1,0,none⟩) x.ps.length 27]:=rfl
  ((try simp (maxSteps:=3000000) (dsimp:=false) (disch:=first|omega|simp only[lnx];omega) only[↓ypre,ypost,↓reduceIte,reduceEqDiff,reduceAdd,reduceSub,reduceLeDiff,zz0,ynew,f0,f3,f4,f6,f7,f57,f58,f60,rd27,ie,wr_of g510,cel_len,cel_all,lq',sf,fl,wr_of g1,wr_of g2,splice_eq]);try simp only[yback])
  refine⟨by omega,by omega,?_⟩
  ((try simp (maxSteps:=3000000) (dsimp:=false) (disch:=first|omega|simp only[lnx];omega) only[↓ypre,ypost,↓reduceIte,reduceEqDiff,reduceAdd,reduceSub,reduceLeDiff,zz0,ynew,f0,f3,f4,f6,f7,f57,f58,f60,wr_of g1,wr_of g2,splice_eq,rdn_put_same]);try simp only[yback])
  have kk:=(((kk3.trans (Kp.of p4)).trans k5).trans kA)
  have el:(x.ps.set e q').length=x.ps.length:=List.length_set
  rw[←el]
  refine hQ ⟨x.p,x.n,x.m,x.k,x.ps.set e q'⟩ _ _ (((kk.putb (m:=H1.length) (by omega)).putb (m:=h.length) (by omega)).putb (m:=H3.length+1) (by omega)) (((s10.putb (m:=H1.length) (by omega) (by omega)).putb (m:=h.length) (by omega) (by omega)).putb (m:=H3.length+1) (by omega) (by omega)) ?_ ⟨b1,b2,b3,b4,by unfold SmallX at b5 ⊢;rw[el];exact b5⟩
  have bt:Byt 27 (x.ps.set e q'):=hq'▸byt_set e3.2 (by omega) (by omega) (by omega)
  have lgk:=get_lt g510
  exact fun h2 k2 k3=>⟨blk_kN (lo:=lo) (m:=H3.length+1) (get_put_same (by rw[len_put,len_put];omega)) (wid_set w27 lq') (by omega) h2 k2 k3,bt⟩
 ·((try simp (maxSteps:=3000000) (dsimp:=false) (disch:=first|omega|simp only[lnx];omega) only[↓ypre,ypost,↓reduceIte,reduceEqDiff,reduceAdd,reduceSub,reduceLeDiff,zz0,ynew,decide_eq_false r0,decide_eq_false r1,decide_eq_false r2,decide_eq_false (show ¬ (4:Int)=3 by omega),decide_eq_true (show (4:Int)=4 from rfl),rd1_of g1,hl,decide_eq_true hk,fillL,zrep]);try simp only[yback])
  refine copy_zero e3.1 (by omega) (by unfold SmallX at b5;omega) fun H4 l4 p4 g4=>?_
  have n3:=s3.lt
  have s4:=s3.kp p4
  obtain⟨L,hL⟩:∃ L:Nat,L=x.ps.length:=⟨_,rfl⟩
  refine WO_cut (fun f:Fr=>f 0=srcP n∧f 3=.pointer (some ⟨h.length,0,none⟩)∧f 4=.pointer (some ⟨H1.length,0,none⟩)∧f 5=I64 x.ps.length∧f 43=.slice (some ⟨H3.length+1,0,none⟩) x.ps.length 27∧True) ⟨(by first|rfl|exact f0|simp[upd_apply,f0]),(by first|rfl|exact f3|simp[upd_apply,f3]),(by first|rfl|exact f4|simp[upd_apply,f4]),(by first|rfl|exact f5|simp[upd_apply,f5]),(by first|rfl|exact f43|simp[upd_apply,f43]),trivial⟩ ?_
  rintro f ⟨f0,f3,f4,f5,f43,-⟩
  ((try simp (maxSteps:=3000000) (dsimp:=false) (disch:=first|omega|simp only[lnx];omega) only[↓ypre,ypost,↓reduceIte,reduceEqDiff,reduceAdd,reduceSub,reduceLeDiff,zz0,ynew,f0,f3,f4,f5,f43]);try simp only[yback])
  refine s_l01Next s4 fun a H5 k5 l5 s5 ha _=>?_
  have ha:=ha (by omega)
  obtain⟨a,rfl⟩:∃ a':Nat,a=a':=⟨a.toNat,by omega⟩
  have g5:=k5.get (by omega) g4
  have w27:Wid 27 x.ps:=e3.1.widL
  have e5:Els .u8 27 H5 (.slice (some ⟨H3.length+1,0,none⟩) x.ps.length 27) x.ps:=(blk_kN (lo:=H3.length+1) g5 w27 (Nat.le_refl _)).now
  obtain⟨na,oa,ixa,rda⟩:=e5.rdw (i:=a) (by omega)
  have hqa:(x.ps.getD a []).length=27:=e5.wid (by omega)
  ((try simp (maxSteps:=3000000) (dsimp:=false) (disch:=first|omega|simp only[lnx];omega) only[↓ypre,ypost,↓reduceIte,reduceEqDiff,reduceAdd,reduceSub,reduceLeDiff,zz0,ynew,f0,f3,f4,f5,f43,ixa,rda,zeros27,cel_len,cel_all,hqa,List.length_replicate,sp27z hqa]);try simp only[yback])
  generalize hH6:AH.new H5 _=H6
  obtain⟨g6,p6,n6⟩:=new_facts hH6
  refine s_l01Next (s5.kp p6) fun c0 H7 k7 l7 s7 hc _=>?_
  have hc:=hc (by omega)
  obtain⟨c0,rfl⟩:∃ c':Nat,c0=c':=⟨c0.toNat,by omega⟩
  have n5:=s5.lt
  have g6:=k7.get (by omega) g6
  refine WO_cut (fun f:Fr=>f 0=srcP n∧f 3=.pointer (some ⟨h.length,0,none⟩)∧f 4=.pointer (some ⟨H1.length,0,none⟩)∧f 5=I64 x.ps.length∧f 6=.slice (some ⟨H3.length+1,0,none⟩) x.ps.length 27∧f 7=.pointer (some ⟨H5.length,0,none⟩)∧f 51=I64 c0∧True) ⟨(by first|rfl|exact f0|simp[upd_apply,f0]),(by first|rfl|exact f3|simp[upd_apply,f3]),(by first|rfl|exact f4|simp[upd_apply,f4]),(by first|rfl|exact f5|simp[upd_apply,f5]),(by first|rfl|exact f6|simp[upd_apply,f6]),(by first|rfl|exact f7|simp[upd_apply,f7]),(by first|rfl|exact f51|simp[upd_apply,f51]),trivial⟩ ?_
  rintro f ⟨f0,f3,f4,f5,f6,f7,f51,-⟩
  ((try simp (maxSteps:=3000000) (dsimp:=false) (disch:=first|omega|simp only[lnx];omega) only[↓ypre,ypost,↓reduceIte,reduceEqDiff,reduceAdd,reduceSub,reduceLeDiff,zz0,ynew,f0,f3,f4,f5,f6,f7,f51]);try simp only[yback])
  refine s_l01Next s7 fun d H8 k8 l8 s8 hd _=>?_
  have hd:=hd (by omega)
  have g6:=k8.get (by omega) g6
  have ic:=ixa_u (n:=H5.length) (off:=9) (len:=9) (kk:=.i64) (j:=c0) (by omega)
  refine WO_cut (fun f:Fr=>f 0=srcP n∧f 3=.pointer (some ⟨h.length,0,none⟩)∧f 4=.pointer (some ⟨H1.length,0,none⟩)∧f 5=I64 x.ps.length∧f 6=.slice (some ⟨H3.length+1,0,none⟩) x.ps.length 27∧f 7=.pointer (some ⟨H5.length,0,none⟩)∧f 51=I64 c0∧f 53=I64 d∧True) ⟨(by first|rfl|exact f0|simp[upd_apply,f0]),(by first|rfl|exact f3|simp[upd_apply,f3]),(by first|rfl|exact f4|simp[upd_apply,f4]),(by first|rfl|exact f5|simp[upd_apply,f5]),(by first|rfl|exact f6|simp[upd_apply,f6]),(by first|rfl|exact f7|simp[upd_apply,f7]),(by first|rfl|exact f51|simp[upd_apply,f51]),(by first|rfl|exact f53|simp[upd_apply,f53]),trivial⟩ ?_
  rintro f ⟨f0,f3,f4,f5,f6,f7,f51,f53,-⟩
  have st:=cel_set (k:=.u8) (q:=x.ps.getD a []) (j:=9+c0) (x:=d) (by omega)
  ((try simp (maxSteps:=3000000) (dsimp:=false) (disch:=first|omega|simp only[lnx];omega) only[↓ypre,ypost,↓reduceIte,reduceEqDiff,reduceAdd,reduceSub,reduceLeDiff,zz0,ynew,f0,f3,f4,f5,f6,f7,f51,f53,wrap8_in,ic,wr_of g6,st,cel_len,hqa]);try simp only[yback])
  refine⟨by omega,?_⟩
  generalize hq':(x.ps.getD a []).set (9+c0) d=q'
  have lq':q'.length=27:=by rw[←hq',List.length_set];exact hqa
  generalize hH9:AH.put H8 _ _=H9
  have n7:=s7.lt
  have n8:=s8.lt
  have lg6:=get_lt g6
  have l9:H9.length=H8.length:=by rw[←hH9,len_put]
  have g9:H9.get H5.length=some ⟨cel .u8 q',138,false,true⟩:=hH9▸get_put_same lg6
  have s9:Src h0 H9 n:=hH9▸s8.putb (by omega) (by omega)
  have k59:Kp n H5 H9:=hH9▸(((Kp.of p6).trans k7).trans k8).putb (by omega)
  refine s_l01Next s9 fun e H10 k10 l10 s10 he _=>?_
  have he:=he (by omega)
  obtain⟨e,rfl⟩:∃ e':Nat,e=e':=⟨e.toNat,by omega⟩
  refine⟨⟨_,rfl,k10⟩,?_⟩
  have g10:=k10.get (by omega) g9
  have kA:=k59.trans k10
  have g510:=kA.get (by omega) g5
  have ie:ixsV 27 (.slice (some ⟨H3.length+1,0,none⟩) x.ps.length 27) (I64 e)=some (.pointer (some ⟨H3.length+1,e*27,none⟩)):=by
   rw[ixsV_some,if_pos (by omega),Int.toNat_natCast,Nat.zero_add]
  refine WO_cut (fun f:Fr=>f 0=srcP n∧f 3=.pointer (some ⟨h.length,0,none⟩)∧f 4=.pointer (some ⟨H1.length,0,none⟩)∧f 6=.slice (some ⟨H3.length+1,0,none⟩) x.ps.length 27∧f 7=.pointer (some ⟨H5.length,0,none⟩)∧f 57=.slice (some ⟨H3.length+1,0,none⟩) x.ps.length 27∧f 58=srcP n∧f 60=I64 e∧True) ⟨(by first|rfl|exact f0|simp[upd_apply,f0]),(by first|rfl|exact f3|simp[upd_apply,f3]),(by first|rfl|exact f4|simp[upd_apply,f4]),(by first|rfl|exact f6|simp[upd_apply,f6]),(by first|rfl|exact f7|simp[upd_apply,f7]),(by first|rfl|exact f57|simp[upd_apply,f57]),(by first|rfl|exact f58|simp[upd_apply,f58]),(by first|rfl|exact f60|simp[upd_apply,f60]),trivial⟩ ?_
  rintro f ⟨f0,f3,f4,f6,f7,f57,f58,f60,-⟩
  have rd27:H10.rdn H5.length 0 27=some (cel .u8 q'):=by
   rw[rdn_of g10,if_pos (by rw[cel_len,lq'];omega),List.drop_zero,List.take_of_length_le (by rw[cel_len,lq'];exact Nat.le_refl _)]
  have fl:=flat_len w27
  have sf:=splice_flat (k:=.u8) lq' w27 (j:=e) (by omega)
  have g1:=kA.get (by omega) (k5.get (by omega) (pre_get p4 g1))
  have g2:=kA.get (by omega) (k5.get (by omega) (pre_get p4 g2))
  have lg1:=get_lt g1
  have lg2:=get_lt g2
  have o1:isOne (.slice (some ⟨H3.length+1,0,none⟩) x.ps.length 27)=true:=rfl
  have oc:cellsL (.slice (some ⟨H3.length+1,0,none⟩) x.ps.length 27)=[.slice (some ⟨H3.length+1,0,none⟩) x.ps.length 27]:=rfl
  ((try simp (maxSteps:=3000000) (dsimp:=false) (disch:=first|omega|simp only[lnx];omega) only[↓ypre,ypost,↓reduceIte,reduceEqDiff,reduceAdd,reduceSub,reduceLeDiff,zz0,ynew,f0,f3,f4,f6,f7,f57,f58,f60,rd27,ie,wr_of g510,cel_len,cel_all,lq',sf,fl,wr_of g1,wr_of g2,splice_eq]);try simp only[yback])
  refine⟨by omega,by omega,?_⟩
  ((try simp (maxSteps:=3000000) (dsimp:=false) (disch:=first|omega|simp only[lnx];omega) only[↓ypre,ypost,↓reduceIte,reduceEqDiff,reduceAdd,reduceSub,reduceLeDiff,zz0,ynew,f0,f3,f4,f6,f7,f57,f58,f60,wr_of g1,wr_of g2,splice_eq,rdn_put_same]);try simp only[yback])
  have kk:=(((kk3.trans (Kp.of p4)).trans k5).trans kA)
  have el:(x.ps.set e q').length=x.ps.length:=List.length_set
  rw[←el]
  refine hQ ⟨x.p,x.n,x.m,x.k,x.ps.set e q'⟩ _ _ (((kk.putb (m:=H1.length) (by omega)).putb (m:=h.length) (by omega)).putb (m:=H3.length+1) (by omega)) (((s10.putb (m:=H1.length) (by omega) (by omega)).putb (m:=h.length) (by omega) (by omega)).putb (m:=H3.length+1) (by omega) (by omega)) ?_ ⟨b1,b2,b3,b4,by unfold SmallX at b5 ⊢;rw[el];exact b5⟩
  have bt:Byt 27 (x.ps.set e q'):=hq'▸byt_set e3.2 (by omega) (by omega) (by omega)
  have lgk:=get_lt g510
  exact fun h2 k2 k3=>⟨blk_kN (lo:=lo) (m:=H3.length+1) (get_put_same (by rw[len_put,len_put];omega)) (wid_set w27 lq') (by omega) h2 k2 k3,bt⟩
 ·((try simp (maxSteps:=3000000) (dsimp:=false) (disch:=first|omega|simp only[lnx];omega) only[↓ypre,ypost,↓reduceIte,reduceEqDiff,reduceAdd,reduceSub,reduceLeDiff,zz0,ynew,decide_eq_false r0,decide_eq_false r1,decide_eq_false r2,decide_eq_false (show ¬ (5:Int)=3 by omega),decide_eq_false (show ¬ (5:Int)=4 by omega),decide_eq_true (show (5:Int)=5 from rfl),rd1_of g1,hl,decide_eq_true hk,fillL,zrep]);try simp only[yback])
  refine copy_zero e3.1 (by omega) (by unfold SmallX at b5;omega) fun H4 l4 p4 g4=>?_
  have n3:=s3.lt
  have s4:=s3.kp p4
  obtain⟨L,hL⟩:∃ L:Nat,L=x.ps.length:=⟨_,rfl⟩
  refine WO_cut (fun f:Fr=>f 0=srcP n∧f 3=.pointer (some ⟨h.length,0,none⟩)∧f 4=.pointer (some ⟨H1.length,0,none⟩)∧f 5=I64 x.ps.length∧f 43=.slice (some ⟨H3.length+1,0,none⟩) x.ps.length 27∧True) ⟨(by first|rfl|exact f0|simp[upd_apply,f0]),(by first|rfl|exact f3|simp[upd_apply,f3]),(by first|rfl|exact f4|simp[upd_apply,f4]),(by first|rfl|exact f5|simp[upd_apply,f5]),(by first|rfl|exact f43|simp[upd_apply,f43]),trivial⟩ ?_
  rintro f ⟨f0,f3,f4,f5,f43,-⟩
  ((try simp (maxSteps:=3000000) (dsimp:=false) (disch:=first|omega|simp only[lnx];omega) only[↓ypre,ypost,↓reduceIte,reduceEqDiff,reduceAdd,reduceSub,reduceLeDiff,zz0,ynew,f0,f3,f4,f5,f43]);try simp only[yback])
  refine s_l01Next s4 fun a H5 k5 l5 s5 ha _=>?_
  have ha:=ha (by omega)
  obtain⟨a,rfl⟩:∃ a':Nat,a=a':=⟨a.toNat,by omega⟩
  have g5:=k5.get (by omega) g4
  have w27:Wid 27 x.ps:=e3.1.widL
  have e5:Els .u8 27 H5 (.slice (some ⟨H3.length+1,0,none⟩) x.ps.length 27) x.ps:=(blk_kN (lo:=H3.length+1) g5 w27 (Nat.le_refl _)).now
  obtain⟨na,oa,ixa,rda⟩:=e5.rdw (i:=a) (by omega)
  have hqa:(x.ps.getD a []).length=27:=e5.wid (by omega)
  ((try simp (maxSteps:=3000000) (dsimp:=false) (disch:=first|omega|simp only[lnx];omega) only[↓ypre,ypost,↓reduceIte,reduceEqDiff,reduceAdd,reduceSub,reduceLeDiff,zz0,ynew,f0,f3,f4,f5,f43,ixa,rda,zeros27,cel_len,cel_all,hqa,List.length_replicate,sp27z hqa]);try simp only[yback])
  generalize hH6:AH.new H5 _=H6
  obtain⟨g6,p6,n6⟩:=new_facts hH6
  refine s_l01Next (s5.kp p6) fun c0 H7 k7 l7 s7 hc _=>?_
  have hc:=hc (by omega)
  obtain⟨c0,rfl⟩:∃ c':Nat,c0=c':=⟨c0.toNat,by omega⟩
  have n5:=s5.lt
  have g6:=k7.get (by omega) g6
  refine WO_cut (fun f:Fr=>f 0=srcP n∧f 3=.pointer (some ⟨h.length,0,none⟩)∧f 4=.pointer (some ⟨H1.length,0,none⟩)∧f 5=I64 x.ps.length∧f 6=.slice (some ⟨H3.length+1,0,none⟩) x.ps.length 27∧f 7=.pointer (some ⟨H5.length,0,none⟩)∧f 51=I64 c0∧True) ⟨(by first|rfl|exact f0|simp[upd_apply,f0]),(by first|rfl|exact f3|simp[upd_apply,f3]),(by first|rfl|exact f4|simp[upd_apply,f4]),(by first|rfl|exact f5|simp[upd_apply,f5]),(by first|rfl|exact f6|simp[upd_apply,f6]),(by first|rfl|exact f7|simp[upd_apply,f7]),(by first|rfl|exact f51|simp[upd_apply,f51]),trivial⟩ ?_
  rintro f ⟨f0,f3,f4,f5,f6,f7,f51,-⟩
  ((try simp (maxSteps:=3000000) (dsimp:=false) (disch:=first|omega|simp only[lnx];omega) only[↓ypre,ypost,↓reduceIte,reduceEqDiff,reduceAdd,reduceSub,reduceLeDiff,zz0,ynew,f0,f3,f4,f5,f6,f7,f51]);try simp only[yback])
  refine s_l01Next s7 fun d H8 k8 l8 s8 hd _=>?_
  have hd:=hd (by omega)
  have g6:=k8.get (by omega) g6
  have ic:=ixa_u (n:=H5.length) (off:=9) (len:=9) (kk:=.i64) (j:=c0) (by omega)
  refine WO_cut (fun f:Fr=>f 0=srcP n∧f 3=.pointer (some ⟨h.length,0,none⟩)∧f 4=.pointer (some ⟨H1.length,0,none⟩)∧f 5=I64 x.ps.length∧f 6=.slice (some ⟨H3.length+1,0,none⟩) x.ps.length 27∧f 7=.pointer (some ⟨H5.length,0,none⟩)∧f 51=I64 c0∧f 53=I64 d∧True) ⟨(by first|rfl|exact f0|simp[upd_apply,f0]),(by first|rfl|exact f3|simp[upd_apply,f3]),(by first|rfl|exact f4|simp[upd_apply,f4]),(by first|rfl|exact f5|simp[upd_apply,f5]),(by first|rfl|exact f6|simp[upd_apply,f6]),(by first|rfl|exact f7|simp[upd_apply,f7]),(by first|rfl|exact f51|simp[upd_apply,f51]),(by first|rfl|exact f53|simp[upd_apply,f53]),trivial⟩ ?_
  rintro f ⟨f0,f3,f4,f5,f6,f7,f51,f53,-⟩
  have st:=cel_set (k:=.u8) (q:=x.ps.getD a []) (j:=9+c0) (x:=d) (by omega)
  ((try simp (maxSteps:=3000000) (dsimp:=false) (disch:=first|omega|simp only[lnx];omega) only[↓ypre,ypost,↓reduceIte,reduceEqDiff,reduceAdd,reduceSub,reduceLeDiff,zz0,ynew,f0,f3,f4,f5,f6,f7,f51,f53,wrap8_in,ic,wr_of g6,st,cel_len,hqa]);try simp only[yback])
  refine⟨by omega,?_⟩
  generalize hq':(x.ps.getD a []).set (9+c0) d=q'
  have lq':q'.length=27:=by rw[←hq',List.length_set];exact hqa
  generalize hH9:AH.put H8 _ _=H9
  have n7:=s7.lt
  have n8:=s8.lt
  have lg6:=get_lt g6
  have l9:H9.length=H8.length:=by rw[←hH9,len_put]
  have g9:H9.get H5.length=some ⟨cel .u8 q',138,false,true⟩:=hH9▸get_put_same lg6
  have s9:Src h0 H9 n:=hH9▸s8.putb (by omega) (by omega)
  have k59:Kp n H5 H9:=hH9▸(((Kp.of p6).trans k7).trans k8).putb (by omega)
  refine s_l01Next s9 fun e H10 k10 l10 s10 he _=>?_
  have he:=he (by omega)
  obtain⟨e,rfl⟩:∃ e':Nat,e=e':=⟨e.toNat,by omega⟩
  refine⟨⟨_,rfl,k10⟩,?_⟩
  have g10:=k10.get (by omega) g9
  have kA:=k59.trans k10
  have g510:=kA.get (by omega) g5
  have ie:ixsV 27 (.slice (some ⟨H3.length+1,0,none⟩) x.ps.length 27) (I64 e)=some (.pointer (some ⟨H3.length+1,e*27,none⟩)):=by
   rw[ixsV_some,if_pos (by omega),Int.toNat_natCast,Nat.zero_add]
  refine WO_cut (fun f:Fr=>f 0=srcP n∧f 3=.pointer (some ⟨h.length,0,none⟩)∧f 4=.pointer (some ⟨H1.length,0,none⟩)∧f 6=.slice (some ⟨H3.length+1,0,none⟩) x.ps.length 27∧f 7=.pointer (some ⟨H5.length,0,none⟩)∧f 57=.slice (some ⟨H3.length+1,0,none⟩) x.ps.length 27∧f 58=srcP n∧f 60=I64 e∧True) ⟨(by first|rfl|exact f0|simp[upd_apply,f0]),(by first|rfl|exact f3|simp[upd_apply,f3]),(by first|rfl|exact f4|simp[upd_apply,f4]),(by first|rfl|exact f6|simp[upd_apply,f6]),(by first|rfl|exact f7|simp[upd_apply,f7]),(by first|rfl|exact f57|simp[upd_apply,f57]),(by first|rfl|exact f58|simp[upd_apply,f58]),(by first|rfl|exact f60|simp[upd_apply,f60]),trivial⟩ ?_
  rintro f ⟨f0,f3,f4,f6,f7,f57,f58,f60,-⟩
  have rd27:H10.rdn H5.length 0 27=some (cel .u8 q'):=by
   rw[rdn_of g10,if_pos (by rw[cel_len,lq'];omega),List.drop_zero,List.take_of_length_le (by rw[cel_len,lq'];exact Nat.le_refl _)]
  have fl:=flat_len w27
  have sf:=splice_flat (k:=.u8) lq' w27 (j:=e) (by omega)
  have g1:=kA.get (by omega) (k5.get (by omega) (pre_get p4 g1))
  have g2:=kA.get (by omega) (k5.get (by omega) (pre_get p4 g2))
  have lg1:=get_lt g1
  have lg2:=get_lt g2
  have o1:isOne (.slice (some ⟨H3.length+1,0,none⟩) x.ps.length 27)=true:=rfl
  have oc:cellsL (.slice (some ⟨H3.length+1,0,none⟩) x.ps.length 27)=[.slice (some ⟨H3.length+1,0,none⟩) x.ps.length 27]:=rfl
  ((try simp (maxSteps:=3000000) (dsimp:=false) (disch:=first|omega|simp only[lnx];omega) only[↓ypre,ypost,↓reduceIte,reduceEqDiff,reduceAdd,reduceSub,reduceLeDiff,zz0,ynew,f0,f3,f4,f6,f7,f57,f58,f60,rd27,ie,wr_of g510,cel_len,cel_all,lq',sf,fl,wr_of g1,wr_of g2,splice_eq]);try simp only[yback])
  refine⟨by omega,by omega,?_⟩
  ((try simp (maxSteps:=3000000) (dsimp:=false) (disch:=first|omega|simp only[lnx];omega) only[↓ypre,ypost,↓reduceIte,reduceEqDiff,reduceAdd,reduceSub,reduceLeDiff,zz0,ynew,f0,f3,f4,f6,f7,f57,f58,f60,wr_of g1,wr_of g2,splice_eq,rdn_put_same]);try simp only[yback])
  have kk:=(((kk3.trans (Kp.of p4)).trans k5).trans kA)
  have el:(x.ps.set e q').length=x.ps.length:=List.length_set
  rw[←el]
  refine hQ ⟨x.p,x.n,x.m,x.k,x.ps.set e q'⟩ _ _ (((kk.putb (m:=H1.length) (by omega)).putb (m:=h.length) (by omega)).putb (m:=H3.length+1) (by omega)) (((s10.putb (m:=H1.length) (by omega) (by omega)).putb (m:=h.length) (by omega) (by omega)).putb (m:=H3.length+1) (by omega) (by omega)) ?_ ⟨b1,b2,b3,b4,by unfold SmallX at b5 ⊢;rw[el];exact b5⟩
  have bt:Byt 27 (x.ps.set e q'):=hq'▸byt_set e3.2 (by omega) (by omega) (by omega)
  have lgk:=get_lt g510
  exact fun h2 k2 k3=>⟨blk_kN (lo:=lo) (m:=H3.length+1) (get_put_same (by rw[len_put,len_put];omega)) (wid_set w27 lq') (by omega) h2 k2 k3,bt⟩
theorem isX_SchB {x:Sch} {h:AH} {v:Value} (hx:isX x=true) (hv:Prods h v x.ps):SchB x∧(-100≤x.k∧x.k≤100):=by
 obtain⟨z,hp,hl,_⟩:=isX_facts hx
 have:=z.p;have:=z.n;have:=z.m;have:=z.k
 exact⟨⟨by omega,by omega,by omega,by omega,by unfold SmallX;omega⟩,by omega⟩
theorem s_l01Spoil {h0 h:AH} {n:Nat} {Q:Value→AH→Prop} (s:Src h0 h n)
  (hQ:∀ (x:Sch) (v:Value) (h':AH),Kp n h h'→Src h0 h' n→SchD h.length h' v x→SchB x→Q (schV x v) h'):WF S 212 [srcP n] h Q:=by
 refine WF_fn (fn:=c212) rfl rfl ?_
 dsimp only[c212,oO,oM,oS,oG,oK,oE,oL,oF,oX,oN]
 have lt:=s.lt
 have l0:=pre_len s.p
 ((try simp (maxSteps:=3000000) (dsimp:=false) (disch:=first|omega|simp only[lnx];omega) only[↓ypre,ypost,↓reduceIte,reduceEqDiff,reduceAdd,reduceSub,reduceLeDiff,zz0,ynew]);try simp only[yback])
 generalize hH1:AH.new h _=H1
 obtain⟨hb1,p1,n1⟩:=new_facts hH1
 refine s_l01Draw (s.kp p1) fun x v H2 k2 s2 sd hx=>?_
 have g1:=k2.get (by omega) hb1
 have xb:=isX_SchB hx sd.now
 have k2l:=k2.len
 ((try simp (maxSteps:=3000000) (dsimp:=false) (disch:=first|omega|simp only[lnx];omega) only[↓ypre,ypost,↓reduceIte,reduceEqDiff,reduceAdd,reduceSub,reduceLeDiff,zz0,ynew]);try simp only[yback])
 refine s_l01Bad (lo:=H1.length) s2 xb.1 (by omega) sd xb.2 fun x' v' H3 k3 s3 sd' xb'=>?_
 have g1:=k3.get (by omega) g1
 have lg:=get_lt g1
 have o1:isOne v'=true:=sd'.now.one
 ((try simp (maxSteps:=3000000) (dsimp:=false) (disch:=first|omega|simp only[lnx];omega) only[↓ypre,ypost,↓reduceIte,reduceEqDiff,reduceAdd,reduceSub,reduceLeDiff,zz0,ynew,schV,o1,wr_of g1,splice_eq,rdn_put_same]);try simp only[yback])
 exact hQ x' v' _ ((((Kp.of p1).trans k2).trans k3).putb (Nat.le_refl _)) (s3.putb (by omega) (by omega)) ((KN.put sd' (by omega)).mono (by omega)) xb'
end Go.Proofs.Ytapafdpnmakekaa.X

set_option linter.unusedVariables false
set_option linter.unusedSimpArgs false
set_option maxRecDepth 20000
set_option maxHeartbeats 4000000
namespace Go.Proofs.Ytapafdpnmakekaa.X
open Go Go.RowKit
theorem RowD.moved {lo kb:Nat} {H H':AH} {fu:Bool} {rows:List (List Int)} {B:Nat→Nat} {cs:List Value} (r:RowD lo H kb fu rows B cs) (k:∀ m,lo≤m→m<H.length→H'.get m=H.get m):RowD lo H' kb fu rows B cs:=
 ⟨by rw[k kb r.low (get_lt r.get)];exact r.get,r.len,r.low,fun i hi=>by
  obtain⟨h1,h2,⟨f,h3⟩,h4⟩:=r.row i hi
  exact⟨h1,h2,⟨f,by unfold Lst;rw[k (B i) h1 (get_lt h3)];exact h3⟩,h4⟩,r.inc⟩
theorem RowD.kN {lo kb:Nat} {H:AH} {fu:Bool} {rows:List (List Int)} {B:Nat→Nat} {cs:List Value} (r:RowD lo H kb fu rows B cs):KN lo H fun h'=>Rows h' (sl kb rows.length) rows:=
 fun h' l g=>(r.moved g).rows
theorem RowD.vals {lo kb:Nat} {H:AH} {fu:Bool} {rows:List (List Int)} {B:Nat→Nat} {cs:List Value} (r:RowD lo H kb fu rows B cs):Vals H (sl kb rows.length) cs:=
 .inr ⟨kb,0,_,by rw[r.len];rfl,r.get,by simp,fun i hi=>by show cs[0+i]?=_;rw[Nat.zero_add];exact getq hi⟩
theorem RowD.slc {lo kb:Nat} {H:AH} {fu:Bool} {rows:List (List Int)} {B:Nat→Nat} {cs:List Value} (r:RowD lo H kb fu rows B cs) (h0:0<rows.length) :
  ∃ v',X.slcV 1 (sl kb rows.length) (some (I64 1)) none=some v'∧KN lo H fun h'=>Rows h' v' (rows.drop 1):=by
 have hl:=r.len
 obtain⟨v',e,-⟩:=r.vals.slcV_lo (k1:=.i64) (l:=1) (by omega)
 refine⟨v',e,fun h' l g=>?_⟩
 have r':=r.moved g
 obtain⟨v'',e',hv⟩:=r'.vals.slcV_lo (k1:=.i64) (l:=1) (by omega)
 have:v'=v'':=Option.some.inj (e.symm.trans e')
 subst this
 refine⟨cs.drop 1,hv,by simp[hl],fun i hi=>?_⟩
 simp only[List.length_drop] at hi
 obtain⟨h1,h2,⟨f,h3⟩,h4⟩:=r'.row (1+i) (by omega)
 have e1:(cs.drop 1).getD i undef=cs.getD (1+i) undef:=by rw[List.getD_eq_getElem?_getD,List.getElem?_drop,←List.getD_eq_getElem?_getD]
 have e2:(rows.drop 1).getD i []=rows.getD (1+i) []:=by rw[List.getD_eq_getElem?_getD,List.getElem?_drop,←List.getD_eq_getElem?_getD]
 rw[e1,e2,h2]
 exact h3.ints
structure MatD (lo:Nat) (h:AH) (v:Value) (rows:List (List Int)):Prop where
 kn:KN lo h fun h'=>Rows h' v rows
 len:rows.length≤10
 row:∀ i,i<rows.length→(rows.getD i []).length≤100
theorem MatD.kp {lo n:Nat} {h h':AH} {v:Value} {rows:List (List Int)} (d:MatD lo h v rows) (k:Kp n h h') (hn:n<lo):MatD lo h' v rows:=⟨KN.kp d.kn k hn,d.len,d.row⟩
end Go.Proofs.Ytapafdpnmakekaa.X

set_option linter.unusedVariables false
set_option linter.unusedSimpArgs false
set_option maxRecDepth 20000
set_option maxHeartbeats 4000000
namespace Go.Proofs.Ytapafdpnmakekaa.X
open Go Go.RowKit
open Nat (reduceEqDiff reduceAdd reduceSub reduceLeDiff)
theorem s_l02Letter {p c:Int} {h:AH} {Q:Value→AH→Prop} (hp:-1000≤p∧p≤1000) (hQ:∀ r:Int,0≤r∧r≤255→Q (.int .u8 r) h):WF S 339 [I64 p,.int .u8 c] h Q:=by
 refine WF_fn (fn:=c339) rfl rfl ?_
 dsimp only[c339,oO,oM,oS,oG,oK,oE,oL,oF,oX,oN]
 by_cases hc:c=109
 ·((try simp (maxSteps:=3000000) (dsimp:=false) (disch:=first|omega|simp only[lnx];omega) only[↓ypre,ypost,↓reduceIte,reduceEqDiff,reduceAdd,reduceSub,reduceLeDiff,zz0,ynew,decide_eq_true hc,wrap64_in]);try simp only[yback])
  exact hQ _ (wrap8_by _)
 ·((try simp (maxSteps:=3000000) (dsimp:=false) (disch:=first|omega|simp only[lnx];omega) only[↓ypre,ypost,↓reduceIte,reduceEqDiff,reduceAdd,reduceSub,reduceLeDiff,zz0,ynew,decide_eq_false hc]);try simp only[yback])
  exact hQ _ (wrap8_by _)
theorem idxt_at {s:ByteArray} {h:AH} {j:Nat} (hj:j<s.size):idxtV (.string s) (I64 j) h=some (.int .u8 ((s[j]'hj).toNat:Nat),h):=by
 simp only[idxtV,xop,ev]
 rw[if_pos (by omega),Int.toNat_natCast,getElem?_pos s j hj]
theorem byt_snoc {L:List (List Int)} {q:List Int} (hb:Byt 27 L) (hq:By 27 q):Byt 27 (L++[q]):=fun i hi j hj=>by
 by_cases h:i<L.length
 ·rw[getD_app_l h];exact hb i h j hj
 ·rw[List.length_append,List.length_singleton] at hi
  rw[getD_app_r (by omega),show i-L.length=0 by omega]
  exact hq.2 j hj
theorem s_l02Of {h:AH} {p:Int} {nb:Nat} {T:List ByteArray} {e:TypeId} {full:Bool} {Q:Value→AH→Prop} (hb:h.get nb=some ⟨T.map Value.string,e,false,full⟩) (hp:-1000≤p∧p≤1000)
  (hl:T.length≤100) (h4:∀ s∈T,4≤s.size)
  (hQ:∀ (L:List (List Int)) (sv:Value) (h':AH),h<+:h'→InE .u8 27 h.length h'.length h' sv L→Byt 27 L→(3*L.length≤T.length∧T.length≤3*L.length+2)→Q (schV ⟨p,2,2,2,L⟩ sv) h'):WF S 330 [I64 p,.slice (some ⟨nb,0,none⟩) T.length 1] h Q:=by
 refine WF_fn (fn:=c330) rfl rfl ?_
 dsimp only[c330,oO,oM,oS,oG,oK,oE,oL,oF,oX,oN]
 ((try simp (maxSteps:=3000000) (dsimp:=false) (disch:=first|omega|simp only[lnx];omega) only[↓ypre,ypost,↓reduceIte,reduceEqDiff,reduceAdd,reduceSub,reduceLeDiff,zz0,ynew]);try simp only[yback])
 generalize hH1:AH.new h _=H1
 obtain⟨hb1,p1,n1⟩:=new_facts hH1
 ((try simp (maxSteps:=3000000) (dsimp:=false) (disch:=first|omega|simp only[lnx];omega) only[↓ypre,ypost,↓reduceIte,reduceEqDiff,reduceAdd,reduceSub,reduceLeDiff,zz0,ynew,zrep,fillL]);try simp only[yback])
 generalize hH2:AH.new H1 _=H2
 obtain⟨hb2,p2,n2⟩:=new_facts hH2
 have w0:WayE (138) .u8 27 H2 H2.length H1.length (.slice none 0 0) []:=⟨fun r hr=>by simp at hr,.inl ⟨rfl,rfl⟩⟩
 refine WC_loop_inv (fun m f K1=>∃ (i:Nat) (sv:Value) (L:List (List Int)),m=T.length-i∧i≤T.length∧f 0=I64 p∧f 1=.slice (some ⟨nb,0,none⟩) T.length 1∧f 4=.pointer (some ⟨h.length,0,none⟩)∧f 5=.pointer (some ⟨H1.length,0,none⟩)∧f 6=I64 i∧(H1<+:K1)∧(H2.length≤K1.length)∧(K1.get h.length=some ⟨_,_,false,true⟩)∧(OwnB K1 H1.length [I64 p,I64 2,I64 2,I64 2,sv] true)∧(WayE (138) .u8 27 K1 H2.length H1.length sv L)∧(Byt 27 L)∧(3*L.length=i)) ?_ (T.length-0) _ _ ⟨0,.slice none 0 0,[],rfl,by omega,(by first|rfl|simp[upd_apply]),(by first|rfl|simp[upd_apply]),(by first|rfl|simp[upd_apply]),(by first|rfl|simp[upd_apply]),(by first|rfl|simp[upd_apply]),p2,Nat.le_refl _,pre_get p2 hb1,⟨_,hb2⟩,w0,(fun _ h=>by simp at h),rfl⟩
 rintro m f K1 ⟨i,sv,L,rfl,hi,f0,f1,f4,f5,f6,pp,l1,g1,g,w,by27,ll⟩
 by_cases hlt:(i:Int)+2<T.length
 ·((try simp (maxSteps:=3000000) (dsimp:=false) (disch:=first|omega|simp only[lnx];omega) only[↓ypre,ypost,↓reduceIte,reduceEqDiff,reduceAdd,reduceSub,reduceLeDiff,zz0,ynew,f0,f1,f4,f5,f6,decide_eq_true hlt,wrap64_in]);try simp only[yback])
  generalize hK:AH.new K1 _=H3
  obtain⟨hb3,p3,n3⟩:=new_facts hK
  have hb3:H3.get K1.length=some ⟨cel .u8 (List.replicate 27 0),138,false,true⟩:=hb3
  have i3:i+2<T.length:=by omega
  have T0:=List.getElem?_eq_getElem (l:=T) (i:=i) (by omega)
  have T1:=List.getElem?_eq_getElem (l:=T) (i:=i+1) (by omega)
  have T2:=List.getElem?_eq_getElem (l:=T) (i:=i+2) (by omega)
  have m0:=h4 _ (List.getElem_mem (l:=T) (n:=i) (by omega))
  have m1:=h4 _ (List.getElem_mem (l:=T) (n:=i+1) (by omega))
  have m2:=h4 _ (List.getElem_mem (l:=T) (n:=i+2) (by omega))
  generalize T[i]=t0 at T0 m0
  generalize T[i+1]=t1 at T1 m1
  generalize T[i+2]=t2 at T2 m2
  have T0:(T.map Value.string)[i]?=some (.string t0):=by rw[List.getElem?_map,T0];rfl
  have T1:(T.map Value.string)[i+1]?=some (.string t1):=by rw[List.getElem?_map,T1];rfl
  have T2:(T.map Value.string)[i+2]?=some (.string t2):=by rw[List.getElem?_map,T2];rfl
  have z27:By 27 (List.replicate 27 0):=⟨rfl,fun j hj=>by rw[List.getD_eq_getElem?_getD,List.getElem?_replicate];split<;>simp⟩
  refine WC_loop_inv (fun m f K2=>∃ (c:Nat) (q:List Int),m=4-c∧c≤4∧f 0=I64 p∧f 1=.slice (some ⟨nb,0,none⟩) T.length 1∧f 4=.pointer (some ⟨h.length,0,none⟩)∧f 5=.pointer (some ⟨H1.length,0,none⟩)∧f 6=I64 i∧f 7=.pointer (some ⟨K1.length,0,none⟩)∧f 8=I64 c∧(K1<+:K2)∧(By 27 q)∧(K2.get K1.length=some ⟨cel .u8 q,138,false,true⟩)) ?_ (4-0) _ _ ⟨0,List.replicate 27 0,rfl,by omega,(by first|rfl|exact f0|(simp[upd_apply];done)),(by first|rfl|exact f1|(simp[upd_apply];done)),(by first|rfl|exact f4|(simp[upd_apply];done)),(by first|rfl|exact f5|(simp[upd_apply];done)),(by first|rfl|exact f6|(simp[upd_apply];done)),(by first|rfl|simp[upd_apply]),(by first|rfl|simp[upd_apply]),p3,z27,hb3⟩
  rintro m f K2 ⟨c,q,rfl,hc,f0,f1,f4,f5,f6,f7,f8,pq,b27,gq⟩
  have hbK:=pre_get (p1.trans (pp.trans pq)) hb
  by_cases hc:(c:Int)<4
  ·have a0:=idxt_at (s:=t0) (h:=K2) (j:=c) (by omega)
   have q27:=b27.1
   have i1:IntKind.i64.wrap ((i:Int)+1)=((i+1:Nat):Int):=by rw[wrap64_in (by omega) (by omega)];push_cast;rfl
   have i2:IntKind.i64.wrap ((i:Int)+2)=((i+2:Nat):Int):=by rw[wrap64_in (by omega) (by omega)];push_cast;rfl
   ((try simp (maxSteps:=3000000) (dsimp:=false) (disch:=first|omega|simp only[lnx];omega) only[↓ypre,ypost,↓reduceIte,reduceEqDiff,reduceAdd,reduceSub,reduceLeDiff,zz0,ynew,f0,f1,f4,f5,f6,f7,f8,decide_eq_true hc,ixsV_some,Int.toNat_natCast,Nat.mul_one,rd1_of hbK,T0,a0]);try simp only[yback])
   have nK:=get_lt hbK
   have nb0:=get_lt hb
   have hne:nb≠K1.length:=by have:=pre_len (p1.trans pp);omega
   have st:=fun (r:Int)=>cel_set (k:=.u8) (q:=q) (j:=c) (x:=r) (by omega)
   refine⟨by omega,s_l02Letter hp fun r0 hr0=>?_⟩
   have st0:=cel_set (k:=.u8) (q:=q) (j:=c) (x:=r0) (by omega)
   have bq0:=b27.set (j:=c) hr0 (by omega)
   generalize hP:K2.put K1.length ⟨cel .u8 (q.set c r0),138,false,true⟩=H4
   have hbP:H4.get nb=some ⟨T.map Value.string,e,false,full⟩:=by rw[←hP,get_put_ne (Ne.symm hne)];exact hbK
   have gP:H4.get K1.length=some ⟨cel .u8 (q.set c r0),138,false,true⟩:=by rw[←hP];exact get_put_same (get_lt gq)
   have a1:=idxt_at (s:=t1) (h:=H4) (j:=c) (by omega)
   ((try simp (maxSteps:=3000000) (dsimp:=false) (disch:=first|omega|simp only[lnx];omega) only[↓ypre,ypost,↓reduceIte,reduceEqDiff,reduceAdd,reduceSub,reduceLeDiff,zz0,ynew,f0,f1,f4,f5,f6,f7,f8,↓WX_ixa,ixaV_ptr,Int.toNat_natCast,Nat.mul_one,wr_of gq,st0,cel_len,q27,i1,ixsV_some,rd1_of hbP,T1,a1,hP]);try simp only[yback])
   refine⟨by omega,by omega,s_l02Letter hp fun r1 hr1=>?_⟩
   have q28:(q.set c r0).length=27:=bq0.1
   have st1:=cel_set (k:=.u8) (q:=q.set c r0) (j:=9+c) (x:=r1) (by omega)
   have bq1:=bq0.set (j:=9+c) hr1 (by omega)
   generalize hP:H4.put K1.length ⟨cel .u8 ((q.set c r0).set (9+c) r1),138,false,true⟩=H5
   have hbQ:H5.get nb=some ⟨T.map Value.string,e,false,full⟩:=by rw[←hP,get_put_ne (Ne.symm hne)];exact hbP
   have gQ:H5.get K1.length=some ⟨cel .u8 ((q.set c r0).set (9+c) r1),138,false,true⟩:=by rw[←hP];exact get_put_same (get_lt gP)
   have a2:=idxt_at (s:=t2) (h:=H5) (j:=c) (by omega)
   ((try simp (maxSteps:=3000000) (dsimp:=false) (disch:=first|omega|simp only[lnx];omega) only[↓ypre,ypost,↓reduceIte,reduceEqDiff,reduceAdd,reduceSub,reduceLeDiff,zz0,ynew,f0,f1,f4,f5,f6,f7,f8,↓WX_ixa,ixaV_ptr,Int.toNat_natCast,Nat.mul_one,wr_of gP,st1,cel_len,q28,i2,ixsV_some,rd1_of hbQ,T2,a2,hP]);try simp only[yback])
   refine⟨by omega,by omega,s_l02Letter hp fun r2 hr2=>?_⟩
   have q29:((q.set c r0).set (9+c) r1).length=27:=bq1.1
   have st2:=cel_set (k:=.u8) (q:=(q.set c r0).set (9+c) r1) (j:=18+c) (x:=r2) (by omega)
   have bq2:=bq1.set (j:=18+c) hr2 (by omega)
   generalize hP:H5.put K1.length ⟨cel .u8 (((q.set c r0).set (9+c) r1).set (18+c) r2),138,false,true⟩=H6
   have pK:K1<+:H6:=by rw[←hP];exact pre_put (by subst_vars;exact pre_put (pre_put pq (Nat.le_refl _)) (Nat.le_refl _)) (Nat.le_refl _)
   have gR:H6.get K1.length=some ⟨cel .u8 (((q.set c r0).set (9+c) r1).set (18+c) r2),138,false,true⟩:=by rw[←hP];exact get_put_same (get_lt gQ)
   ((try simp (maxSteps:=3000000) (dsimp:=false) (disch:=first|omega|simp only[lnx];omega) only[↓ypre,ypost,↓reduceIte,reduceEqDiff,reduceAdd,reduceSub,reduceLeDiff,zz0,ynew,f0,f1,f4,f5,f6,f7,f8,↓WX_ixa,ixaV_ptr,Int.toNat_natCast,Nat.mul_one,wr_of gQ,st2,cel_len,q29,hP]);try simp only[yback])
   refine⟨by omega,?_⟩
   ((try simp (maxSteps:=3000000) (dsimp:=false) (disch:=first|omega|simp only[lnx];omega) only[↓ypre,ypost,↓reduceIte,reduceEqDiff,reduceAdd,reduceSub,reduceLeDiff,zz0,ynew,f0,f1,f4,f5,f6,f7,f8,wrap64_in]);try simp only[yback])
   refine InvQ_go (4-(c+1)) (by omega) ⟨(c+1),(_),rfl,by omega,(by first|rfl|exact f0|(simp only[upd_apply];rfl)|(show I64 _=_;congr 1;omega)),(by first|rfl|exact f1|(simp only[upd_apply];rfl)|(show I64 _=_;congr 1;omega)),(by first|rfl|exact f4|(simp only[upd_apply];rfl)|(show I64 _=_;congr 1;omega)),(by first|rfl|exact f5|(simp only[upd_apply];rfl)|(show I64 _=_;congr 1;omega)),(by first|rfl|exact f6|(simp only[upd_apply];rfl)|(show I64 _=_;congr 1;omega)),(by first|rfl|exact f7|(simp only[upd_apply];rfl)|(show I64 _=_;congr 1;omega)),(by first|rfl|exact f8|(simp only[upd_apply];rfl)|(show I64 _=_;congr 1;omega)),pK,bq2,gR⟩
  ·obtain⟨eg,hg⟩:=g
   have q27:=b27.1
   have hg2:=pre_get pq hg
   have t27:(cel .u8 q).take 27=cel .u8 q:=List.take_of_length_le (by rw[cel_len,q27];exact Nat.le_refl _)
   ((try simp (maxSteps:=3000000) (dsimp:=false) (disch:=first|omega|simp only[lnx];omega) only[↓ypre,ypost,↓reduceIte,reduceEqDiff,reduceAdd,reduceSub,reduceLeDiff,zz0,ynew,f0,f1,f4,f5,f6,f7,f8,decide_eq_false hc,wrap64_in,rd1_of hg2,rdn_of gq,cel_len,q27,t27,zrep27,sp27z q27,fillL,cel_all,List.append_nil]);try simp only[yback])
   generalize hK4:AH.new K2 _=K4
   have hK4':=hK4
   obtain⟨hb4,p4,n4⟩:=new_facts hK4
   rw[←hK4']
   refine (w.pre pq).app (q:=q) q27 (by omega) (by omega) (by have:=pre_len pp;have:=pre_len pq;omega) (by have:=pre_len pp;have:=pre_len pq;omega) fun sv' H' l' pre' _ own' w'=>?_
   obtain⟨e5,g5⟩:=own' _ _ ⟨eg,hg2⟩
   have lt5:=get_lt g5
   ((try simp (maxSteps:=3000000) (dsimp:=false) (disch:=first|omega|simp only[lnx];omega) only[↓ypre,ypost,↓reduceIte,reduceEqDiff,reduceAdd,reduceSub,reduceLeDiff,zz0,ynew,f0,f1,f4,f5,f6,f7,f8,w'.one,w'.cells,wr_of g5,wrap64_in]);try simp only[yback])
   refine InvQ_go (T.length-(i+3)) (by omega) ⟨(i+3),sv',L++[q],rfl,by omega,(by first|rfl|exact f0|(simp only[upd_apply];rfl)|(show I64 _=_;congr 1;omega)),(by first|rfl|exact f1|(simp only[upd_apply];rfl)|(show I64 _=_;congr 1;omega)),(by first|rfl|exact f4|(simp only[upd_apply];rfl)|(show I64 _=_;congr 1;omega)),(by first|rfl|exact f5|(simp only[upd_apply];rfl)|(show I64 _=_;congr 1;omega)),(by first|rfl|exact f6|(simp only[upd_apply];rfl)|(show I64 _=_;congr 1;omega)),(pre_put (pre' _ (by omega) (pp.trans pq)) (by omega)),(by rw[len_put];have:=pre_len pq;omega),(by rw[get_put_ne (by omega)];exact pre_get (pre' _ (by omega) (pp.trans pq)) hb1),⟨_,get_put_same lt5⟩,w'.put,(byt_snoc by27 b27),(by rw[List.length_append,List.length_singleton];omega)⟩
 ·have iw:IntKind.i64.wrap ((i:Int)+2)=(i:Int)+2:=wrap64_in (by omega) (by omega)
  obtain⟨eg,hg⟩:=g
  have w5:=get_lt g1
  have q1:=pre_len pp
  ((try simp (maxSteps:=3000000) (dsimp:=false) (disch:=first|omega|simp only[lnx];omega) only[↓ypre,ypost,↓reduceIte,reduceEqDiff,reduceAdd,reduceSub,reduceLeDiff,zz0,ynew,f0,f1,f4,f5,f6,iw,decide_eq_false hlt,rdn_of hg,wr_of g1,splice_eq,rdn_put_same,w.one]);try simp only[yback])
  exact hQ L sv _ (pre_put (p1.trans pp) (Nat.le_refl _)) ((w.putb (by omega)).inE.mono (by omega) (Nat.le_refl _)) by27 ⟨by omega,by omega⟩
def partsC:Nat→List Value→List (Nat×Nat×Operand)
 | _,[]=>[]
 | o,c::rest=>(o,1,.const c)::partsC (o+1) rest
theorem fillC {f:Fr}:∀ (T:List ByteArray) (z a:List Value),T.length≤z.length→fillX f (a++z) (partsC a.length (T.map Value.string))=some (a++T.map Value.string++z.drop T.length)
 | [],z,a,_=>by simp[partsC,fillX]
 | s::T,[],a,h=>by simp at h
 | s::T,c::z,a,h=>by
  have ih:=fillC (f:=f) T z (a++[.string s]) (by simpa using h)
  simp only[List.length_append,List.length_singleton] at ih
  have e:(ev f (.const (.string s))).cells.toList=[.string s]:=rfl
  simp only[List.map_cons,partsC,fillX,e,List.length_singleton]
  rw[if_pos (by simp)]
  have e2:splice (a++c::z) a.length [.string s]=a++[.string s]++z:=by
   simp[splice]
  rw[e2,ih]
  simp
theorem fillC_all {f:Fr} (T:List ByteArray) {n:Nat} {z0:Value} (h:n=T.length):fillX f (zrep n [z0]) (partsC 0 (T.map Value.string))=some (T.map Value.string):=by
 have hl:∀ n,(zrep n [z0]).length=n:=fun n=>by
  induction n with
  | zero=>rfl
  | succ n ih=>simp[zrep,ih]
 have:=fillC (f:=f) T (zrep n [z0]) [] (by rw[hl,h];exact Nat.le_refl _)
 simp only[List.nil_append,List.length_nil] at this
 rw[this,List.drop_eq_nil_of_le (by rw[hl,h];exact Nat.le_refl _),List.append_nil]
theorem all_str (T:List ByteArray):(T.map Value.string).all isOne=true:=by
 rw[List.all_eq_true]
 intro v hv
 obtain⟨s,_,rfl⟩:=List.mem_map.1 hv
 rfl
theorem WX_bsl {f:Fr} {h:AH} {Q:Value→AH→Prop} {e:TypeId} {sz n:Nat} {z c:List Value} {l:List (Nat×Nat×Operand)} (hf:∀ f,fillX f (zrep n z) l=some c) (ho:c.all isOne=true):WX S (.bslice e sz n z l) f h Q=Q (.slice (some ⟨h.length,0,none⟩) n sz) (h.new ⟨c,e,false,true⟩):=by
 rw[WX_bslice,←fillX_eq,hf,VQ_some,ho]
 simp only[true_and]
def tx_l02Strassen:List ByteArray:=[⟨#[49,48,48,49]⟩,⟨#[49,48,48,49]⟩,⟨#[49,48,48,49]⟩,⟨#[48,48,49,49]⟩,⟨#[49,48,48,48]⟩,⟨#[48,48,49,109]⟩,⟨#[49,48,48,48]⟩,⟨#[48,49,48,109]⟩,⟨#[48,49,48,49]⟩,⟨#[48,48,48,49]⟩,⟨#[109,48,49,48]⟩,⟨#[49,48,49,48]⟩,⟨#[49,49,48,48]⟩,⟨#[48,48,48,49]⟩,⟨#[109,49,48,48]⟩,⟨#[109,48,49,48]⟩,⟨#[49,49,48,48]⟩,⟨#[48,48,48,49]⟩,⟨#[48,49,48,109]⟩,⟨#[48,48,49,49]⟩,⟨#[49,48,48,48]⟩]
theorem s_l02Strassen {h:AH} {p:Int} {Q:Value→AH→Prop} (hp:-1000≤p∧p≤1000)
  (hQ:∀ (L:List (List Int)) (sv:Value) (h':AH),h<+:h'→InE .u8 27 h.length h'.length h' sv L→Byt 27 L→L.length=7→Q (schV ⟨p,2,2,2,L⟩ sv) h'):WF S 301 [I64 p] h Q:=by
 refine WF_fn (fn:=c301) rfl rfl ?_
 dsimp only[c301,oO,oM,oS,oG,oK,oE,oL,oF,oX,oN]
 generalize hB:XOp.bslice _ _ _ _ _=B
 obtain⟨e,hW⟩:∃ e:TypeId,∀ (f:Fr) (h:AH) (Q:Value→AH→Prop),WX S B f h Q=Q (.slice (some ⟨h.length,0,none⟩) 21 1) (h.new ⟨tx_l02Strassen.map Value.string,e,false,true⟩):=⟨_,fun f h Q=>by rw[←hB];exact WX_bsl (l:=partsC 0 (tx_l02Strassen.map Value.string)) (fun f=>fillC_all _ rfl) (all_str _)⟩
 ((try simp (maxSteps:=3000000) (dsimp:=false) (disch:=first|omega|simp only[lnx];omega) only[↓ypre,ypost,↓reduceIte,reduceEqDiff,reduceAdd,reduceSub,reduceLeDiff,zz0,ynew]);try simp only[yback])
 generalize hH1:AH.new h _=H1
 obtain⟨hb1,p1,n1⟩:=new_facts hH1
 ((try simp (maxSteps:=3000000) (dsimp:=false) (disch:=first|omega|simp only[lnx];omega) only[↓ypre,ypost,↓reduceIte,reduceEqDiff,reduceAdd,reduceSub,reduceLeDiff,zz0,ynew,hW]);try simp only[yback])
 generalize hH2:AH.new H1 _=H2
 obtain⟨hb2,p2,n2⟩:=new_facts hH2
 refine s_l02Of (T:=tx_l02Strassen) hb2 hp (by decide) (by decide) fun L sv H3 p3 o by27 ll=>?_
 have g1:=pre_get (p2.trans p3) hb1
 have l3:=get_lt g1
 ((try simp (maxSteps:=3000000) (dsimp:=false) (disch:=first|omega|simp only[lnx];omega) only[↓ypre,ypost,↓reduceIte,reduceEqDiff,reduceAdd,reduceSub,reduceLeDiff,zz0,ynew,schV,o.rd.one,wr_of g1,splice_eq,rdn_put_same]);try simp only[yback])
 exact hQ L sv _ (pre_put (p1.trans (p2.trans p3)) (Nat.le_refl _)) ((o.putb (by omega)).mono (by omega) (by rw[len_put];exact Nat.le_refl _)) by27 (by have:tx_l02Strassen.length=21:=rfl;omega)
def tx_l02Winograd:List ByteArray:=[⟨#[49,48,48,48]⟩,⟨#[49,48,48,48]⟩,⟨#[49,49,49,49]⟩,⟨#[48,49,48,48]⟩,⟨#[48,48,49,48]⟩,⟨#[49,48,48,48]⟩,⟨#[109,48,49,49]⟩,⟨#[49,109,48,49]⟩,⟨#[48,49,49,49]⟩,⟨#[48,48,49,49]⟩,⟨#[109,49,48,48]⟩,⟨#[48,49,48,49]⟩,⟨#[49,48,109,48]⟩,⟨#[48,109,48,49]⟩,⟨#[48,48,49,49]⟩,⟨#[48,48,48,49]⟩,⟨#[49,109,109,49]⟩,⟨#[48,48,109,48]⟩,⟨#[49,49,109,109]⟩,⟨#[48,48,48,49]⟩,⟨#[48,49,48,48]⟩]
theorem s_l02Winograd {h:AH} {p:Int} {Q:Value→AH→Prop} (hp:-1000≤p∧p≤1000)
  (hQ:∀ (L:List (List Int)) (sv:Value) (h':AH),h<+:h'→InE .u8 27 h.length h'.length h' sv L→Byt 27 L→L.length=7→Q (schV ⟨p,2,2,2,L⟩ sv) h'):WF S 302 [I64 p] h Q:=by
 refine WF_fn (fn:=c302) rfl rfl ?_
 dsimp only[c302,oO,oM,oS,oG,oK,oE,oL,oF,oX,oN]
 generalize hB:XOp.bslice _ _ _ _ _=B
 obtain⟨e,hW⟩:∃ e:TypeId,∀ (f:Fr) (h:AH) (Q:Value→AH→Prop),WX S B f h Q=Q (.slice (some ⟨h.length,0,none⟩) 21 1) (h.new ⟨tx_l02Winograd.map Value.string,e,false,true⟩):=⟨_,fun f h Q=>by rw[←hB];exact WX_bsl (l:=partsC 0 (tx_l02Winograd.map Value.string)) (fun f=>fillC_all _ rfl) (all_str _)⟩
 ((try simp (maxSteps:=3000000) (dsimp:=false) (disch:=first|omega|simp only[lnx];omega) only[↓ypre,ypost,↓reduceIte,reduceEqDiff,reduceAdd,reduceSub,reduceLeDiff,zz0,ynew]);try simp only[yback])
 generalize hH1:AH.new h _=H1
 obtain⟨hb1,p1,n1⟩:=new_facts hH1
 ((try simp (maxSteps:=3000000) (dsimp:=false) (disch:=first|omega|simp only[lnx];omega) only[↓ypre,ypost,↓reduceIte,reduceEqDiff,reduceAdd,reduceSub,reduceLeDiff,zz0,ynew,hW]);try simp only[yback])
 generalize hH2:AH.new H1 _=H2
 obtain⟨hb2,p2,n2⟩:=new_facts hH2
 refine s_l02Of (T:=tx_l02Winograd) hb2 hp (by decide) (by decide) fun L sv H3 p3 o by27 ll=>?_
 have g1:=pre_get (p2.trans p3) hb1
 have l3:=get_lt g1
 ((try simp (maxSteps:=3000000) (dsimp:=false) (disch:=first|omega|simp only[lnx];omega) only[↓ypre,ypost,↓reduceIte,reduceEqDiff,reduceAdd,reduceSub,reduceLeDiff,zz0,ynew,schV,o.rd.one,wr_of g1,splice_eq,rdn_put_same]);try simp only[yback])
 exact hQ L sv _ (pre_put (p1.trans (p2.trans p3)) (Nat.le_refl _)) ((o.putb (by omega)).mono (by omega) (by rw[len_put];exact Nat.le_refl _)) by27 (by have:tx_l02Winograd.length=21:=rfl;omega)
def MvOk (rows cols wide down right:Nat):Prop:=∀ i j,i<rows→j<cols→wide*(i+down)+j+right<9∧cols*i+j<9
theorem s_l02Moved {h:AH} {q:List Int} {rows cols wide down right:Nat} {Q:Value→AH→Prop} (hq:By 9 q) (ok:MvOk rows cols wide down right) (hr:rows≤100∧cols≤100∧wide≤100∧down≤100∧right≤100)
  (hQ:∀ q' h',h<+:h'→By 9 q'→Q (aggV .u8 q') h'):WF S 343 [aggV .u8 q,I64 rows,I64 cols,I64 wide,I64 down,I64 right] h Q:=by
 refine WF_fn (fn:=c343) rfl rfl ?_
 dsimp only[c343,oO,oM,oS,oG,oK,oE,oL,oF,oX,oN]
 have q9:=hq.1
 ((try simp (maxSteps:=3000000) (dsimp:=false) (disch:=first|omega|simp only[lnx];omega) only[↓ypre,ypost,↓reduceIte,reduceEqDiff,reduceAdd,reduceSub,reduceLeDiff,zz0,ynew,aggV,cellsL_cel,cel_all,zeros9,fillL]);try simp only[yback])
 generalize hH1:AH.new h _=H1
 obtain⟨hb1,p1,n1⟩:=new_facts hH1
 generalize hH2:AH.new H1 _=H2
 obtain⟨hb2,p2,n2⟩:=new_facts hH2
 ((try simp (maxSteps:=3000000) (dsimp:=false) (disch:=first|omega|simp only[lnx];omega) only[↓ypre,ypost,↓reduceIte,reduceEqDiff,reduceAdd,reduceSub,reduceLeDiff,zz0,ynew,zeros9,fillL,cel_len,List.length_replicate,cel_all,sp9]);try simp only[yback])
 generalize hH3:AH.new H2 _=H3
 obtain⟨hb3,p3,n3⟩:=new_facts hH3
 refine WC_loop_inv (fun m f K1=>∃ (i:Nat) (r:List Int),m=rows-i∧i≤rows∧f 1=I64 rows∧f 2=I64 cols∧f 3=I64 wide∧f 4=I64 down∧f 5=I64 right∧f 6=.pointer (some ⟨h.length,0,none⟩)∧f 12=.pointer (some ⟨H1.length,0,none⟩)∧f 13=.pointer (some ⟨H2.length,0,none⟩)∧f 14=I64 i∧(H2<+:K1)∧(By 9 r)∧(K1.get H2.length=some ⟨cel .u8 r,136,false,true⟩)) ?_ (rows-0) _ _ ⟨0,z9,rfl,by omega,(by first|rfl|simp[upd_apply]),(by first|rfl|simp[upd_apply]),(by first|rfl|simp[upd_apply]),(by first|rfl|simp[upd_apply]),(by first|rfl|simp[upd_apply]),(by first|rfl|simp[upd_apply]),(by first|rfl|simp[upd_apply]),(by first|rfl|simp[upd_apply]),(by first|rfl|simp[upd_apply]),p3,⟨rfl,fun j hj=>by rw[show (z9.getD j 0)=0 from by show (List.replicate 9 (0:Int)).getD j 0=0;rw[List.getD_eq_getElem?_getD,List.getElem?_replicate];split<;>rfl];omega⟩,hb3⟩
 rintro m f K1 ⟨i,r,rfl,hi,f1,f2,f3,f4,f5,f6,f12,f13,f14,pp,br,g⟩
 by_cases hi:(i:Int)<rows
 ·((try simp (maxSteps:=3000000) (dsimp:=false) (disch:=first|omega|simp only[lnx];omega) only[↓ypre,ypost,↓reduceIte,reduceEqDiff,reduceAdd,reduceSub,reduceLeDiff,zz0,ynew,f1,f2,f3,f4,f5,f6,f12,f13,f14,decide_eq_true hi]);try simp only[yback])
  refine WC_loop_inv (fun m f K2=>∃ (j:Nat) (r:List Int),m=cols-j∧j≤cols∧f 1=I64 rows∧f 2=I64 cols∧f 3=I64 wide∧f 4=I64 down∧f 5=I64 right∧f 6=.pointer (some ⟨h.length,0,none⟩)∧f 12=.pointer (some ⟨H1.length,0,none⟩)∧f 13=.pointer (some ⟨H2.length,0,none⟩)∧f 14=I64 i∧f 15=I64 j∧(H2<+:K2)∧(By 9 r)∧(K2.get H2.length=some ⟨cel .u8 r,136,false,true⟩)) ?_ (cols-0) _ _ ⟨0,r,rfl,by omega,(by first|rfl|exact f1|(simp[upd_apply];done)),(by first|rfl|exact f2|(simp[upd_apply];done)),(by first|rfl|exact f3|(simp[upd_apply];done)),(by first|rfl|exact f4|(simp[upd_apply];done)),(by first|rfl|exact f5|(simp[upd_apply];done)),(by first|rfl|exact f6|(simp[upd_apply];done)),(by first|rfl|exact f12|(simp[upd_apply];done)),(by first|rfl|exact f13|(simp[upd_apply];done)),(by first|rfl|exact f14|(simp[upd_apply];done)),(by first|rfl|simp[upd_apply]),pp,br,g⟩
  rintro m f K2 ⟨j,r,rfl,hj,f1,f2,f3,f4,f5,f6,f12,f13,f14,f15,pp,br,g⟩
  have r9:=br.1
  by_cases hj:(j:Int)<cols
  ·obtain⟨o1,o2⟩:=ok i j (by omega) (by omega)
   have e1:(i:Int)+(down:Int)=((i+down:Nat):Int):=by push_cast;rfl
   have e2:(wide:Int)*((i+down:Nat):Int)=((wide*(i+down):Nat):Int):=by push_cast;rfl
   have e3:((wide*(i+down):Nat):Int)+(j:Int)=((wide*(i+down)+j:Nat):Int):=by push_cast;rfl
   have e4:((wide*(i+down)+j:Nat):Int)+(right:Int)=((wide*(i+down)+j+right:Nat):Int):=by push_cast;rfl
   have e5:(cols:Int)*(i:Int)=((cols*i:Nat):Int):=by push_cast;rfl
   have e6:((cols*i:Nat):Int)+(j:Int)=((cols*i+j:Nat):Int):=by push_cast;rfl
   have w1:IntKind.i64.wrap ((i+down:Nat):Int)=_:=wrap64_in (by omega) (by omega)
   have w2:IntKind.i64.wrap ((wide*(i+down):Nat):Int)=_:=wrap64_in (by omega) (by omega)
   have w3:IntKind.i64.wrap ((wide*(i+down)+j:Nat):Int)=_:=wrap64_in (by omega) (by omega)
   have w4:IntKind.i64.wrap ((wide*(i+down)+j+right:Nat):Int)=_:=wrap64_in (by omega) (by omega)
   have w5:IntKind.i64.wrap ((cols*i:Nat):Int)=_:=wrap64_in (by omega) (by omega)
   have w6:IntKind.i64.wrap ((cols*i+j:Nat):Int)=_:=wrap64_in (by omega) (by omega)
   have g0:=pre_get ((p2).trans pp) hb1
   generalize wide*(i+down)+j+right=A at *
   generalize cols*i+j=B at *
   have cg:=cel_get (k:=.u8) (q:=q) (j:=B) (by omega)
   have st:=cel_set (k:=.u8) (q:=r) (j:=A) (x:=q.getD B 0) (by omega)
   have bs:=br.set (j:=A) (hq.2 B o2) o1
   ((try simp (maxSteps:=3000000) (dsimp:=false) (disch:=first|omega|simp only[lnx];omega) only[↓ypre,ypost,↓reduceIte,reduceEqDiff,reduceAdd,reduceSub,reduceLeDiff,zz0,ynew,f1,f2,f3,f4,f5,f6,f12,f13,f14,f15,decide_eq_true hj,e1,e2,e3,e4,e5,e6,w1,w2,w3,w4,w5,w6,↓WX_ixa,ixaV_ptr,Int.toNat_natCast,Nat.mul_one,rd1_of g0,cg,wr_of g,st,cel_len,r9]);try simp only[yback])
   refine⟨by omega,?_⟩
   ((try simp (maxSteps:=3000000) (dsimp:=false) (disch:=first|omega|simp only[lnx];omega) only[↓ypre,ypost,↓reduceIte,reduceEqDiff,reduceAdd,reduceSub,reduceLeDiff,zz0,ynew,f1,f2,f3,f4,f5,f6,f12,f13,f14,f15,wrap64_in]);try simp only[yback])
   refine InvQ_go (cols-(j+1)) (by omega) ⟨(j+1),(_),rfl,by omega,(by first|rfl|exact f1|(simp only[upd_apply];rfl)|(show I64 _=_;congr 1;omega)),(by first|rfl|exact f2|(simp only[upd_apply];rfl)|(show I64 _=_;congr 1;omega)),(by first|rfl|exact f3|(simp only[upd_apply];rfl)|(show I64 _=_;congr 1;omega)),(by first|rfl|exact f4|(simp only[upd_apply];rfl)|(show I64 _=_;congr 1;omega)),(by first|rfl|exact f5|(simp only[upd_apply];rfl)|(show I64 _=_;congr 1;omega)),(by first|rfl|exact f6|(simp only[upd_apply];rfl)|(show I64 _=_;congr 1;omega)),(by first|rfl|exact f12|(simp only[upd_apply];rfl)|(show I64 _=_;congr 1;omega)),(by first|rfl|exact f13|(simp only[upd_apply];rfl)|(show I64 _=_;congr 1;omega)),(by first|rfl|exact f14|(simp only[upd_apply];rfl)|(show I64 _=_;congr 1;omega)),(by first|rfl|exact f15|(simp only[upd_apply];rfl)|(show I64 _=_;congr 1;omega)),(pre_put pp (Nat.le_refl _)),bs,(get_put_same (get_lt g))⟩
  ·((try simp (maxSteps:=3000000) (dsimp:=false) (disch:=first|omega|simp only[lnx];omega) only[↓ypre,ypost,↓reduceIte,reduceEqDiff,reduceAdd,reduceSub,reduceLeDiff,zz0,ynew,f1,f2,f3,f4,f5,f6,f12,f13,f14,f15,decide_eq_false hj,wrap64_in]);try simp only[yback])
   refine InvQ_go (rows-(i+1)) (by omega) ⟨(i+1),r,rfl,by omega,(by first|rfl|exact f1|(simp only[upd_apply];rfl)|(show I64 _=_;congr 1;omega)),(by first|rfl|exact f2|(simp only[upd_apply];rfl)|(show I64 _=_;congr 1;omega)),(by first|rfl|exact f3|(simp only[upd_apply];rfl)|(show I64 _=_;congr 1;omega)),(by first|rfl|exact f4|(simp only[upd_apply];rfl)|(show I64 _=_;congr 1;omega)),(by first|rfl|exact f5|(simp only[upd_apply];rfl)|(show I64 _=_;congr 1;omega)),(by first|rfl|exact f6|(simp only[upd_apply];rfl)|(show I64 _=_;congr 1;omega)),(by first|rfl|exact f12|(simp only[upd_apply];rfl)|(show I64 _=_;congr 1;omega)),(by first|rfl|exact f13|(simp only[upd_apply];rfl)|(show I64 _=_;congr 1;omega)),(by first|rfl|exact f14|(simp only[upd_apply];rfl)|(show I64 _=_;congr 1;omega)),pp,br,g⟩
 ·have t9:(cel .u8 r).take 9=cel .u8 r:=List.take_of_length_le (by rw[cel_len,br.1];exact Nat.le_refl _)
  have r9:=br.1
  have g1:=pre_get pp hb2
  have w9:=wr_full (vs:=cel .u8 r) g1 (by rw[cel_len,r9];rfl)
  have l1:=get_lt g1
  ((try simp (maxSteps:=3000000) (dsimp:=false) (disch:=first|omega|simp only[lnx];omega) only[↓ypre,ypost,↓reduceIte,reduceEqDiff,reduceAdd,reduceSub,reduceLeDiff,zz0,ynew,f1,f2,f3,f4,f5,f6,f12,f13,f14,decide_eq_false hi,rdn_of g,cel_len,r9,t9,cel_all,w9,rdn_put_same]);try simp only[yback])
  exact hQ r _ (pre_put (p1.trans (p2.trans pp)) (by omega)) br
def WayZ (lo a b:Nat) (h:AH) (sv:Value) (L:List (List Int)):Prop:=
 Wid 27 L∧((sv=.slice none 0 2∧L=[])∨∃ kb,sv=.slice (some ⟨kb,0,none⟩) L.length 27∧lo≤kb∧(kb<a∨b≤kb)∧h.get kb=some ⟨cel .u8 L.flatten,138,false,false⟩)
section
variable {lo a b:Nat} {h h':AH} {sv:Value} {L:List (List Int)}
theorem WayZ.pre (o:WayZ lo a b h sv L) (p:h<+:h'):WayZ lo a b h' sv L:=by
 obtain⟨hw,o|⟨kb,h1,h2,h3,h4⟩⟩:=o
 ·exact⟨hw,.inl o⟩
 ·exact⟨hw,.inr ⟨kb,h1,h2,h3,pre_get p h4⟩⟩
theorem WayZ.one (o:WayZ lo a b h sv L):isOne sv=true:=by
 obtain⟨hw,⟨rfl,_⟩|⟨kb,rfl,h2,h3,h4⟩⟩:=o<;>rfl
theorem WayZ.cells (o:WayZ lo a b h sv L):cellsL sv=[sv]:=by
 obtain⟨hw,⟨rfl,_⟩|⟨kb,rfl,h2,h3,h4⟩⟩:=o<;>rfl
theorem WayZ.putb {n:Nat} {c:Blk} (o:WayZ lo a b h sv L) (hn:a≤n∧n<b):WayZ lo a b (h.put n c) sv L:=by
 obtain⟨hw,o|⟨kb,h1,h2,h3,h4⟩⟩:=o
 ·exact⟨hw,.inl o⟩
 ·exact⟨hw,.inr ⟨kb,h1,h2,h3,by rw[get_put_ne (by omega)];exact h4⟩⟩
theorem WayZ.inE (o:WayZ lo a b h sv L) (hl:1≤L.length):InE .u8 27 lo h.length h sv L:=by
 obtain⟨hw,⟨_,rfl⟩|⟨kb,h1,h2,h3,h4⟩⟩:=o
 ·simp at hl
 ·exact .inr ⟨kb,_,false,⟨h2,get_lt h4⟩,h1,h4,hw⟩
theorem WayZ.app {H:AH} {q:List Int} {e':TypeId} {ro full:Bool} (o:WayZ lo a b H sv L) (hq:q.length=27) (hl:L.length≤1000) (hb:b≤H.length) (hlo:lo≤H.length)
  {Q:Value→AH→Prop} (hQ:∀ (sv':Value) (H':AH),H'.length=H.length+2→(∀ h0:AH,h0.length≤lo→h0<+:H→h0<+:H')→(∀ n c,n<lo∨a≤n∧n<b→H.get n=some c→H'.get n=some c)→WayZ lo a b H' sv' (L++[q])→Q sv' H') :
  OQ (appV (138) 27 27 sv (.slice (some ⟨H.length,0,none⟩) 1 27) (H.new ⟨cel .u8 q,e',ro,full⟩)) Q:=by
 have hr:(H.new ⟨cel .u8 q,e',ro,full⟩).rdn H.length 0 27=some (cel .u8 q):=by
  rw[rdn_of get_new_same]
  simp only
  rw[if_pos (by rw[cel_len,hq];omega),List.drop_zero,List.take_of_length_le (by rw[cel_len,hq];omega)]
 obtain⟨hw,⟨rfl,rfl⟩|⟨kb,rfl,h2,h3,h4⟩⟩:=o
 ·rw[app_nilW (.inr rfl) hr (by omega),OQ_some]
  refine hQ _ _ (by rw[len_new,len_new]) (fun h0 _ p=>pre_new (pre_new p)) (fun n c _ g=>get_new_any (get_new_any g)) ⟨?_,.inr ⟨_,rfl,by rw[len_new];omega,by rw[len_new];omega,?_⟩⟩
  ·intro r hr
   rw[List.nil_append,List.mem_singleton] at hr
   rw[hr,hq]
  ·rw[get_new_same]
   simp
 ·have hk:(H.new ⟨cel .u8 q,e',ro,full⟩).get kb=some ⟨cel .u8 L.flatten,138,false,false⟩:=get_new_any h4
  have hkb:=get_lt h4
  rw[app_ownW hk (by rw[cel_len,flat_len hw]) hr ⟨by omega,by omega⟩,OQ_some]
  refine hQ _ _ (by rw[len_new,len_kill,len_new]) (fun h0 q p=>pre_new (pre_kill (pre_new p) (by omega))) (fun n c hn g=>get_new_any (by rw[get_kill_ne (by omega)];exact get_new_any g)) ⟨?_,.inr ⟨(H.new ⟨cel .u8 q,e',ro,full⟩).length,by simp,by rw[len_new];omega,by rw[len_new];omega,?_⟩⟩
  ·intro r hr
   rcases List.mem_append.1 hr with hr|hr
   ·exact hw r hr
   ·rw[List.mem_singleton.1 hr,hq]
  ·rw[get_new_eq (by rw[len_kill])]
   simp[cel_app]
end
theorem inE_keep {k:IntKind} {w lo:Nat} {h h':AH} {v:Value} {L:List (List Int)} (o:InE k w 0 lo h v L) (hk:∀ n c,n<lo→h.get n=some c→h'.get n=some c):InE k w 0 lo h' v L:=by
 rcases o with o|⟨m,e,full,h1,rfl,h2,h3⟩
 ·exact .inl o
 ·exact .inr ⟨m,e,full,h1,rfl,hk _ _ h1.2 h2,h3⟩
theorem s_l02Put {h0 h:AH} {x o:Sch} {v w:Value} {lo row inner col N M K OM OK:Nat} {Q:Value→AH→Prop} (hx:x.n=N∧x.m=M∧x.k=K) (ho:o.m=OM∧o.k=OK)
  (hv:InE .u8 27 0 lo h v x.ps) (bx:Byt 27 x.ps) (hw:WayZ lo h.length h.length h w o.ps) (bo:Byt 27 o.ps) (p0:h0<+:h) (hlo:h0.length≤lo∧lo≤h.length)
  (sm:N≤100∧M≤100∧K≤100∧OM≤100∧OK≤100∧row≤100∧inner≤100∧col≤100) (ok:MvOk N M OM row inner∧MvOk M K OK inner col∧MvOk N K OK row col) (ll:x.ps.length≤100∧o.ps.length≤100)
  (hQ:∀ (L:List (List Int)) (w':Value) (h':AH),h0<+:h'→h.length≤h'.length→WayZ lo h'.length h'.length h' w' L→Byt 27 L→L.length=o.ps.length+x.ps.length→Q (schV ⟨o.p,o.n,o.m,o.k,L⟩ w') h') :
  WF S 340 [schV x v,schV o w,I64 row,I64 inner,I64 col] h Q:=by
 refine WF_fn (fn:=c340) rfl rfl ?_
 dsimp only[c340,oO,oM,oS,oG,oK,oE,oL,oF,oX,oN]
 obtain⟨x1,x2,x3⟩:=hx
 obtain⟨o1,o2⟩:=ho
 have v1:isOne v=true:=hv.rd.one
 have w1:=hw.one
 ((try simp (maxSteps:=3000000) (dsimp:=false) (disch:=first|omega|simp only[lnx];omega) only[↓ypre,ypost,↓reduceIte,reduceEqDiff,reduceAdd,reduceSub,reduceLeDiff,zz0,ynew,schV,v1,w1,x1,x2,x3,o1,o2]);try simp only[yback])
 generalize hH1:AH.new h _=H1
 obtain⟨hb1,p1,n1⟩:=new_facts hH1
 generalize hH2:AH.new H1 _=H2
 obtain⟨hb2,p2,n2⟩:=new_facts hH2
 generalize hH3:AH.new H2 _=H3
 obtain⟨hb3,p3,n3⟩:=new_facts hH3
 have w0:WayZ lo h.length H3.length H3 w o.ps:=by
  obtain⟨a1,a2|⟨kb,a2,a3,a4,a5⟩⟩:=hw
  ·exact⟨a1,.inl a2⟩
  ·exact⟨a1,.inr ⟨kb,a2,a3,.inl (get_lt a5),pre_get (p1.trans (p2.trans p3)) a5⟩⟩
 refine WC_loop_inv (fun m f K1=>∃ (i:Nat) (sv:Value) (L:List (List Int)),m=x.ps.length-i∧i≤x.ps.length∧f 2=I64 row∧f 3=I64 inner∧f 4=I64 col∧f 5=.pointer (some ⟨h.length,0,none⟩)∧f 6=.pointer (some ⟨H1.length,0,none⟩)∧f 10=.pointer (some ⟨H2.length,0,none⟩)∧f 11=I64 i∧(h0<+:K1)∧(H3.length≤K1.length)∧(InE .u8 27 0 lo K1 v x.ps)∧(OwnB K1 h.length [I64 x.p,I64 N,I64 M,I64 K,v] true)∧(OwnB K1 H1.length [I64 o.p,I64 o.n,I64 OM,I64 OK,sv] true)∧(K1.get H2.length=some ⟨_,_,false,true⟩)∧(WayZ lo h.length H3.length K1 sv L)∧(Byt 27 L)∧(L.length=o.ps.length+i)) ?_ (x.ps.length-0) _ _ ⟨0,w,o.ps,rfl,by omega,(by first|rfl|simp[upd_apply]),(by first|rfl|simp[upd_apply]),(by first|rfl|simp[upd_apply]),(by first|rfl|simp[upd_apply]),(by first|rfl|simp[upd_apply]),(by first|rfl|simp[upd_apply]),(by first|rfl|simp[upd_apply]),p0.trans (p1.trans (p2.trans p3)),Nat.le_refl _,(hv.pre (p1.trans (p2.trans p3))),⟨_,pre_get (p2.trans p3) hb1⟩,⟨_,pre_get p3 hb2⟩,hb3,w0,bo,rfl⟩
 rintro m f K1 ⟨i,sv,L,rfl,hi,f2,f3,f4,f5,f6,f10,f11,pp,l1,iv,g5,g6,g10,ww,bl,le⟩
 obtain⟨e5,g5⟩:=g5
 obtain⟨e6,g6⟩:=g6
 have elen:=iv.rd.len
 by_cases hlt:(i:Int)<x.ps.length
 ·obtain⟨nn,off,ix,rd⟩:=iv.rd.at (i:=i) (by omega)
  have by27:By 27 (x.ps.getD i []):=⟨iv.rd.wid (by omega),fun j hj=>bx i (by omega) j hj⟩
  generalize x.ps.getD i []=q at rd by27
  have q27:=by27.1
  have r27:K1.rdn nn off 27=some (cel .u8 q):=by
   have:=rd.1 0 27 (by omega)
   rwa [Nat.add_zero,List.drop_zero,List.take_of_length_le (by omega)] at this
  have t18:∀ k,k+9≤27→By 9 ((q.drop k).take 9):=fun k hk=>⟨by rw[List.length_take,List.length_drop];omega,fun j hj=>by
   rw[List.getD_eq_getElem?_getD,List.getElem?_take_of_lt hj,List.getElem?_drop,←List.getD_eq_getElem?_getD]
   exact by27.2 (k+j) (by omega)⟩
  have t0:=t18 0 (by omega)
  rw[List.drop_zero] at t0
  ((try simp (maxSteps:=3000000) (dsimp:=false) (disch:=first|omega|simp only[lnx];omega) only[↓ypre,ypost,↓reduceIte,reduceEqDiff,reduceAdd,reduceSub,reduceLeDiff,zz0,ynew,f2,f3,f4,f5,f6,f10,f11,rd1_of g5,rd1_of g6,elen,decide_eq_true hlt,ix,r27,cel_all,cel_len,q27,sp27z q27,zrep27,splice_27 q27,cel_take,cel_drop]);try simp only[yback])
  generalize hK2:AH.new K1 _=K2
  obtain⟨hb12,p12,n12⟩:=new_facts hK2
  have k5:=pre_get p12 g5
  have k6:=pre_get p12 g6
  refine s_l02Moved (q:=q.take 9) t0 ok.1 ⟨sm.1,sm.2.1,sm.2.2.2.1,sm.2.2.2.2.2.1,sm.2.2.2.2.2.2.1⟩ fun qa K3 pa ba=>⟨pa,?_⟩
  have k5:=pre_get pa k5
  have k6:=pre_get pa k6
  have kb:=pre_get pa hb12
  ((try simp (maxSteps:=3000000) (dsimp:=false) (disch:=first|omega|simp only[lnx];omega) only[↓ypre,ypost,↓reduceIte,reduceEqDiff,reduceAdd,reduceSub,reduceLeDiff,zz0,ynew,f2,f3,f4,f5,f6,f10,f11,rd1_of k5,rd1_of k6,rdn_of kb,cel_take,cel_drop,cel_len,q27]);try simp only[yback])
  refine s_l02Moved (q:=(q.drop 9).take 9) (t18 9 (by omega)) ok.2.1 ⟨sm.2.1,sm.2.2.1,sm.2.2.2.2.1,sm.2.2.2.2.2.2.1,sm.2.2.2.2.2.2.2⟩ fun qb K4 pb bb=>⟨pb,?_⟩
  have k5:=pre_get pb k5
  have k6:=pre_get pb k6
  have kb:=pre_get pb kb
  ((try simp (maxSteps:=3000000) (dsimp:=false) (disch:=first|omega|simp only[lnx];omega) only[↓ypre,ypost,↓reduceIte,reduceEqDiff,reduceAdd,reduceSub,reduceLeDiff,zz0,ynew,f2,f3,f4,f5,f6,f10,f11,rd1_of k5,rd1_of k6,rdn_of kb,cel_take,cel_drop,cel_len,q27]);try simp only[yback])
  refine s_l02Moved (q:=(q.drop 18).take 9) (t18 18 (by omega)) ok.2.2 ⟨sm.1,sm.2.2.1,sm.2.2.2.2.1,sm.2.2.2.2.2.1,sm.2.2.2.2.2.2.2⟩ fun qc K5 pc bc=>?_
  have k5:=pre_get pc k5
  have k6:=pre_get pc k6
  have a9:=ba.1
  have b9:=bb.1
  have c9:=bc.1
  have abc:=by_27 ba bb bc
  have len27:=abc.1
  obtain⟨sa,sb,sc⟩:=sp27 a9 b9 c9
  ((try simp (maxSteps:=3000000) (dsimp:=false) (disch:=first|omega|simp only[lnx];omega) only[↓ypre,ypost,↓reduceIte,reduceEqDiff,reduceAdd,reduceSub,reduceLeDiff,zz0,ynew,f2,f3,f4,f5,f6,f10,f11,aggV,cellsL_cel,cel_len,a9,b9,c9,zeros27,sa,sb,sc,cel_all,len27,List.length_replicate]);try simp only[yback])
  generalize hK6:AH.new K5 _=K6
  obtain⟨hb13,p13,n13⟩:=new_facts hK6
  have k6:=pre_get p13 k6
  have P6:K1<+:K6:=p12.trans (pa.trans (pb.trans (pc.trans p13)))
  have t27:(cel .u8 (qa++qb++qc)).take 27=cel .u8 (qa++qb++qc):=List.take_of_length_le (by rw[cel_len,len27];exact Nat.le_refl _)
  have L6:=pre_len P6
  ((try simp (maxSteps:=3000000) (dsimp:=false) (disch:=first|omega|simp only[lnx];omega) only[↓ypre,ypost,↓reduceIte,reduceEqDiff,reduceAdd,reduceSub,reduceLeDiff,zz0,ynew,f2,f3,f4,f5,f6,f10,f11,rd1_of k6,rdn_of hb13,cel_len,len27,t27,zrep27,sp27z len27,fillL,cel_all,List.append_nil,List.length_replicate]);try simp only[yback])
  refine (ww.pre P6).app (q:=qa++qb++qc) len27 (by omega) (by omega) (by omega) fun sv' H' l' pre' keep' w'=>?_
  have g5':=keep' _ _ (.inr ⟨Nat.le_refl _,by omega⟩) (pre_get P6 g5)
  have g6':=keep' _ _ (.inr ⟨by omega,by omega⟩) (pre_get P6 g6)
  have g10':=keep' _ _ (.inr ⟨by omega,by omega⟩) (pre_get P6 g10)
  have lt6:=get_lt g6'
  ((try simp (maxSteps:=3000000) (dsimp:=false) (disch:=first|omega|simp only[lnx];omega) only[↓ypre,ypost,↓reduceIte,reduceEqDiff,reduceAdd,reduceSub,reduceLeDiff,zz0,ynew,f2,f3,f4,f5,f6,f10,f11,w'.one,w'.cells,wr_of g6',wrap64_in]);try simp only[yback])
  refine InvQ_go (x.ps.length-(i+1)) (by omega) ⟨(i+1),sv',L++[qa++qb++qc],rfl,by omega,(by first|rfl|exact f2|(simp only[upd_apply];rfl)|(show I64 _=_;congr 1;omega)),(by first|rfl|exact f3|(simp only[upd_apply];rfl)|(show I64 _=_;congr 1;omega)),(by first|rfl|exact f4|(simp only[upd_apply];rfl)|(show I64 _=_;congr 1;omega)),(by first|rfl|exact f5|(simp only[upd_apply];rfl)|(show I64 _=_;congr 1;omega)),(by first|rfl|exact f6|(simp only[upd_apply];rfl)|(show I64 _=_;congr 1;omega)),(by first|rfl|exact f10|(simp only[upd_apply];rfl)|(show I64 _=_;congr 1;omega)),(by first|rfl|exact f11|(simp only[upd_apply];rfl)|(show I64 _=_;congr 1;omega)),(pre_put (pre' _ hlo.1 (pp.trans P6)) (by have:=pre_len p0;omega)),(by rw[len_put];omega),(inE_keep iv fun n c hn g=>by rw[get_put_ne (by omega)];exact keep' n c (.inl hn) (pre_get P6 g)),⟨_,by rw[get_put_ne (by omega)];exact g5'⟩,⟨_,get_put_same lt6⟩,(by rw[get_put_ne (by omega)];exact g10'),(w'.putb ⟨by omega,by omega⟩),(byt_snoc bl abc),(by rw[List.length_append,List.length_singleton];omega)⟩
 ·have lt10:=get_lt g10
  ((try simp (maxSteps:=3000000) (dsimp:=false) (disch:=first|omega|simp only[lnx];omega) only[↓ypre,ypost,↓reduceIte,reduceEqDiff,reduceAdd,reduceSub,reduceLeDiff,zz0,ynew,f2,f3,f4,f5,f6,f10,f11,rd1_of g5,elen,decide_eq_false hlt,rdn_of g6,wr_of g10,splice_eq,rdn_put_same,ww.one]);try simp only[yback])
  have el:L.length=o.ps.length+x.ps.length:=by omega
  rw[←o1,←o2]
  refine hQ L sv _ (pre_put pp (by have:=pre_len p0;omega)) (by rw[len_put];omega) ?_ bl el
  obtain⟨a1,a2|⟨kb,a2,a3,a4,a5⟩⟩:=ww
  ·exact⟨a1,.inl a2⟩
  ·exact⟨a1,.inr ⟨kb,a2,a3,.inl (by rw[len_put];exact get_lt a5),by rw[get_put_ne (by omega)];exact a5⟩⟩
theorem s_l01Empty {h:AH} {x:Sch} {v:Value} {Q:Value→AH→Prop} (hv:isOne v=true) (hQ:∀ h',h<+:h'→Q (schV ⟨x.p,x.n,x.m,x.k,[]⟩ (.slice none 0 2)) h'):WF S 277 [schV x v] h Q:=by
 refine WF_fn (fn:=c277) rfl rfl ?_
 dsimp only[c277,oO,oM,oS,oG,oK,oE,oL,oF,oX,oN]
 ((try simp (maxSteps:=3000000) (dsimp:=false) (disch:=first|omega|simp only[lnx];omega) only[↓ypre,ypost,↓reduceIte,reduceEqDiff,reduceAdd,reduceSub,reduceLeDiff,zz0,ynew,schV,hv]);try simp only[yback])
 generalize hH1:AH.new h _=H1
 obtain⟨hb1,p1,n1⟩:=new_facts hH1
 generalize hH2:AH.new H1 _=H2
 obtain⟨hb2,p2,n2⟩:=new_facts hH2
 have g1:=pre_get p2 hb1
 have lt:=get_lt hb2
 ((try simp (maxSteps:=3000000) (dsimp:=false) (disch:=first|omega|simp only[lnx];omega) only[↓ypre,ypost,↓reduceIte,reduceEqDiff,reduceAdd,reduceSub,reduceLeDiff,zz0,ynew,rd1_of g1,fillL,wr_of hb2,splice_eq,rdn_put_same]);try simp only[yback])
 exact hQ _ (p1.trans p2)
theorem mvOk {rows cols wide down right:Nat} (h1:rows+down≤3) (h2:cols+right≤3) (h3:wide≤3):MvOk rows cols wide down right:=fun i j hi hj=>by
 have a:=Nat.mul_le_mul h3 (show i+down≤2 by omega)
 have b:=Nat.mul_le_mul (show cols≤3 by omega) (show i≤2 by omega)
 omega
theorem s_l02Join {h:AH} {x y:Sch} {v u:Value} {kind N M K N' M' K':Nat} {Q:Value→AH→Prop} (hx:x.n=N∧x.m=M∧x.k=K) (hy:y.n=N'∧y.m=M'∧y.k=K')
  (hv:InE .u8 27 0 h.length h v x.ps) (bx:Byt 27 x.ps) (hu:InE .u8 27 0 h.length h u y.ps) (by':Byt 27 y.ps) (ll:x.ps.length+y.ps.length≤100) (l1:1≤x.ps.length)
  (hk:kind=0∧N+N'≤3∧M≤3∧K≤3∧M'=M∧K'=K∨kind=1∧M+M'≤3∧N≤3∧K≤3∧N'=N∧K'=K∨kind=2∧K+K'≤3∧N≤3∧M≤3∧N'=N∧M'=M)
  (hQ:∀ (L:List (List Int)) (w:Value) (h':AH),h<+:h'→InE .u8 27 h.length h'.length h' w L→Byt 27 L→L.length=x.ps.length+y.ps.length →
   Q (schV ⟨x.p,((if kind=0 then N+N' else N:Nat):Int),((if kind=1 then M+M' else M:Nat):Int),((if kind=2 then K+K' else K:Nat):Int),L⟩ w) h') :
  WF S 333 [schV x v,schV y u,I64 kind] h Q:=by
 refine WF_fn (fn:=c333) rfl rfl ?_
 dsimp only[c333,oO,oM,oS,oG,oK,oE,oL,oF,oX,oN]
 obtain⟨x1,x2,x3⟩:=hx
 obtain⟨y1,y2,y3⟩:=hy
 have v1:isOne v=true:=hv.rd.one
 have u1:isOne u=true:=hu.rd.one
 ((try simp (maxSteps:=3000000) (dsimp:=false) (disch:=first|omega|simp only[lnx];omega) only[↓ypre,ypost,↓reduceIte,reduceEqDiff,reduceAdd,reduceSub,reduceLeDiff,zz0,ynew,schV,v1,u1,x1,x2,x3,y1,y2,y3]);try simp only[yback])
 generalize hH1:AH.new h _=H1
 obtain⟨hb1,p1,n1⟩:=new_facts hH1
 generalize hH2:AH.new H1 _=H2
 obtain⟨hb2,p2,n2⟩:=new_facts hH2
 generalize hH3:AH.new H2 _=H3
 obtain⟨hb3,p3,n3⟩:=new_facts hH3
 have g1:=pre_get (p2.trans p3) hb1
 have g2:=pre_get p3 hb2
 ((try simp (maxSteps:=3000000) (dsimp:=false) (disch:=first|omega|simp only[lnx];omega) only[↓ypre,ypost,↓reduceIte,reduceEqDiff,reduceAdd,reduceSub,reduceLeDiff,zz0,ynew,rdn_of g1]);try simp only[yback])
 refine s_l01Empty (x:=⟨x.p,N,M,K,x.ps⟩) v1 fun H4 p4=>?_
 ((try simp (maxSteps:=3000000) (dsimp:=false) (disch:=first|omega|simp only[lnx];omega) only[↓ypre,ypost,↓reduceIte,reduceEqDiff,reduceAdd,reduceSub,reduceLeDiff,zz0,ynew,schV]);try simp only[yback])
 generalize hH5:AH.new H4 _=H5
 obtain⟨hb5,p5,n5⟩:=new_facts hH5
 have P5:h<+:H5:=p1.trans (p2.trans (p3.trans (p4.trans p5)))
 have g1:=pre_get (p4.trans p5) g1
 have g2:=pre_get (p4.trans p5) g2
 have g3:=pre_get (p4.trans p5) hb3
 have q4:=pre_len p4
 have q5:=pre_len P5
 rcases hk with⟨rfl,k1,k2,k3,rfl,rfl⟩|⟨rfl,k1,k2,k3,rfl,rfl⟩|⟨rfl,k1,k2,k3,rfl,rfl⟩
 ·have ce:(N:Int)+(N':Int)=((N+N':Nat):Int):=by push_cast;rfl
  ((try simp (maxSteps:=3000000) (dsimp:=false) (disch:=first|omega|simp only[lnx];omega) only[↓ypre,ypost,↓reduceIte,reduceEqDiff,reduceAdd,reduceSub,reduceLeDiff,zz0,ynew,show ((0:Nat):Int)=0 from rfl,show decide ((0:Int)=0)=true from rfl,rd1_of g1,rd1_of g2,ce,wrap64_in,wr_of hb5,splice_eq,rdn_of g1,rdn_of g2]);try simp only[yback])
  generalize hH6:AH.put H5 _ _=H6
  have g1:=(show H6.get h.length=H5.get h.length by rw[←hH6];exact get_put_ne (by omega)).trans g1
  have g2:=(show H6.get H1.length=H5.get H1.length by rw[←hH6];exact get_put_ne (by omega)).trans g2
  have g3:=(show H6.get H2.length=H5.get H2.length by rw[←hH6];exact get_put_ne (by omega)).trans g3
  have P6:h<+:H6:=by rw[←hH6];exact pre_put P5 (by omega)
  have q6:=pre_len P6
  have n6:H6.length=H5.length:=by rw[←hH6,len_put]
  refine s_l02Put (x:=⟨x.p,N,M',K',x.ps⟩) (o:=⟨x.p,(N+N':Nat),M',K',[]⟩) (lo:=H6.length) (h0:=H6) (row:=0) (inner:=0) (col:=0) ⟨rfl,rfl,rfl⟩ ⟨rfl,rfl⟩ ((hv.pre P6).mono (Nat.le_refl _) q6) bx ⟨fun r hr=>by simp at hr,.inl ⟨rfl,rfl⟩⟩ (fun _ h=>by simp at h) (List.prefix_refl _) ⟨Nat.le_refl _,Nat.le_refl _⟩ (by omega) ⟨mvOk (by omega) (by omega) (by omega),mvOk (by omega) (by omega) (by omega),mvOk (by omega) (by omega) (by omega)⟩ ⟨by show x.ps.length≤100;omega,by simp⟩ fun L1 w1 H7 p7 n7 z7 b7 l7=>⟨p7,?_⟩
  have l7:L1.length=x.ps.length:=by simpa using l7
  have g1:=pre_get p7 g1
  have g2:=pre_get p7 g2
  ((try simp (maxSteps:=3000000) (dsimp:=false) (disch:=first|omega|simp only[lnx];omega) only[↓ypre,ypost,↓reduceIte,reduceEqDiff,reduceAdd,reduceSub,reduceLeDiff,zz0,ynew,schV,rd1_of g1,rd1_of g2]);try simp only[yback])
  refine s_l02Put (x:=⟨y.p,N',M',K',y.ps⟩) (o:=⟨x.p,(N+N':Nat),M',K',L1⟩) (lo:=H6.length) (h0:=H6) (row:=N) (inner:=0) (col:=0) ⟨rfl,rfl,rfl⟩ ⟨rfl,rfl⟩ ((hu.pre (P6.trans p7)).mono (Nat.le_refl _) q6) by' z7 b7 p7 ⟨Nat.le_refl _,n7⟩ (by omega) ⟨mvOk (by omega) (by omega) (by omega),mvOk (by omega) (by omega) (by omega),mvOk (by omega) (by omega) (by omega)⟩ ⟨by show y.ps.length≤100;omega,by show L1.length≤100;omega⟩ fun L2 w2 H8 p8 n8 z8 b8 l8=>?_
  have l8:L2.length=x.ps.length+y.ps.length:=by rw[←l7];exact l8
  have g3:=pre_get p8 g3
  have i8:=z8.inE (by omega)
  have l3:=get_lt g3
  ((try simp (maxSteps:=3000000) (dsimp:=false) (disch:=first|omega|simp only[lnx];omega) only[↓ypre,ypost,↓reduceIte,reduceEqDiff,reduceAdd,reduceSub,reduceLeDiff,zz0,ynew,schV,z8.one,wr_of g3,splice_eq,rdn_put_same]);try simp only[yback])
  exact hQ L2 w2 _ (pre_put (P6.trans p8) (by omega)) ((i8.putb (by omega)).mono q6 (by rw[len_put];exact Nat.le_refl _)) b8 l8
 ·have ce:(M:Int)+(M':Int)=((M+M':Nat):Int):=by push_cast;rfl
  ((try simp (maxSteps:=3000000) (dsimp:=false) (disch:=first|omega|simp only[lnx];omega) only[↓ypre,ypost,↓reduceIte,reduceEqDiff,reduceAdd,reduceSub,reduceLeDiff,zz0,ynew,show ((1:Nat):Int)=1 from rfl,show decide ((1:Int)=0)=false from rfl,show decide ((1:Int)=1)=true from rfl,rd1_of g1,rd1_of g2,ce,wrap64_in,wr_of hb5,splice_eq,rdn_of g1,rdn_of g2]);try simp only[yback])
  generalize hH6:AH.put H5 _ _=H6
  have g1:=(show H6.get h.length=H5.get h.length by rw[←hH6];exact get_put_ne (by omega)).trans g1
  have g2:=(show H6.get H1.length=H5.get H1.length by rw[←hH6];exact get_put_ne (by omega)).trans g2
  have g3:=(show H6.get H2.length=H5.get H2.length by rw[←hH6];exact get_put_ne (by omega)).trans g3
  have P6:h<+:H6:=by rw[←hH6];exact pre_put P5 (by omega)
  have q6:=pre_len P6
  have n6:H6.length=H5.length:=by rw[←hH6,len_put]
  refine s_l02Put (x:=⟨x.p,N',M,K',x.ps⟩) (o:=⟨x.p,N',(M+M':Nat),K',[]⟩) (lo:=H6.length) (h0:=H6) (row:=0) (inner:=0) (col:=0) ⟨rfl,rfl,rfl⟩ ⟨rfl,rfl⟩ ((hv.pre P6).mono (Nat.le_refl _) q6) bx ⟨fun r hr=>by simp at hr,.inl ⟨rfl,rfl⟩⟩ (fun _ h=>by simp at h) (List.prefix_refl _) ⟨Nat.le_refl _,Nat.le_refl _⟩ (by omega) ⟨mvOk (by omega) (by omega) (by omega),mvOk (by omega) (by omega) (by omega),mvOk (by omega) (by omega) (by omega)⟩ ⟨by show x.ps.length≤100;omega,by simp⟩ fun L1 w1 H7 p7 n7 z7 b7 l7=>⟨p7,?_⟩
  have l7:L1.length=x.ps.length:=by simpa using l7
  have g1:=pre_get p7 g1
  have g2:=pre_get p7 g2
  ((try simp (maxSteps:=3000000) (dsimp:=false) (disch:=first|omega|simp only[lnx];omega) only[↓ypre,ypost,↓reduceIte,reduceEqDiff,reduceAdd,reduceSub,reduceLeDiff,zz0,ynew,schV,rd1_of g1,rd1_of g2]);try simp only[yback])
  refine s_l02Put (x:=⟨y.p,N',M',K',y.ps⟩) (o:=⟨x.p,N',(M+M':Nat),K',L1⟩) (lo:=H6.length) (h0:=H6) (row:=0) (inner:=M) (col:=0) ⟨rfl,rfl,rfl⟩ ⟨rfl,rfl⟩ ((hu.pre (P6.trans p7)).mono (Nat.le_refl _) q6) by' z7 b7 p7 ⟨Nat.le_refl _,n7⟩ (by omega) ⟨mvOk (by omega) (by omega) (by omega),mvOk (by omega) (by omega) (by omega),mvOk (by omega) (by omega) (by omega)⟩ ⟨by show y.ps.length≤100;omega,by show L1.length≤100;omega⟩ fun L2 w2 H8 p8 n8 z8 b8 l8=>?_
  have l8:L2.length=x.ps.length+y.ps.length:=by rw[←l7];exact l8
  have g3:=pre_get p8 g3
  have i8:=z8.inE (by omega)
  have l3:=get_lt g3
  ((try simp (maxSteps:=3000000) (dsimp:=false) (disch:=first|omega|simp only[lnx];omega) only[↓ypre,ypost,↓reduceIte,reduceEqDiff,reduceAdd,reduceSub,reduceLeDiff,zz0,ynew,schV,z8.one,wr_of g3,splice_eq,rdn_put_same]);try simp only[yback])
  exact hQ L2 w2 _ (pre_put (P6.trans p8) (by omega)) ((i8.putb (by omega)).mono q6 (by rw[len_put];exact Nat.le_refl _)) b8 l8
 ·have ce:(K:Int)+(K':Int)=((K+K':Nat):Int):=by push_cast;rfl
  ((try simp (maxSteps:=3000000) (dsimp:=false) (disch:=first|omega|simp only[lnx];omega) only[↓ypre,ypost,↓reduceIte,reduceEqDiff,reduceAdd,reduceSub,reduceLeDiff,zz0,ynew,show ((2:Nat):Int)=2 from rfl,show decide ((2:Int)=0)=false from rfl,show decide ((2:Int)=1)=false from rfl,rd1_of g1,rd1_of g2,ce,wrap64_in,wr_of hb5,splice_eq,rdn_of g1,rdn_of g2]);try simp only[yback])
  generalize hH6:AH.put H5 _ _=H6
  have g1:=(show H6.get h.length=H5.get h.length by rw[←hH6];exact get_put_ne (by omega)).trans g1
  have g2:=(show H6.get H1.length=H5.get H1.length by rw[←hH6];exact get_put_ne (by omega)).trans g2
  have g3:=(show H6.get H2.length=H5.get H2.length by rw[←hH6];exact get_put_ne (by omega)).trans g3
  have P6:h<+:H6:=by rw[←hH6];exact pre_put P5 (by omega)
  have q6:=pre_len P6
  have n6:H6.length=H5.length:=by rw[←hH6,len_put]
  refine s_l02Put (x:=⟨x.p,N',M',K,x.ps⟩) (o:=⟨x.p,N',M',(K+K':Nat),[]⟩) (lo:=H6.length) (h0:=H6) (row:=0) (inner:=0) (col:=0) ⟨rfl,rfl,rfl⟩ ⟨rfl,rfl⟩ ((hv.pre P6).mono (Nat.le_refl _) q6) bx ⟨fun r hr=>by simp at hr,.inl ⟨rfl,rfl⟩⟩ (fun _ h=>by simp at h) (List.prefix_refl _) ⟨Nat.le_refl _,Nat.le_refl _⟩ (by omega) ⟨mvOk (by omega) (by omega) (by omega),mvOk (by omega) (by omega) (by omega),mvOk (by omega) (by omega) (by omega)⟩ ⟨by show x.ps.length≤100;omega,by simp⟩ fun L1 w1 H7 p7 n7 z7 b7 l7=>⟨p7,?_⟩
  have l7:L1.length=x.ps.length:=by simpa using l7
  have g1:=pre_get p7 g1
  have g2:=pre_get p7 g2
  ((try simp (maxSteps:=3000000) (dsimp:=false) (disch:=first|omega|simp only[lnx];omega) only[↓ypre,ypost,↓reduceIte,reduceEqDiff,reduceAdd,reduceSub,reduceLeDiff,zz0,ynew,schV,rd1_of g1,rd1_of g2]);try simp only[yback])
  refine s_l02Put (x:=⟨y.p,N',M',K',y.ps⟩) (o:=⟨x.p,N',M',(K+K':Nat),L1⟩) (lo:=H6.length) (h0:=H6) (row:=0) (inner:=0) (col:=K) ⟨rfl,rfl,rfl⟩ ⟨rfl,rfl⟩ ((hu.pre (P6.trans p7)).mono (Nat.le_refl _) q6) by' z7 b7 p7 ⟨Nat.le_refl _,n7⟩ (by omega) ⟨mvOk (by omega) (by omega) (by omega),mvOk (by omega) (by omega) (by omega),mvOk (by omega) (by omega) (by omega)⟩ ⟨by show y.ps.length≤100;omega,by show L1.length≤100;omega⟩ fun L2 w2 H8 p8 n8 z8 b8 l8=>?_
  have l8:L2.length=x.ps.length+y.ps.length:=by rw[←l7];exact l8
  have g3:=pre_get p8 g3
  have i8:=z8.inE (by omega)
  have l3:=get_lt g3
  ((try simp (maxSteps:=3000000) (dsimp:=false) (disch:=first|omega|simp only[lnx];omega) only[↓ypre,ypost,↓reduceIte,reduceEqDiff,reduceAdd,reduceSub,reduceLeDiff,zz0,ynew,schV,z8.one,wr_of g3,splice_eq,rdn_put_same]);try simp only[yback])
  exact hQ L2 w2 _ (pre_put (P6.trans p8) (by omega)) ((i8.putb (by omega)).mono q6 (by rw[len_put];exact Nat.le_refl _)) b8 l8
abbrev szs (q:List Int):Value:=aggV .i64 q
theorem s_l02Sizes {h:AH} {q:List Int} {k:Nat} {v:Int} {Q:Value→AH→Prop} (hq:q.length=3) (hk:k<3) (hQ:∀ h',h<+:h'→Q (szs (q.set k v)) h'):WF S 332 [szs q,I64 k,I64 v] h Q:=by
 refine WF_fn (fn:=c332) rfl rfl ?_
 dsimp only[c332,oO,oM,oS,oG,oK,oE,oL,oF,oX,oN]
 ((try simp (maxSteps:=3000000) (dsimp:=false) (disch:=first|omega|simp only[lnx];omega) only[↓ypre,ypost,↓reduceIte,reduceEqDiff,reduceAdd,reduceSub,reduceLeDiff,zz0,ynew,aggV,cellsL_cel,cel_all]);try simp only[yback])
 generalize hH1:AH.new h _=H1
 obtain⟨hb1,p1,n1⟩:=new_facts hH1
 generalize hH2:AH.new H1 _=H2
 obtain⟨hb2,p2,n2⟩:=new_facts hH2
 have g1:=pre_get p2 hb1
 have st:=cel_set (k:=.i64) (q:=q) (j:=k) (x:=v) (by omega)
 have l3:(q.set k v).length=3:=by rw[List.length_set];exact hq
 have t3:(cel .i64 (q.set k v)).take 3=cel .i64 (q.set k v):=List.take_of_length_le (by rw[cel_len,l3];exact Nat.le_refl _)
 have lt1:=get_lt g1
 have lt2:=get_lt hb2
 have g2:=fun e:TypeId=>(get_put_ne (h:=H2) (b:=⟨cel .i64 (q.set k v),e,false,true⟩) (show h.length≠H1.length by omega)).trans hb2
 have w3:=fun e:TypeId=>wr_full (vs:=cel .i64 (q.set k v)) (g2 e) (by rw[cel_len,l3];rfl)
 have ix:ixaV 3 1 (.pointer (some ⟨h.length,0,none⟩)) (I64 k)=_:=ixaV_ptr ⟨by omega,by omega⟩
 ((try simp (maxSteps:=3000000) (dsimp:=false) (disch:=first|omega|simp only[lnx];omega) only[↓ypre,ypost,↓reduceIte,reduceEqDiff,reduceAdd,reduceSub,reduceLeDiff,zz0,ynew,↓WX_ixa,ix,Int.toNat_natCast,Nat.mul_one,wr_of g1,st,cel_len,hq,rdn_put_same,l3,t3,cel_all,w3]);try simp only[yback])
 refine⟨by omega,?_⟩
 exact hQ _ (pre_put (pre_put (p1.trans p2) (Nat.le_refl _)) (by omega))
def S3 (q:List Int):Prop:=q.length=3∧∀ k,k<3→1≤q.getD k 0∧q.getD k 0≤3
def tabN:List Int:=[1,2,3,2,4,6,3,6,9,2,4,6,4,7,11,6,11,17,3,6,9,6,11,17,9,17,26]
def nm (q:List Int):Int:=tabN.getD ((q.getD 0 0-1)*9+(q.getD 1 0-1)*3+(q.getD 2 0-1)).toNat 0
def cutF (q:List Int) (k:Nat):Nat→Int→Int
 | 0,m=>m
 | j+1,m=>min (cutF q k j m) (nm (q.set k ((j:Int)+1))+nm (q.set k (q.getD k 0-((j:Int)+1))))
def kF (q:List Int):Nat→Int
 | 0=>100
 | k+1=>cutF q k (q.getD k 0-1).toNat (kF q k)
def all27:List (List Int):=[1,2,3].flatMap fun a=>[1,2,3].flatMap fun b=>[1,2,3].map fun c=>[a,b,c]
theorem S3.mem {q:List Int} (s:S3 q):q∈all27:=by
 obtain⟨h1,h2⟩:=s
 obtain⟨a,b,c,rfl⟩:∃ a b c,q=[a,b,c]:=by
  match q,h1 with
  | [a,b,c],_=>exact⟨a,b,c,rfl⟩
 have ha:=h2 0 (by omega)
 have hb:=h2 1 (by omega)
 have hc:=h2 2 (by omega)
 simp only[List.getD_cons_zero,List.getD_cons_succ] at ha hb hc
 have ea:a=1∨a=2∨a=3:=by omega
 have eb:b=1∨b=2∨b=3:=by omega
 have ec:c=1∨c=2∨c=3:=by omega
 rcases ea with rfl|rfl|rfl<;>rcases eb with rfl|rfl|rfl<;>rcases ec with rfl|rfl|rfl<;>decide
theorem S3.set {q:List Int} {k:Nat} {v:Int} (s:S3 q) (hk:k<3) (hv:1≤v∧v≤3):S3 (q.set k v):=by
 refine⟨by rw[List.length_set];exact s.1,fun j hj=>?_⟩
 rw[set_getD (by rw[s.1];exact hk)]
 split
 ·exact hv
 ·exact s.2 j hj
theorem nm_kF:∀ q∈all27,q≠[1,1,1]→q≠[2,2,2]→kF q 3=nm q:=by decide
theorem nm_bd:∀ q∈all27,1≤nm q∧nm q≤26:=by decide
theorem nm_split:∀ q∈all27,q≠[1,1,1]→q≠[2,2,2]→∃ k∈([0,1,2]:List Nat),∃ j∈([0,1]:List Nat),(j:Int)+1<q.getD k 0∧nm (q.set k ((j:Int)+1))+nm (q.set k (q.getD k 0-((j:Int)+1)))=nm q:=by decide
def sm3 (q:List Int):Int:=q.getD 0 0+q.getD 1 0+q.getD 2 0
theorem sm3_set {q:List Int} {k:Nat} {v:Int} (s:S3 q) (hk:k<3) (hv:v<q.getD k 0):sm3 (q.set k v)<sm3 q:=by
 have e:∀ j,(q.set k v).getD j 0=if j=k then v else q.getD j 0:=fun j=>set_getD (by rw[s.1];exact hk)
 unfold sm3
 rw[e,e,e]
 have:k=0∨k=1∨k=2:=by omega
 rcases this with rfl|rfl|rfl<;>(repeat' split)<;>omega
theorem eqa_q {q:List Int} {a b c:Int} (hq:q.length=3):eqaV false 3 (.agg (cel .i64 q).toArray) (.agg #[.int .i64 a,.int .i64 b,.int .i64 c])=some (.bool (decide (q=[a,b,c]))):=by
 match q,hq with
 | [x,y,z],_=>
  show eqaV false 3 (.agg #[.int .i64 x,.int .i64 y,.int .i64 z]) _=_
  rw[eqa3]
  simp
theorem s_l02Number:∀ (n:Nat) {q:List Int} {h:AH} {Q:Value→AH→Prop},S3 q→sm3 q≤n→(∀ h',h<+:h'→Q (I64 (nm q)) h')→WF S 331 [szs q] h Q
 | 0,q,h,Q,s,hs,_=>by
  exfalso
  have h0:=s.2 0 (by omega)
  have h1:=s.2 1 (by omega)
  have h2:=s.2 2 (by omega)
  unfold sm3 at hs
  omega
 | n+1,q,h,Q,s,hs,hQ=>by
  have q3:=s.1
  have t3:(cel .i64 q).take 3=cel .i64 q:=List.take_of_length_le (by rw[cel_len,q3];exact Nat.le_refl _)
  refine WF_fn (fn:=c331) rfl rfl ?_
  dsimp only[c331,oO,oM,oS,oG,oK,oE,oL,oF,oX,oN]
  ((try simp (maxSteps:=3000000) (dsimp:=false) (disch:=first|omega|simp only[lnx];omega) only[↓ypre,ypost,↓reduceIte,reduceEqDiff,reduceAdd,reduceSub,reduceLeDiff,zz0,ynew,aggV,cellsL_cel,cel_all]);try simp only[yback])
  generalize hH1:AH.new h _=H1
  obtain⟨hb1,p1,n1⟩:=new_facts hH1
  by_cases e1:q=[1,1,1]
  ·((try simp (maxSteps:=3000000) (dsimp:=false) (disch:=first|omega|simp only[lnx];omega) only[↓ypre,ypost,↓reduceIte,reduceEqDiff,reduceAdd,reduceSub,reduceLeDiff,zz0,ynew,rdn_of hb1,cel_len,q3,t3,fillL,eqa_q q3,decide_eq_true e1]);try simp only[yback])
   rw[e1] at hQ
   exact hQ _ p1
  by_cases e2:q=[2,2,2]
  ·((try simp (maxSteps:=3000000) (dsimp:=false) (disch:=first|omega|simp only[lnx];omega) only[↓ypre,ypost,↓reduceIte,reduceEqDiff,reduceAdd,reduceSub,reduceLeDiff,zz0,ynew,rdn_of hb1,cel_len,q3,t3,fillL,eqa_q q3,decide_eq_false e1,decide_eq_true e2]);try simp only[yback])
   rw[e2] at hQ
   exact hQ _ p1
  ((try simp (maxSteps:=3000000) (dsimp:=false) (disch:=first|omega|simp only[lnx];omega) only[↓ypre,ypost,↓reduceIte,reduceEqDiff,reduceAdd,reduceSub,reduceLeDiff,zz0,ynew,rdn_of hb1,cel_len,q3,t3,fillL,eqa_q q3,decide_eq_false e1,decide_eq_false e2]);try simp only[yback])
  refine WC_loop_inv (fun m f K1=>∃ (k:Nat),m=3-k∧k≤3∧f 1=.pointer (some ⟨h.length,0,none⟩)∧f 3=I64 (kF q k)∧f 4=I64 k∧(H1<+:K1)) ?_ (3-0) _ _ ⟨0,rfl,by omega,(by first|rfl|simp[upd_apply]),(by first|rfl|simp[upd_apply]),(by first|rfl|simp[upd_apply]),List.prefix_refl _⟩
  rintro m f K1 ⟨k,rfl,hk,f1,f3,f4,pp⟩
  by_cases hk:(k:Int)<3
  ·have bk:=s.2 k (by omega)
   ((try simp (maxSteps:=3000000) (dsimp:=false) (disch:=first|omega|simp only[lnx];omega) only[↓ypre,ypost,↓reduceIte,reduceEqDiff,reduceAdd,reduceSub,reduceLeDiff,zz0,ynew,f1,f3,f4,decide_eq_true hk]);try simp only[yback])
   refine WC_loop_inv (fun m f K2=>∃ (j:Nat),m=((q.getD k 0-1).toNat)-j∧j≤((q.getD k 0-1).toNat)∧f 1=.pointer (some ⟨h.length,0,none⟩)∧f 3=I64 (cutF q k j (kF q k))∧f 4=I64 k∧f 5=I64 ((j:Int)+1)∧(H1<+:K2)) ?_ (((q.getD k 0-1).toNat)-0) _ _ ⟨0,rfl,by omega,(by first|rfl|exact f1|(simp[upd_apply];done)),(by first|rfl|exact f3|(simp[upd_apply];done)),(by first|rfl|exact f4|(simp[upd_apply];done)),(by first|rfl|simp[upd_apply]),pp⟩
   rintro m f K2 ⟨j,rfl,hj,f1,f3,f4,f5,pp⟩
   have g:=pre_get pp hb1
   have ix:ixaV 3 1 (.pointer (some ⟨h.length,0,none⟩)) (I64 k)=_:=ixaV_ptr ⟨by omega,by omega⟩
   have cg:=cel_get (k:=.i64) (q:=q) (j:=k) (by omega)
   by_cases hj:(j:Int)+1<q.getD k 0
   ·((try simp (maxSteps:=3000000) (dsimp:=false) (disch:=first|omega|simp only[lnx];omega) only[↓ypre,ypost,↓reduceIte,reduceEqDiff,reduceAdd,reduceSub,reduceLeDiff,zz0,ynew,f1,f3,f4,f5,↓WX_ixa,ix,Int.toNat_natCast,Nat.mul_one,rd1_of g,cg,decide_eq_true hj,rdn_of g,cel_len,q3,t3]);try simp only[yback])
    have sA:=s.set (k:=k) (v:=(j:Int)+1) (by omega) (by omega)
    have sB:=s.set (k:=k) (v:=q.getD k 0-((j:Int)+1)) (by omega) (by omega)
    have dA:=sm3_set (k:=k) (v:=(j:Int)+1) s (by omega) hj
    have dB:=sm3_set (k:=k) (v:=q.getD k 0-((j:Int)+1)) s (by omega) (by omega)
    have nA:=nm_bd _ sA.mem
    have nB:=nm_bd _ sB.mem
    refine s_l02Sizes q3 (by omega) fun H3 p3=>⟨p3,?_⟩
    ((try simp (maxSteps:=3000000) (dsimp:=false) (disch:=first|omega|simp only[lnx];omega) only[↓ypre,ypost,↓reduceIte,reduceEqDiff,reduceAdd,reduceSub,reduceLeDiff,zz0,ynew,f1,f3,f4,f5]);try simp only[yback])
    refine s_l02Number n sA (by omega) fun H4 p4=>⟨p4,?_⟩
    have g:=pre_get (p3.trans p4) g
    ((try simp (maxSteps:=3000000) (dsimp:=false) (disch:=first|omega|simp only[lnx];omega) only[↓ypre,ypost,↓reduceIte,reduceEqDiff,reduceAdd,reduceSub,reduceLeDiff,zz0,ynew,f1,f3,f4,f5,↓WX_ixa,ix,Int.toNat_natCast,Nat.mul_one,rd1_of g,cg,rdn_of g,cel_len,q3,t3,wrap64_in]);try simp only[yback])
    refine s_l02Sizes q3 (by omega) fun H5 p5=>?_
    ((try simp (maxSteps:=3000000) (dsimp:=false) (disch:=first|omega|simp only[lnx];omega) only[↓ypre,ypost,↓reduceIte,reduceEqDiff,reduceAdd,reduceSub,reduceLeDiff,zz0,ynew,f1,f3,f4,f5]);try simp only[yback])
    refine s_l02Number n sB (by omega) fun H6 p6=>?_
    ((try simp (maxSteps:=3000000) (dsimp:=false) (disch:=first|omega|simp only[lnx];omega) only[↓ypre,ypost,↓reduceIte,reduceEqDiff,reduceAdd,reduceSub,reduceLeDiff,zz0,ynew,f1,f3,f4,f5,wrap64_in,WX_mm,mmF]);try simp only[yback])
    refine InvQ_go (((q.getD k 0-1).toNat)-(j+1)) (by omega) ⟨(j+1),rfl,by omega,(by first|rfl|exact f1|(simp only[upd_apply];rfl)|(show I64 _=_;congr 1;omega)),(by first|rfl|exact f3|(simp only[upd_apply];rfl)|(show I64 _=_;congr 1;omega)),(by first|rfl|exact f4|(simp only[upd_apply];rfl)|(show I64 _=_;congr 1;omega)),(by first|rfl|exact f5|(simp only[upd_apply];rfl)|(show I64 _=_;congr 1;omega)),(pp.trans (p3.trans (p4.trans (p5.trans p6))))⟩
   ·have ej:j=(q.getD k 0-1).toNat:=by omega
    subst ej
    ((try simp (maxSteps:=3000000) (dsimp:=false) (disch:=first|omega|simp only[lnx];omega) only[↓ypre,ypost,↓reduceIte,reduceEqDiff,reduceAdd,reduceSub,reduceLeDiff,zz0,ynew,f1,f3,f4,f5,↓WX_ixa,ix,Int.toNat_natCast,Nat.mul_one,rd1_of g,cg,decide_eq_false hj,wrap64_in]);try simp only[yback])
    refine InvQ_go (3-(k+1)) (by omega) ⟨(k+1),rfl,by omega,(by first|rfl|exact f1|(simp only[upd_apply];rfl)|(show I64 _=_;congr 1;omega)),(by first|rfl|exact f3|(simp only[upd_apply];rfl)|(show I64 _=_;congr 1;omega)),(by first|rfl|exact f4|(simp only[upd_apply];rfl)|(show I64 _=_;congr 1;omega)),pp⟩
  ·have ek:k=3:=by omega
   subst ek
   ((try simp (maxSteps:=3000000) (dsimp:=false) (disch:=first|omega|simp only[lnx];omega) only[↓ypre,ypost,↓reduceIte,reduceEqDiff,reduceAdd,reduceSub,reduceLeDiff,zz0,ynew,f1,f3,f4,decide_eq_false hk,nm_kF q s.mem e1 e2]);try simp only[yback])
   exact hQ _ (p1.trans pp)
end Go.Proofs.Ytapafdpnmakekaa.X
