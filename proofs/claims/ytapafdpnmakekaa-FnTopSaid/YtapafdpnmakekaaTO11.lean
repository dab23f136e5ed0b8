/- Texts of one claim, put together by merge.py: XDG, XDI, XDJ, XDK, XZ1, XZ2, XZ3, XZ4, XZ5, XZ6, XDL, XDM, XP7, XU2, XU3, XU4, XU5, XW1, XV1, XM2, XM3, XM5, XP9, XM6, XDN, XDD, XDO, XZ7, XV2, XZ8, XB1, XB2. -/
import Derived.Test.YtapafdpnmakekaaTO10
import Derived.Test.YtapafdpnmakekaaTO8
import Derived.Test.YtapafdpnmakekaaTO9
set_option linter.unusedVariables false
set_option linter.unusedSimpArgs false
set_option maxRecDepth 20000
set_option maxHeartbeats 4000000
namespace Go.Proofs.Ytapafdpnmakekaa.X
open Go Go.RowKit
theorem getq {l:List Value} {i:Nat} (hi:i<l.length):l[i]?=some (l.getD i undef):=by
 rw[List.getD_eq_getElem?_getD,List.getElem?_eq_getElem hi]
 rfl
theorem cellsL_sl {b n:Nat}:cellsL (sl b n)=[sl b n]:=rfl
theorem isOne_sl {b n:Nat}:isOne (sl b n)=true:=rfl
structure RowD (lo:Nat) (H:AH) (kb:Nat) (fu:Bool) (rows:List (List Int)) (B:Nat→Nat) (cs:List Value):Prop where
 get:H.get kb=some ⟨cs,27,false,fu⟩
 len:cs.length=rows.length
 low:lo≤kb
 row:∀ i,i<rows.length→lo≤B i∧cs.getD i undef=sl (B i) (rows.getD i []).length∧(∃ f,Lst H (B i) (rows.getD i []) f)∧B i≠kb
 inc:∀ i j,i<j→j<rows.length→B i<B j
theorem RowD.rows {lo kb:Nat} {H:AH} {fu:Bool} {rows:List (List Int)} {B:Nat→Nat} {cs:List Value} (r:RowD lo H kb fu rows B cs):Rows H (sl kb rows.length) rows:=by
 refine⟨cs,.inr ⟨kb,0,_,by rw[r.len];rfl,r.get,by simp,fun i hi=>?_⟩,r.len,fun i hi=>?_⟩
 ·show cs[0+i]?=_
  rw[Nat.zero_add]
  exact getq hi
 ·obtain⟨h1,h2,⟨f,h3⟩,h4⟩:=r.row i hi
  rw[h2]
  exact h3.ints
theorem getD_snocD {α:Type} {l:List α} {x d:α} {j:Nat}:(l++[x]).getD j d=if j<l.length then l.getD j d else if j=l.length then x else d:=by
 rw[List.getD_eq_getElem?_getD,List.getD_eq_getElem?_getD]
 by_cases h:j<l.length
 ·rw[List.getElem?_append_left h,if_pos h]
 ·rw[List.getElem?_append_right (by omega),if_neg h]
  split
  ·rename_i e
   simp[e]
  ·rw[List.getElem?_eq_none (by simp;omega)]
   rfl
theorem rowd_app {lo kb b:Nat} {H:AH} {fu f ro fz:Bool} {e':TypeId} {rows:List (List Int)} {l:List Int} {B:Nat→Nat} {cs:List Value} (r:RowD lo H kb fu rows B cs) (hl:rows.length≤1000) (hb:lo≤b) (hkb:b≠kb)
  (hB:∀ i,i<rows.length→B i<b) (hx:Lst H b l f) {Q:Value→AH→Prop}
  (hQ:∀ H':AH,H'.length=H.length+2→Kp kb H H'→RowD lo H' (H.length+1) false (rows++[l]) (fun i=>if i<rows.length then B i else b) (cs++[sl b l.length])→Q (sl (H.length+1) (rows++[l]).length) H') :
  OQ (appV 27 1 24 (sl kb rows.length) (.slice (some ⟨H.length,0,none⟩) 1 1) (H.new ⟨[sl b l.length],e',ro,fz⟩)) Q:=by
 have hn:(H.new ⟨[sl b l.length],e',ro,fz⟩).rdn H.length 0 1=some [sl b l.length]:=by rw[rdn_new_same];rfl
 have hk:(H.new ⟨[sl b l.length],e',ro,fz⟩).get kb=some ⟨cs,27,false,fu⟩:=get_new_any r.get
 have hkl:=get_lt r.get
 have hbl:=get_lt hx
 unfold sl
 unfold sl at hn hk
 rw[app_ownW (n:=rows.length) hk (by rw[r.len,Nat.mul_one]) hn (by omega),OQ_some,len_new]
 have kk:Kp kb H (((H.new ⟨[sl b l.length],e',ro,fz⟩).kill kb).new ⟨cs++[sl b l.length],27,false,false⟩):=⟨by rw[len_new,len_kill,len_new];omega,fun j hj hne=>by
   rw[show (((H.new ⟨[sl b l.length],e',ro,fz⟩).kill kb).new ⟨cs++[sl b l.length],27,false,false⟩).get j=((H.new ⟨[sl b l.length],e',ro,fz⟩).kill kb).get j from prefix_get (pre_new (List.prefix_refl _)) (by rw[len_kill,len_new];omega),get_kill_ne (Ne.symm hne)]
   exact prefix_get (pre_new (List.prefix_refl _)) hj⟩
 have:=hQ _ (by rw[len_new,len_kill,len_new]) kk ⟨get_new_eq (by rw[len_kill,len_new]),by simp[r.len],by have:=r.low;omega,fun i hi=>?_,fun i j hij hj=>?_⟩
 ·unfold sl at this
  rw[List.length_append,List.length_singleton] at this
  exact this
 ·by_cases h:i<rows.length
  ·obtain⟨h1,h2,⟨g,h3⟩,h4⟩:=r.row i h
   have lb:=get_lt h3
   simp only[if_pos h]
   refine⟨h1,?_,⟨g,?_⟩,by omega⟩
   ·rw[getD_snocD,if_pos (by rw[r.len];exact h),h2,getD_snocD,if_pos h]
   ·rw[getD_snocD,if_pos h]
    exact kk.get h4 h3
  ·have e:i=rows.length:=by simp at hi;omega
   subst e
   simp only[if_neg h]
   refine⟨hb,?_,⟨f,?_⟩,by omega⟩
   ·rw[getD_snocD,if_neg (by rw[r.len];omega),if_pos r.len.symm,getD_snocD,if_neg (by omega),if_pos rfl]
   ·rw[getD_snocD,if_neg (by omega),if_pos rfl]
    exact kk.get hkb hx
 ·simp only[List.length_append,List.length_singleton] at hj
  by_cases h:j<rows.length
  ·simp only[if_pos h,if_pos (show i<rows.length by omega)]
   exact r.inc i j hij h
  ·simp only[if_neg h,if_pos (show i<rows.length by omega)]
   exact hB i (by omega)
end Go.Proofs.Ytapafdpnmakekaa.X

set_option linter.unusedVariables false
set_option linter.unusedSimpArgs false
set_option maxRecDepth 20000
set_option maxHeartbeats 4000000
namespace Go.Proofs.Ytapafdpnmakekaa.X
open Go Go.RowKit
open Nat (reduceEqDiff reduceAdd reduceSub reduceLeDiff)
theorem takeD {L:List (List Int)} {m:Nat} (h:m<L.length):L.take (m+1)=L.take m++[L.getD m []]:=by
 rw[List.take_add_one,List.getElem?_eq_getElem h,List.getD_eq_getElem?_getD,List.getElem?_eq_getElem h]
 rfl
theorem Els.rdAll {k:IntKind} {w:Nat} {h:AH} {v:Value} {L:List (List Int)} (e:Els k w h v L) (hl:0<L.length) :
  ∃ b off,v=.slice (some ⟨b,off,none⟩) L.length w∧h.rdn b off (L.length*w)=some (cel k L.flatten):=by
 rcases e with⟨rfl,-⟩|⟨b,off,blk,h1,h2,h3⟩
 ·simp at hl
 refine⟨b,off,h1,?_⟩
 have key:∀ m,m≤L.length→off+m*w≤blk.c.length∨m=0∧True→(blk.c.drop off).take (m*w)=cel k (L.take m).flatten:=by
  intro m hm _
  induction m with
  | zero=>simp[cel]
  | succ m ih=>
   obtain⟨g1,g2⟩:=h3 m (by omega)
   rw[Nat.succ_mul,List.take_add,ih (by omega) (by left;omega),takeD (by omega),List.flatten_append,List.drop_drop,g2]
   simp[cel]
 have hb:=(h3 (L.length-1) (by omega)).1
 have hb':off+L.length*w≤blk.c.length:=by
  have:L.length*w=(L.length-1)*w+w:=by
   rw[←Nat.succ_mul]
   congr 1
   omega
  omega
 rw[rdn_of h2,if_pos hb',key _ (Nat.le_refl _) (Or.inl hb'),List.take_length]
theorem set_flat {w:Nat} {q:List Int} (hq:q.length=w):∀ {L:List (List Int)} {j:Nat},Wid w L→j<L.length→L.flatten.take (j*w)++q++L.flatten.drop (j*w+w)=(L.set j q).flatten
 | [],j,_,h=>by simp at h
 | r::L,0,hw,_=>by
  have:=hw r (by simp)
  simp[←this]
 | r::L,j+1,hw,h=>by
  have hr:=hw r (by simp)
  have ih:=set_flat hq (L:=L) (j:=j) (fun x hx=>hw x (by simp[hx])) (by simpa using h)
  rw[List.set_cons_succ,List.flatten_cons,List.flatten_cons,←ih,Nat.succ_mul]
  rw[List.take_append,List.drop_append,List.take_of_length_le (by omega),List.drop_eq_nil_of_le (by omega),List.nil_append,
   show j*w+w-r.length=j*w by omega,show j*w+w+w-r.length=j*w+w by omega]
  simp only[List.append_assoc]
theorem splice_flat {k:IntKind} {w:Nat} {q:List Int} {L:List (List Int)} {j:Nat} (hq:q.length=w) (hw:Wid w L) (hj:j<L.length):splice (cel k L.flatten) (j*w) (cel k q)=cel k (L.set j q).flatten:=by
 rw[splice_eq,←set_flat hq hw hj]
 simp only[cel,List.map_append,List.map_take,List.map_drop,List.length_map,hq]
structure SchB (x:Sch):Prop where
 p:-1000≤x.p∧x.p≤1000
 n:-1000≤x.n∧x.n≤1000
 m:-1000≤x.m∧x.m≤1000
 k:-1000≤x.k∧x.k≤1000
 l:SmallX x.ps
theorem copy_zero {k:IntKind} {w bytes:Nat} {e:TypeId} {H:AH} {v:Value} {L:List (List Int)} (he:Els k w H v L) (hl:0<L.length) (hs:(L.length:Int)*bytes≤140737488355328∧(L.length:Int)≤9223372036854775807) {Q:Value→AH→Prop}
  (hQ:∀ H':AH,H'.length=H.length+2→H<+:H'→H'.get (H.length+1)=some ⟨cel k L.flatten,e,false,false⟩→Q (.slice (some ⟨H.length+1,0,none⟩) L.length w) H') :
  OQ (appV e w bytes (.slice (some ⟨H.length,0,none⟩) 0 w) v (H.new ⟨[],e,false,true⟩)) Q:=by
 obtain⟨b,off,rfl,hrd⟩:=(he.pre (pre_new (List.prefix_refl _):H<+:H.new ⟨[],e,false,true⟩)).rdAll hl
 rw[app_zeroW (k:=H.length) get_new_same hrd hl hs,OQ_some,len_new]
 have p:H<+:((H.new ⟨[],e,false,true⟩).kill H.length).new ⟨cel k L.flatten,e,false,false⟩:=pre_new (pre_kill (pre_new (List.prefix_refl _)) (Nat.le_refl _))
 exact hQ _ (by rw[len_new,len_kill,len_new]) p (get_new_eq (by rw[len_kill,len_new]))
theorem byt_set {L:List (List Int)} {a e j0:Nat} {d:Int} (b:Byt 27 L) (ha:a<L.length) (he:e<L.length) (hd:0≤d∧d≤255):Byt 27 (L.set e ((L.getD a []).set j0 d)):=by
 intro i hi j hj
 rw[List.length_set] at hi
 by_cases hie:i=e
 ·subst hie
  rw[List.getD_eq_getElem?_getD (l:=L.set i _),List.getElem?_set_self hi,Option.getD_some]
  by_cases hjj:j0=j
  ·subst hjj
   by_cases hl:j0<(L.getD a []).length
   ·rw[List.getD_eq_getElem?_getD,List.getElem?_set_self hl,Option.getD_some]
    exact hd
   ·rw[List.getD_eq_getElem?_getD,List.getElem?_eq_none (by rw[List.length_set];omega),Option.getD_none]
    omega
  ·rw[List.getD_eq_getElem?_getD,List.getElem?_set_ne hjj,←List.getD_eq_getElem?_getD]
   exact b a ha j hj
 ·rw[List.getD_eq_getElem?_getD (l:=L.set e _),List.getElem?_set_ne (Ne.symm hie),←List.getD_eq_getElem?_getD]
  exact b i hi j hj
theorem wid_set {w e:Nat} {L:List (List Int)} {q:List Int} (hw:Wid w L) (hq:q.length=w):Wid w (L.set e q):=by
 intro r hr
 rcases List.mem_or_eq_of_mem_set hr with h|h
 ·exact hw r h
 ·rw[h];exact hq
theorem s_l01Bad {h0 h:AH} {n lo:Nat} {v:Value} {x:Sch} {Q:Value→AH→Prop} (s:Src h0 h n) (xb:SchB x) (hlo:n<lo∧lo≤h.length) (hv:SchD lo h v x) (h9:-100≤x.k∧x.k≤100) (nk:NK v)
  (hQ:∀ (x':Sch) (v':Value) (h':AH),Kp n h h'→Src h0 h' n→SchD lo h' v' x'→SchB x'→NK v'→Q (schV x' v') h'):WF S 269 [srcP n,schV x v] h Q:=by
 refine WF_fn (fn:=c269) rfl rfl ?_
 dsimp only[c269,oO,oM,oS,oG,oK,oE,oL,oF,oX,oN]
 have lt:=s.lt
 have l0:=pre_len s.p
 have v1:isOne v=true:=hv.now.one
 obtain⟨b1,b2,b3,b4,b5⟩:=xb
 ((try simp (maxSteps:=3000000) (dsimp:=false) (disch:=first|omega|simp only[lnx];omega) only[↓ypre,ypost,↓reduceIte,reduceEqDiff,reduceAdd,reduceSub,reduceLeDiff,zz0,ynew,schV,v1]);try simp only[yback])
 generalize hH1:AH.new h _=H1
 obtain⟨hb1,p1,n1⟩:=new_facts hH1
 generalize hH2:AH.new H1 _=H2
 obtain⟨hb2,p2,n2⟩:=new_facts hH2
 have old:∀ (x':Sch) (h':AH) (B B':Blk),x'.ps=x.ps→Kp n h h'→Src h0 h' n→SchB x'→Q (schV x' v) ((h'.put H1.length B).put h.length B'):=fun x' h' B B' e kk ss tb=>by
  have kf:Kp n h ((h'.put H1.length B).put h.length B'):=(kk.putb (m:=H1.length) (by omega)).putb (m:=h.length) (by omega)
  exact hQ x' v _ kf ((ss.putb (by omega) (by omega)).putb (by omega) (by omega)) (fun h2 k2 k3=>by rw[e];exact hv.kp kf hlo.1 h2 k2 k3) tb nk
 refine s_l01Next (s.kp (p1.trans p2)) fun r H3 k3 l3 s3 hr _=>?_
 have g1:=k3.get (by omega) (pre_get p2 hb1)
 have g2:=k3.get (by omega) hb2
 have kk3:Kp n h H3:=(Kp.of (p1.trans p2)).trans k3
 by_cases r0:r=0
 ·((try simp (maxSteps:=3000000) (dsimp:=false) (disch:=first|omega|simp only[lnx];omega) only[↓ypre,ypost,↓reduceIte,reduceEqDiff,reduceAdd,reduceSub,reduceLeDiff,zz0,ynew,decide_eq_true r0,fillL,zrep]);try simp only[yback])
  generalize hH4:AH.new H3 _=H4
  obtain⟨hb4,p4,n4⟩:=new_facts hH4
  have kv:=kp_new (n:=n) (ns:=[0,4,7,3]) hH4 (by omega)
  refine s_l01Pick (s3.kp p4) kv (by simp) (by simp) fun j H5 k5 l5 s5 hj=>?_
  have bp:=pick_in (l:=[0,4,7,3]) (a:=0) (b:=7) (by simp) hj
  generalize ([0,4,7,3]:List Int).getD j 0=p at bp
  have g1:=k5.get (by omega) (pre_get p4 g1)
  have g2:=k5.get (by omega) (pre_get p4 g2)
  have lg1:=get_lt g1
  have lg2:=get_lt g2
  ((try simp (maxSteps:=3000000) (dsimp:=false) (disch:=first|omega|simp only[lnx];omega) only[↓ypre,ypost,↓reduceIte,reduceEqDiff,reduceAdd,reduceSub,reduceLeDiff,zz0,ynew,wr_of g1,v1,wr_of g2,splice_eq,rdn_put_same]);try simp only[yback])
  exact old ⟨p,x.n,x.m,x.k,x.ps⟩ H5 _ _ rfl (kk3.trans ((Kp.of p4).trans k5)) s5 ⟨by show -1000≤p∧p≤1000;omega,b2,b3,b4,b5⟩
 by_cases r1:r=1
 ·((try simp (maxSteps:=3000000) (dsimp:=false) (disch:=first|omega|simp only[lnx];omega) only[↓ypre,ypost,↓reduceIte,reduceEqDiff,reduceAdd,reduceSub,reduceLeDiff,zz0,ynew,decide_eq_false r0,decide_eq_true r1,fillL,zrep]);try simp only[yback])
  generalize hH4:AH.new H3 _=H4
  obtain⟨hb4,p4,n4⟩:=new_facts hH4
  have kv:=kp_new (n:=n) (ns:=[0,4,-1]) hH4 (by omega)
  refine s_l01Pick (s3.kp p4) kv (by simp) (by simp) fun j H5 k5 l5 s5 hj=>?_
  have bp:=pick_in (l:=[0,4,-1]) (a:=-1) (b:=4) (by simp) hj
  generalize ([0,4,-1]:List Int).getD j 0=p at bp
  have g1:=k5.get (by omega) (pre_get p4 g1)
  have g2:=k5.get (by omega) (pre_get p4 g2)
  have lg1:=get_lt g1
  have lg2:=get_lt g2
  ((try simp (maxSteps:=3000000) (dsimp:=false) (disch:=first|omega|simp only[lnx];omega) only[↓ypre,ypost,↓reduceIte,reduceEqDiff,reduceAdd,reduceSub,reduceLeDiff,zz0,ynew,wr_of g1,v1,wr_of g2,splice_eq,rdn_put_same]);try simp only[yback])
  exact old ⟨x.p,p,x.m,x.k,x.ps⟩ H5 _ _ rfl (kk3.trans ((Kp.of p4).trans k5)) s5 ⟨b1,by show -1000≤p∧p≤1000;omega,b3,b4,b5⟩
 by_cases r2:r=2
 ·((try simp (maxSteps:=3000000) (dsimp:=false) (disch:=first|omega|simp only[lnx];omega) only[↓ypre,ypost,↓reduceIte,reduceEqDiff,reduceAdd,reduceSub,reduceLeDiff,zz0,ynew,decide_eq_false r0,decide_eq_false r1,decide_eq_true r2,rd1_of g1,wrap64_in,fillL,zrep]);try simp only[yback])
  generalize hH4:AH.new H3 _=H4
  obtain⟨hb4,p4,n4⟩:=new_facts hH4
  have kv:=kp_new (n:=n) (ns:=[0,4,x.k-1]) hH4 (by omega)
  refine s_l01Pick (s3.kp p4) kv (by simp) (by simp) fun j H5 k5 l5 s5 hj=>?_
  have bp:=pick_in (l:=[0,4,x.k-1]) (a:=-1000) (b:=1000) (by simp;omega) hj
  generalize ([0,4,x.k-1]:List Int).getD j 0=p at bp
  have g1:=k5.get (by omega) (pre_get p4 g1)
  have g2:=k5.get (by omega) (pre_get p4 g2)
  have lg1:=get_lt g1
  have lg2:=get_lt g2
  ((try simp (maxSteps:=3000000) (dsimp:=false) (disch:=first|omega|simp only[lnx];omega) only[↓ypre,ypost,↓reduceIte,reduceEqDiff,reduceAdd,reduceSub,reduceLeDiff,zz0,ynew,wr_of g1,v1,wr_of g2,splice_eq,rdn_put_same]);try simp only[yback])
  exact old ⟨x.p,x.n,x.m,p,x.ps⟩ H5 _ _ rfl (kk3.trans ((Kp.of p4).trans k5)) s5 ⟨b1,b2,b3,bp,b5⟩
 have lg1:=get_lt g1
 have lg2:=get_lt g2
 have e3:=(hv.kp kk3 hlo.1).now
 have hl:=e3.1.len
 have kf:Kp n h (H3.put H1.length ⟨[I64 x.p,I64 x.n,I64 x.m,I64 x.k,v],26,false,true⟩):=kk3.putb (m:=H1.length) (by omega)
 have done:Q (schV x v) (H3.put H1.length ⟨[I64 x.p,I64 x.n,I64 x.m,I64 x.k,v],26,false,true⟩):=hQ x v _ kf (s3.putb (by omega) (by omega)) (hv.kp kf hlo.1) ⟨b1,b2,b3,b4,b5⟩ nk
 by_cases r3:r=3∨r=4∨r=5
 case neg=>
  ((try simp (maxSteps:=3000000) (dsimp:=false) (disch:=first|omega|simp only[lnx];omega) only[↓ypre,ypost,↓reduceIte,reduceEqDiff,reduceAdd,reduceSub,reduceLeDiff,zz0,ynew,decide_eq_false r0,decide_eq_false r1,decide_eq_false r2,decide_eq_false (show ¬ r=3 by omega),decide_eq_false (show ¬ r=4 by omega),decide_eq_false (show ¬ r=5 by omega),v1,rdn_of g1,wr_of g2,splice_eq,rdn_put_same]);try simp only[yback])
  exact done
 by_cases hk:(x.ps.length:Int)>0
 case neg=>
  rcases r3 with rfl|rfl|rfl
  ·((try simp (maxSteps:=3000000) (dsimp:=false) (disch:=first|omega|simp only[lnx];omega) only[↓ypre,ypost,↓reduceIte,reduceEqDiff,reduceAdd,reduceSub,reduceLeDiff,zz0,ynew,decide_eq_false r0,decide_eq_false r1,decide_eq_false r2,decide_eq_true (show (3:Int)=3 from rfl),rd1_of g1,hl,decide_eq_false hk,v1,rdn_of g1,wr_of g2,splice_eq,rdn_put_same]);try simp only[yback])
   exact done
  ·((try simp (maxSteps:=3000000) (dsimp:=false) (disch:=first|omega|simp only[lnx];omega) only[↓ypre,ypost,↓reduceIte,reduceEqDiff,reduceAdd,reduceSub,reduceLeDiff,zz0,ynew,decide_eq_false r0,decide_eq_false r1,decide_eq_false r2,decide_eq_false (show ¬ (4:Int)=3 by omega),decide_eq_true (show (4:Int)=4 from rfl),rd1_of g1,hl,decide_eq_false hk,v1,rdn_of g1,wr_of g2,splice_eq,rdn_put_same]);try simp only[yback])
   exact done
  ·((try simp (maxSteps:=3000000) (dsimp:=false) (disch:=first|omega|simp only[lnx];omega) only[↓ypre,ypost,↓reduceIte,reduceEqDiff,reduceAdd,reduceSub,reduceLeDiff,zz0,ynew,decide_eq_false r0,decide_eq_false r1,decide_eq_false r2,decide_eq_false (show ¬ (5:Int)=3 by omega),decide_eq_false (show ¬ (5:Int)=4 by omega),decide_eq_true (show (5:Int)=5 from rfl),rd1_of g1,hl,decide_eq_false hk,v1,rdn_of g1,wr_of g2,splice_eq,rdn_put_same]);try simp only[yback])
   exact done
 obtain⟨vb,vo,hve,hrd⟩:=e3.1.rdAll (by omega)
 rcases r3 with rfl|rfl|rfl
 ·((try simp (maxSteps:=3000000) (dsimp:=false) (disch:=first|omega|simp only[lnx];omega) only[↓ypre,ypost,↓reduceIte,reduceEqDiff,reduceAdd,reduceSub,reduceLeDiff,zz0,ynew,decide_eq_false r0,decide_eq_false r1,decide_eq_false r2,decide_eq_true (show (3:Int)=3 from rfl),rd1_of g1,hl,decide_eq_true hk,fillL,zrep]);try simp only[yback])
  refine copy_zero e3.1 (by omega) (by unfold SmallX at b5;omega) fun H4 l4 p4 g4=>?_
  have n3:=s3.lt
  have s4:=s3.kp p4
  obtain⟨L,hL⟩:∃ L:Nat,L=x.ps.length:=⟨_,rfl⟩
  refine WO_cut (fun f:Fr=>f 0=srcP n∧f 3=.pointer (some ⟨h.length,0,none⟩)∧f 4=.pointer (some ⟨H1.length,0,none⟩)∧f 5=I64 x.ps.length∧f 43=.slice (some ⟨H3.length+1,0,none⟩) x.ps.length 27∧True) ⟨(by first|rfl|simp[upd_apply]),(by first|rfl|simp[upd_apply]),(by first|rfl|simp[upd_apply]),(by first|rfl|simp[upd_apply]),(by first|rfl|simp[upd_apply]),trivial⟩ ?_
  rintro f ⟨f0,f3,f4,f5,f43,-⟩
  ((try simp (maxSteps:=3000000) (dsimp:=false) (disch:=first|omega|simp only[lnx];omega) only[↓ypre,ypost,↓reduceIte,reduceEqDiff,reduceAdd,reduceSub,reduceLeDiff,zz0,ynew,f0,f3,f4,f5,f43]);try simp only[yback])
  refine s_l01Next s4 fun a H5 k5 l5 s5 ha _=>?_
  have ha:=ha (by omega)
  obtain⟨a,rfl⟩:∃ a':Nat,a=a':=⟨a.toNat,by omega⟩
  have g5:=k5.get (by omega) g4
  have w27:Wid 27 x.ps:=e3.1.widL
  have e5:Els .u8 27 H5 (.slice (some ⟨H3.length+1,0,none⟩) x.ps.length 27) x.ps:=(blk_kN (lo:=H3.length+1) g5 w27 (Nat.le_refl _)).now
  obtain⟨na,oa,ixa,rda⟩:=e5.rdw (i:=a) (by omega)
  have hqa:(x.ps.getD a []).length=27:=e5.wid (by omega)
  ((try simp (maxSteps:=3000000) (dsimp:=false) (disch:=first|omega|simp only[lnx];omega) only[↓ypre,ypost,↓reduceIte,reduceEqDiff,reduceAdd,reduceSub,reduceLeDiff,zz0,ynew,f0,f3,f4,f5,f43,ixa,rda,zeros27,cel_len,cel_all,hqa,List.length_replicate,sp27z hqa]);try simp only[yback])
  generalize hH6:AH.new H5 _=H6
  obtain⟨g6,p6,n6⟩:=new_facts hH6
  refine s_l01Next (s5.kp p6) fun c0 H7 k7 l7 s7 hc _=>?_
  have hc:=hc (by omega)
  obtain⟨c0,rfl⟩:∃ c':Nat,c0=c':=⟨c0.toNat,by omega⟩
  have n5:=s5.lt
  have g6:=k7.get (by omega) g6
  refine WO_cut (fun f:Fr=>f 0=srcP n∧f 3=.pointer (some ⟨h.length,0,none⟩)∧f 4=.pointer (some ⟨H1.length,0,none⟩)∧f 5=I64 x.ps.length∧f 6=.slice (some ⟨H3.length+1,0,none⟩) x.ps.length 27∧f 7=.pointer (some ⟨H5.length,0,none⟩)∧f 51=I64 c0∧True) ⟨(by first|rfl|exact f0|simp[upd_apply,f0]),(by first|rfl|exact f3|simp[upd_apply,f3]),(by first|rfl|exact f4|simp[upd_apply,f4]),(by first|rfl|exact f5|simp[upd_apply,f5]),(by first|rfl|simp[upd_apply]),(by first|rfl|simp[upd_apply]),(by first|rfl|simp[upd_apply]),trivial⟩ ?_
  rintro f ⟨f0,f3,f4,f5,f6,f7,f51,-⟩
  ((try simp (maxSteps:=3000000) (dsimp:=false) (disch:=first|omega|simp only[lnx];omega) only[↓ypre,ypost,↓reduceIte,reduceEqDiff,reduceAdd,reduceSub,reduceLeDiff,zz0,ynew,f0,f3,f4,f5,f6,f7,f51]);try simp only[yback])
  refine s_l01Next s7 fun d H8 k8 l8 s8 hd _=>?_
  have hd:=hd (by omega)
  have g6:=k8.get (by omega) g6
  have ic:=ixa_u (n:=H5.length) (off:=9) (len:=9) (kk:=.i64) (j:=c0) (by omega)
  refine WO_cut (fun f:Fr=>f 0=srcP n∧f 3=.pointer (some ⟨h.length,0,none⟩)∧f 4=.pointer (some ⟨H1.length,0,none⟩)∧f 5=I64 x.ps.length∧f 6=.slice (some ⟨H3.length+1,0,none⟩) x.ps.length 27∧f 7=.pointer (some ⟨H5.length,0,none⟩)∧f 51=I64 c0∧f 53=I64 d∧True) ⟨(by first|rfl|exact f0|simp[upd_apply,f0]),(by first|rfl|exact f3|simp[upd_apply,f3]),(by first|rfl|exact f4|simp[upd_apply,f4]),(by first|rfl|exact f5|simp[upd_apply,f5]),(by first|rfl|exact f6|simp[upd_apply,f6]),(by first|rfl|exact f7|simp[upd_apply,f7]),(by first|rfl|exact f51|simp[upd_apply,f51]),(by first|rfl|simp[upd_apply]),trivial⟩ ?_
  rintro f ⟨f0,f3,f4,f5,f6,f7,f51,f53,-⟩
  have st:=cel_set (k:=.u8) (q:=x.ps.getD a []) (j:=9+c0) (x:=d) (by omega)
  ((try simp (maxSteps:=3000000) (dsimp:=false) (disch:=first|omega|simp only[lnx];omega) only[↓ypre,ypost,↓reduceIte,reduceEqDiff,reduceAdd,reduceSub,reduceLeDiff,zz0,ynew,f0,f3,f4,f5,f6,f7,f51,f53,wrap8_in,ic,wr_of g6,st,cel_len,hqa]);try simp only[yback])
  refine⟨by omega,?_⟩
  generalize hq':(x.ps.getD a []).set (9+c0) d=q'
  have lq':q'.length=27:=by rw[←hq',List.length_set];exact hqa
  generalize hH9:AH.put H8 _ _=H9
  have n7:=s7.lt
  have n8:=s8.lt
  have lg6:=get_lt g6
  have l9:H9.length=H8.length:=by rw[←hH9,len_put]
  have g9:H9.get H5.length=some ⟨cel .u8 q',138,false,true⟩:=hH9▸get_put_same lg6
  have s9:Src h0 H9 n:=hH9▸s8.putb (by omega) (by omega)
  have k59:Kp n H5 H9:=hH9▸(((Kp.of p6).trans k7).trans k8).putb (by omega)
  refine s_l01Next s9 fun e H10 k10 l10 s10 he _=>?_
  have he:=he (by omega)
  obtain⟨e,rfl⟩:∃ e':Nat,e=e':=⟨e.toNat,by omega⟩
  refine⟨⟨_,rfl,k10⟩,?_⟩
  have g10:=k10.get (by omega) g9
  have kA:=k59.trans k10
  have g510:=kA.get (by omega) g5
  have ie:ixsV 27 (.slice (some ⟨H3.length+1,0,none⟩) x.ps.length 27) (I64 e)=some (.pointer (some ⟨H3.length+1,e*27,none⟩)):=by
   rw[ixsV_some,if_pos (by omega),Int.toNat_natCast,Nat.zero_add]
  refine WO_cut (fun f:Fr=>f 0=srcP n∧f 3=.pointer (some ⟨h.length,0,none⟩)∧f 4=.pointer (some ⟨H1.length,0,none⟩)∧f 6=.slice (some ⟨H3.length+1,0,none⟩) x.ps.length 27∧f 7=.pointer (some ⟨H5.length,0,none⟩)∧f 57=.slice (some ⟨H3.length+1,0,none⟩) x.ps.length 27∧f 58=srcP n∧f 60=I64 e∧True) ⟨(by first|rfl|exact f0|simp[upd_apply,f0]),(by first|rfl|exact f3|simp[upd_apply,f3]),(by first|rfl|exact f4|simp[upd_apply,f4]),(by first|rfl|exact f6|simp[upd_apply,f6]),(by first|rfl|exact f7|simp[upd_apply,f7]),(by first|rfl|simp[upd_apply]),(by first|rfl|simp[upd_apply]),(by first|rfl|simp[upd_apply]),trivial⟩ ?_
  rintro f ⟨f0,f3,f4,f6,f7,f57,f58,f60,-⟩
  have rd27:H10.rdn H5.length 0 27=some (cel .u8 q'):=by
   rw[rdn_of g10,if_pos (by rw[cel_len,lq'];omega),List.drop_zero,List.take_of_length_le (by rw[cel_len,lq'];exact Nat.le_refl _)]
  have fl:=flat_len w27
  have sf:=splice_flat (k:=.u8) lq' w27 (j:=e) (by omega)
  have g1:=kA.get (by omega) (k5.get (by omega) (pre_get p4 g1))
  have g2:=kA.get (by omega) (k5.get (by omega) (pre_get p4 g2))
  have lg1:=get_lt g1
  have lg2:=get_lt g2
  have o1:isOne (.slice (some ⟨H3.length+1,0,none⟩) x.ps.length 27)=true:=rfl
  have oc:cellsL (.slice (some ⟨H3.length+1,0,none⟩) x.ps.length 27)=[.slice (some ⟨H3.length+1,0,none⟩) x.ps.length 27]:=rfl
  ((try simp (maxSteps:=3000000) (dsimp:=false) (disch:=first|omega|simp only[lnx];omega) only[↓ypre,ypost,↓reduceIte,reduceEqDiff,reduceAdd,reduceSub,reduceLeDiff,zz0,ynew,f0,f3,f4,f6,f7,f57,f58,f60,rd27,ie,wr_of g510,cel_len,cel_all,lq',sf,fl,wr_of g1,wr_of g2,splice_eq]);try simp only[yback])
  refine⟨by omega,by omega,?_⟩
  ((try simp (maxSteps:=3000000) (dsimp:=false) (disch:=first|omega|simp only[lnx];omega) only[↓ypre,ypost,↓reduceIte,reduceEqDiff,reduceAdd,reduceSub,reduceLeDiff,zz0,ynew,f0,f3,f4,f6,f7,f57,f58,f60,wr_of g1,wr_of g2,splice_eq,rdn_put_same]);try simp only[yback])
  have kk:=(((kk3.trans (Kp.of p4)).trans k5).trans kA)
  have el:(x.ps.set e q').length=x.ps.length:=List.length_set
  rw[←el]
  refine hQ ⟨x.p,x.n,x.m,x.k,x.ps.set e q'⟩ _ _ (((kk.putb (m:=H1.length) (by omega)).putb (m:=h.length) (by omega)).putb (m:=H3.length+1) (by omega)) (((s10.putb (m:=H1.length) (by omega) (by omega)).putb (m:=h.length) (by omega) (by omega)).putb (m:=H3.length+1) (by omega) (by omega)) ?_ ⟨b1,b2,b3,b4,by unfold SmallX at b5 ⊢;rw[el];exact b5⟩ (.inr ⟨_,_,_,rfl⟩)
  have bt:Byt 27 (x.ps.set e q'):=hq'▸byt_set e3.2 (by omega) (by omega) (by omega)
  have lgk:=get_lt g510
  exact fun h2 k2 k3=>⟨blk_kN (lo:=lo) (m:=H3.length+1) (get_put_same (by rw[len_put,len_put];omega)) (wid_set w27 lq') (by omega) h2 k2 k3,bt⟩
 ·((try simp (maxSteps:=3000000) (dsimp:=false) (disch:=first|omega|simp only[lnx];omega) only[↓ypre,ypost,↓reduceIte,reduceEqDiff,reduceAdd,reduceSub,reduceLeDiff,zz0,ynew,decide_eq_false r0,decide_eq_false r1,decide_eq_false r2,decide_eq_false (show ¬ (4:Int)=3 by omega),decide_eq_true (show (4:Int)=4 from rfl),rd1_of g1,hl,decide_eq_true hk,fillL,zrep]);try simp only[yback])
  refine copy_zero e3.1 (by omega) (by unfold SmallX at b5;omega) fun H4 l4 p4 g4=>?_
  have n3:=s3.lt
  have s4:=s3.kp p4
  obtain⟨L,hL⟩:∃ L:Nat,L=x.ps.length:=⟨_,rfl⟩
  refine WO_cut (fun f:Fr=>f 0=srcP n∧f 3=.pointer (some ⟨h.length,0,none⟩)∧f 4=.pointer (some ⟨H1.length,0,none⟩)∧f 5=I64 x.ps.length∧f 43=.slice (some ⟨H3.length+1,0,none⟩) x.ps.length 27∧True) ⟨(by first|rfl|exact f0|simp[upd_apply,f0]),(by first|rfl|exact f3|simp[upd_apply,f3]),(by first|rfl|exact f4|simp[upd_apply,f4]),(by first|rfl|exact f5|simp[upd_apply,f5]),(by first|rfl|exact f43|simp[upd_apply,f43]),trivial⟩ ?_
  rintro f ⟨f0,f3,f4,f5,f43,-⟩
  ((try simp (maxSteps:=3000000) (dsimp:=false) (disch:=first|omega|simp only[lnx];omega) only[↓ypre,ypost,↓reduceIte,reduceEqDiff,reduceAdd,reduceSub,reduceLeDiff,zz0,ynew,f0,f3,f4,f5,f43]);try simp only[yback])
  refine s_l01Next s4 fun a H5 k5 l5 s5 ha _=>?_
  have ha:=ha (by omega)
  obtain⟨a,rfl⟩:∃ a':Nat,a=a':=⟨a.toNat,by omega⟩
  have g5:=k5.get (by omega) g4
  have w27:Wid 27 x.ps:=e3.1.widL
  have e5:Els .u8 27 H5 (.slice (some ⟨H3.length+1,0,none⟩) x.ps.length 27) x.ps:=(blk_kN (lo:=H3.length+1) g5 w27 (Nat.le_refl _)).now
  obtain⟨na,oa,ixa,rda⟩:=e5.rdw (i:=a) (by omega)
  have hqa:(x.ps.getD a []).length=27:=e5.wid (by omega)
  ((try simp (maxSteps:=3000000) (dsimp:=false) (disch:=first|omega|simp only[lnx];omega) only[↓ypre,ypost,↓reduceIte,reduceEqDiff,reduceAdd,reduceSub,reduceLeDiff,zz0,ynew,f0,f3,f4,f5,f43,ixa,rda,zeros27,cel_len,cel_all,hqa,List.length_replicate,sp27z hqa]);try simp only[yback])
  generalize hH6:AH.new H5 _=H6
  obtain⟨g6,p6,n6⟩:=new_facts hH6
  refine s_l01Next (s5.kp p6) fun c0 H7 k7 l7 s7 hc _=>?_
  have hc:=hc (by omega)
  obtain⟨c0,rfl⟩:∃ c':Nat,c0=c':=⟨c0.toNat,by omega⟩
  have n5:=s5.lt
  have g6:=k7.get (by omega) g6
  refine WO_cut (fun f:Fr=>f 0=srcP n∧f 3=.pointer (some ⟨h.length,0,none⟩)∧f 4=.pointer (some ⟨H1.length,0,none⟩)∧f 5=I64 x.ps.length∧f 6=.slice (some ⟨H3.length+1,0,none⟩) x.ps.length 27∧f 7=.pointer (some ⟨H5.length,0,none⟩)∧f 51=I64 c0∧True) ⟨(by first|rfl|exact f0|simp[upd_apply,f0]),(by first|rfl|exact f3|simp[upd_apply,f3]),(by first|rfl|exact f4|simp[upd_apply,f4]),(by first|rfl|exact f5|simp[upd_apply,f5]),(by first|rfl|exact f6|simp[upd_apply,f6]),(by first|rfl|exact f7|simp[upd_apply,f7]),(by first|rfl|exact f51|simp[upd_apply,f51]),trivial⟩ ?_
  rintro f ⟨f0,f3,f4,f5,f6,f7,f51,-⟩
  ((try simp (maxSteps:=3000000) (dsimp:=false) (disch:=first|omega|simp only[lnx];omega) only[↓ypre,ypost,↓reduceIte,reduceEqDiff,reduceAdd,reduceSub,reduceLeDiff,zz0,ynew,f0,f3,f4,f5,f6,f7,f51]);try simp only[yback])
  refine s_l01Next s7 fun d H8 k8 l8 s8 hd _=>?_
  have hd:=hd (by omega)
  have g6:=k8.get (by omega) g6
  have ic:=ixa_u (n:=H5.length) (off:=9) (len:=9) (kk:=.i64) (j:=c0) (by omega)
  refine WO_cut (fun f:Fr=>f 0=srcP n∧f 3=.pointer (some ⟨h.length,0,none⟩)∧f 4=.pointer (some ⟨H1.length,0,none⟩)∧f 5=I64 x.ps.length∧f 6=.slice (some ⟨H3.length+1,0,none⟩) x.ps.length 27∧f 7=.pointer (some ⟨H5.length,0,none⟩)∧f 51=I64 c0∧f 53=I64 d∧True) ⟨(by first|rfl|exact f0|simp[upd_apply,f0]),(by first|rfl|exact f3|simp[upd_apply,f3]),(by first|rfl|exact f4|simp[upd_apply,f4]),(by first|rfl|exact f5|simp[upd_apply,f5]),(by first|rfl|exact f6|simp[upd_apply,f6]),(by first|rfl|exact f7|simp[upd_apply,f7]),(by first|rfl|exact f51|simp[upd_apply,f51]),(by first|rfl|exact f53|simp[upd_apply,f53]),trivial⟩ ?_
  rintro f ⟨f0,f3,f4,f5,f6,f7,f51,f53,-⟩
  have st:=cel_set (k:=.u8) (q:=x.ps.getD a []) (j:=9+c0) (x:=d) (by omega)
  ((try simp (maxSteps:=3000000) (dsimp:=false) (disch:=first|omega|simp only[lnx];omega) only[↓ypre,ypost,↓reduceIte,reduceEqDiff,reduceAdd,reduceSub,reduceLeDiff,zz0,ynew,f0,f3,f4,f5,f6,f7,f51,f53,wrap8_in,ic,wr_of g6,st,cel_len,hqa]);try simp only[yback])
  refine⟨by omega,?_⟩
  generalize hq':(x.ps.getD a []).set (9+c0) d=q'
  have lq':q'.length=27:=by rw[←hq',List.length_set];exact hqa
  generalize hH9:AH.put H8 _ _=H9
  have n7:=s7.lt
  have n8:=s8.lt
  have lg6:=get_lt g6
  have l9:H9.length=H8.length:=by rw[←hH9,len_put]
  have g9:H9.get H5.length=some ⟨cel .u8 q',138,false,true⟩:=hH9▸get_put_same lg6
  have s9:Src h0 H9 n:=hH9▸s8.putb (by omega) (by omega)
  have k59:Kp n H5 H9:=hH9▸(((Kp.of p6).trans k7).trans k8).putb (by omega)
  refine s_l01Next s9 fun e H10 k10 l10 s10 he _=>?_
  have he:=he (by omega)
  obtain⟨e,rfl⟩:∃ e':Nat,e=e':=⟨e.toNat,by omega⟩
  refine⟨⟨_,rfl,k10⟩,?_⟩
  have g10:=k10.get (by omega) g9
  have kA:=k59.trans k10
  have g510:=kA.get (by omega) g5
  have ie:ixsV 27 (.slice (some ⟨H3.length+1,0,none⟩) x.ps.length 27) (I64 e)=some (.pointer (some ⟨H3.length+1,e*27,none⟩)):=by
   rw[ixsV_some,if_pos (by omega),Int.toNat_natCast,Nat.zero_add]
  refine WO_cut (fun f:Fr=>f 0=srcP n∧f 3=.pointer (some ⟨h.length,0,none⟩)∧f 4=.pointer (some ⟨H1.length,0,none⟩)∧f 6=.slice (some ⟨H3.length+1,0,none⟩) x.ps.length 27∧f 7=.pointer (some ⟨H5.length,0,none⟩)∧f 57=.slice (some ⟨H3.length+1,0,none⟩) x.ps.length 27∧f 58=srcP n∧f 60=I64 e∧True) ⟨(by first|rfl|exact f0|simp[upd_apply,f0]),(by first|rfl|exact f3|simp[upd_apply,f3]),(by first|rfl|exact f4|simp[upd_apply,f4]),(by first|rfl|exact f6|simp[upd_apply,f6]),(by first|rfl|exact f7|simp[upd_apply,f7]),(by first|rfl|exact f57|simp[upd_apply,f57]),(by first|rfl|exact f58|simp[upd_apply,f58]),(by first|rfl|exact f60|simp[upd_apply,f60]),trivial⟩ ?_
  rintro f ⟨f0,f3,f4,f6,f7,f57,f58,f60,-⟩
  have rd27:H10.rdn H5.length 0 27=some (cel .u8 q'):=by
   rw[rdn_of g10,if_pos (by rw[cel_len,lq'];omega),List.drop_zero,List.take_of_length_le (by rw[cel_len,lq'];exact Nat.le_refl _)]
  have fl:=flat_len w27
  have sf:=splice_flat (k:=.u8) lq' w27 (j:=e) (by omega)
  have g1:=kA.get (by omega) (k5.get (by omega) (pre_get p4 g1))
  have g2:=kA.get (by omega) (k5.get (by omega) (pre_get p4 g2))
  have lg1:=get_lt g1
  have lg2:=get_lt g2
  have o1:isOne (.slice (some ⟨H3.length+1,0,none⟩) x.ps.length 27)=true:=rfl
  have oc:cellsL (.slice (some ⟨H3.length+1,0,none⟩) x.ps.length 27)=[.slice (some ⟨H3.length+1,0,none⟩) x.ps.length 27]:=rfl
  ((try simp (maxSteps:=3000000) (dsimp:=false) (disch:=first|omega|simp only[lnx];omega) only[↓ypre,ypost,↓reduceIte,reduceEqDiff,reduceAdd,reduceSub,reduceLeDiff,zz0,ynew,f0,f3,f4,f6,f7,f57,f58,f60,rd27,ie,wr_of g510,cel_len,cel_all,lq',sf,fl,wr_of g1,wr_of g2,splice_eq]);try simp only[yback])
  refine⟨by omega,by omega,?_⟩
  ((try simp (maxSteps:=3000000) (dsimp:=false) (disch:=first|omega|simp only[lnx];omega) only[↓ypre,ypost,↓reduceIte,reduceEqDiff,reduceAdd,reduceSub,reduceLeDiff,zz0,ynew,f0,f3,f4,f6,f7,f57,f58,f60,wr_of g1,wr_of g2,splice_eq,rdn_put_same]);try simp only[yback])
  have kk:=(((kk3.trans (Kp.of p4)).trans k5).trans kA)
  have el:(x.ps.set e q').length=x.ps.length:=List.length_set
  rw[←el]
  refine hQ ⟨x.p,x.n,x.m,x.k,x.ps.set e q'⟩ _ _ (((kk.putb (m:=H1.length) (by omega)).putb (m:=h.length) (by omega)).putb (m:=H3.length+1) (by omega)) (((s10.putb (m:=H1.length) (by omega) (by omega)).putb (m:=h.length) (by omega) (by omega)).putb (m:=H3.length+1) (by omega) (by omega)) ?_ ⟨b1,b2,b3,b4,by unfold SmallX at b5 ⊢;rw[el];exact b5⟩ (.inr ⟨_,_,_,rfl⟩)
  have bt:Byt 27 (x.ps.set e q'):=hq'▸byt_set e3.2 (by omega) (by omega) (by omega)
  have lgk:=get_lt g510
  exact fun h2 k2 k3=>⟨blk_kN (lo:=lo) (m:=H3.length+1) (get_put_same (by rw[len_put,len_put];omega)) (wid_set w27 lq') (by omega) h2 k2 k3,bt⟩
 ·((try simp (maxSteps:=3000000) (dsimp:=false) (disch:=first|omega|simp only[lnx];omega) only[↓ypre,ypost,↓reduceIte,reduceEqDiff,reduceAdd,reduceSub,reduceLeDiff,zz0,ynew,decide_eq_false r0,decide_eq_false r1,decide_eq_false r2,decide_eq_false (show ¬ (5:Int)=3 by omega),decide_eq_false (show ¬ (5:Int)=4 by omega),decide_eq_true (show (5:Int)=5 from rfl),rd1_of g1,hl,decide_eq_true hk,fillL,zrep]);try simp only[yback])
  refine copy_zero e3.1 (by omega) (by unfold SmallX at b5;omega) fun H4 l4 p4 g4=>?_
  have n3:=s3.lt
  have s4:=s3.kp p4
  obtain⟨L,hL⟩:∃ L:Nat,L=x.ps.length:=⟨_,rfl⟩
  refine WO_cut (fun f:Fr=>f 0=srcP n∧f 3=.pointer (some ⟨h.length,0,none⟩)∧f 4=.pointer (some ⟨H1.length,0,none⟩)∧f 5=I64 x.ps.length∧f 43=.slice (some ⟨H3.length+1,0,none⟩) x.ps.length 27∧True) ⟨(by first|rfl|exact f0|simp[upd_apply,f0]),(by first|rfl|exact f3|simp[upd_apply,f3]),(by first|rfl|exact f4|simp[upd_apply,f4]),(by first|rfl|exact f5|simp[upd_apply,f5]),(by first|rfl|exact f43|simp[upd_apply,f43]),trivial⟩ ?_
  rintro f ⟨f0,f3,f4,f5,f43,-⟩
  ((try simp (maxSteps:=3000000) (dsimp:=false) (disch:=first|omega|simp only[lnx];omega) only[↓ypre,ypost,↓reduceIte,reduceEqDiff,reduceAdd,reduceSub,reduceLeDiff,zz0,ynew,f0,f3,f4,f5,f43]);try simp only[yback])
  refine s_l01Next s4 fun a H5 k5 l5 s5 ha _=>?_
  have ha:=ha (by omega)
  obtain⟨a,rfl⟩:∃ a':Nat,a=a':=⟨a.toNat,by omega⟩
  have g5:=k5.get (by omega) g4
  have w27:Wid 27 x.ps:=e3.1.widL
  have e5:Els .u8 27 H5 (.slice (some ⟨H3.length+1,0,none⟩) x.ps.length 27) x.ps:=(blk_kN (lo:=H3.length+1) g5 w27 (Nat.le_refl _)).now
  obtain⟨na,oa,ixa,rda⟩:=e5.rdw (i:=a) (by omega)
  have hqa:(x.ps.getD a []).length=27:=e5.wid (by omega)
  ((try simp (maxSteps:=3000000) (dsimp:=false) (disch:=first|omega|simp only[lnx];omega) only[↓ypre,ypost,↓reduceIte,reduceEqDiff,reduceAdd,reduceSub,reduceLeDiff,zz0,ynew,f0,f3,f4,f5,f43,ixa,rda,zeros27,cel_len,cel_all,hqa,List.length_replicate,sp27z hqa]);try simp only[yback])
  generalize hH6:AH.new H5 _=H6
  obtain⟨g6,p6,n6⟩:=new_facts hH6
  refine s_l01Next (s5.kp p6) fun c0 H7 k7 l7 s7 hc _=>?_
  have hc:=hc (by omega)
  obtain⟨c0,rfl⟩:∃ c':Nat,c0=c':=⟨c0.toNat,by omega⟩
  have n5:=s5.lt
  have g6:=k7.get (by omega) g6
  refine WO_cut (fun f:Fr=>f 0=srcP n∧f 3=.pointer (some ⟨h.length,0,none⟩)∧f 4=.pointer (some ⟨H1.length,0,none⟩)∧f 5=I64 x.ps.length∧f 6=.slice (some ⟨H3.length+1,0,none⟩) x.ps.length 27∧f 7=.pointer (some ⟨H5.length,0,none⟩)∧f 51=I64 c0∧True) ⟨(by first|rfl|exact f0|simp[upd_apply,f0]),(by first|rfl|exact f3|simp[upd_apply,f3]),(by first|rfl|exact f4|simp[upd_apply,f4]),(by first|rfl|exact f5|simp[upd_apply,f5]),(by first|rfl|exact f6|simp[upd_apply,f6]),(by first|rfl|exact f7|simp[upd_apply,f7]),(by first|rfl|exact f51|simp[upd_apply,f51]),trivial⟩ ?_
  rintro f ⟨f0,f3,f4,f5,f6,f7,f51,-⟩
  ((try simp (maxSteps:=3000000) (dsimp:=false) (disch:=first|omega|simp only[lnx];omega) only[↓ypre,ypost,↓reduceIte,reduceEqDiff,reduceAdd,reduceSub,reduceLeDiff,zz0,ynew,f0,f3,f4,f5,f6,f7,f51]);try simp only[yback])
  refine s_l01Next s7 fun d H8 k8 l8 s8 hd _=>?_
  have hd:=hd (by omega)
  have g6:=k8.get (by omega) g6
  have ic:=ixa_u (n:=H5.length) (off:=9) (len:=9) (kk:=.i64) (j:=c0) (by omega)
  refine WO_cut (fun f:Fr=>f 0=srcP n∧f 3=.pointer (some ⟨h.length,0,none⟩)∧f 4=.pointer (some ⟨H1.length,0,none⟩)∧f 5=I64 x.ps.length∧f 6=.slice (some ⟨H3.length+1,0,none⟩) x.ps.length 27∧f 7=.pointer (some ⟨H5.length,0,none⟩)∧f 51=I64 c0∧f 53=I64 d∧True) ⟨(by first|rfl|exact f0|simp[upd_apply,f0]),(by first|rfl|exact f3|simp[upd_apply,f3]),(by first|rfl|exact f4|simp[upd_apply,f4]),(by first|rfl|exact f5|simp[upd_apply,f5]),(by first|rfl|exact f6|simp[upd_apply,f6]),(by first|rfl|exact f7|simp[upd_apply,f7]),(by first|rfl|exact f51|simp[upd_apply,f51]),(by first|rfl|exact f53|simp[upd_apply,f53]),trivial⟩ ?_
  rintro f ⟨f0,f3,f4,f5,f6,f7,f51,f53,-⟩
  have st:=cel_set (k:=.u8) (q:=x.ps.getD a []) (j:=9+c0) (x:=d) (by omega)
  ((try simp (maxSteps:=3000000) (dsimp:=false) (disch:=first|omega|simp only[lnx];omega) only[↓ypre,ypost,↓reduceIte,reduceEqDiff,reduceAdd,reduceSub,reduceLeDiff,zz0,ynew,f0,f3,f4,f5,f6,f7,f51,f53,wrap8_in,ic,wr_of g6,st,cel_len,hqa]);try simp only[yback])
  refine⟨by omega,?_⟩
  generalize hq':(x.ps.getD a []).set (9+c0) d=q'
  have lq':q'.length=27:=by rw[←hq',List.length_set];exact hqa
  generalize hH9:AH.put H8 _ _=H9
  have n7:=s7.lt
  have n8:=s8.lt
  have lg6:=get_lt g6
  have l9:H9.length=H8.length:=by rw[←hH9,len_put]
  have g9:H9.get H5.length=some ⟨cel .u8 q',138,false,true⟩:=hH9▸get_put_same lg6
  have s9:Src h0 H9 n:=hH9▸s8.putb (by omega) (by omega)
  have k59:Kp n H5 H9:=hH9▸(((Kp.of p6).trans k7).trans k8).putb (by omega)
  refine s_l01Next s9 fun e H10 k10 l10 s10 he _=>?_
  have he:=he (by omega)
  obtain⟨e,rfl⟩:∃ e':Nat,e=e':=⟨e.toNat,by omega⟩
  refine⟨⟨_,rfl,k10⟩,?_⟩
  have g10:=k10.get (by omega) g9
  have kA:=k59.trans k10
  have g510:=kA.get (by omega) g5
  have ie:ixsV 27 (.slice (some ⟨H3.length+1,0,none⟩) x.ps.length 27) (I64 e)=some (.pointer (some ⟨H3.length+1,e*27,none⟩)):=by
   rw[ixsV_some,if_pos (by omega),Int.toNat_natCast,Nat.zero_add]
  refine WO_cut (fun f:Fr=>f 0=srcP n∧f 3=.pointer (some ⟨h.length,0,none⟩)∧f 4=.pointer (some ⟨H1.length,0,none⟩)∧f 6=.slice (some ⟨H3.length+1,0,none⟩) x.ps.length 27∧f 7=.pointer (some ⟨H5.length,0,none⟩)∧f 57=.slice (some ⟨H3.length+1,0,none⟩) x.ps.length 27∧f 58=srcP n∧f 60=I64 e∧True) ⟨(by first|rfl|exact f0|simp[upd_apply,f0]),(by first|rfl|exact f3|simp[upd_apply,f3]),(by first|rfl|exact f4|simp[upd_apply,f4]),(by first|rfl|exact f6|simp[upd_apply,f6]),(by first|rfl|exact f7|simp[upd_apply,f7]),(by first|rfl|exact f57|simp[upd_apply,f57]),(by first|rfl|exact f58|simp[upd_apply,f58]),(by first|rfl|exact f60|simp[upd_apply,f60]),trivial⟩ ?_
  rintro f ⟨f0,f3,f4,f6,f7,f57,f58,f60,-⟩
  have rd27:H10.rdn H5.length 0 27=some (cel .u8 q'):=by
   rw[rdn_of g10,if_pos (by rw[cel_len,lq'];omega),List.drop_zero,List.take_of_length_le (by rw[cel_len,lq'];exact Nat.le_refl _)]
  have fl:=flat_len w27
  have sf:=splice_flat (k:=.u8) lq' w27 (j:=e) (by omega)
  have g1:=kA.get (by omega) (k5.get (by omega) (pre_get p4 g1))
  have g2:=kA.get (by omega) (k5.get (by omega) (pre_get p4 g2))
  have lg1:=get_lt g1
  have lg2:=get_lt g2
  have o1:isOne (.slice (some ⟨H3.length+1,0,none⟩) x.ps.length 27)=true:=rfl
  have oc:cellsL (.slice (some ⟨H3.length+1,0,none⟩) x.ps.length 27)=[.slice (some ⟨H3.length+1,0,none⟩) x.ps.length 27]:=rfl
  ((try simp (maxSteps:=3000000) (dsimp:=false) (disch:=first|omega|simp only[lnx];omega) only[↓ypre,ypost,↓reduceIte,reduceEqDiff,reduceAdd,reduceSub,reduceLeDiff,zz0,ynew,f0,f3,f4,f6,f7,f57,f58,f60,rd27,ie,wr_of g510,cel_len,cel_all,lq',sf,fl,wr_of g1,wr_of g2,splice_eq]);try simp only[yback])
  refine⟨by omega,by omega,?_⟩
  ((try simp (maxSteps:=3000000) (dsimp:=false) (disch:=first|omega|simp only[lnx];omega) only[↓ypre,ypost,↓reduceIte,reduceEqDiff,reduceAdd,reduceSub,reduceLeDiff,zz0,ynew,f0,f3,f4,f6,f7,f57,f58,f60,wr_of g1,wr_of g2,splice_eq,rdn_put_same]);try simp only[yback])
  have kk:=(((kk3.trans (Kp.of p4)).trans k5).trans kA)
  have el:(x.ps.set e q').length=x.ps.length:=List.length_set
  rw[←el]
  refine hQ ⟨x.p,x.n,x.m,x.k,x.ps.set e q'⟩ _ _ (((kk.putb (m:=H1.length) (by omega)).putb (m:=h.length) (by omega)).putb (m:=H3.length+1) (by omega)) (((s10.putb (m:=H1.length) (by omega) (by omega)).putb (m:=h.length) (by omega) (by omega)).putb (m:=H3.length+1) (by omega) (by omega)) ?_ ⟨b1,b2,b3,b4,by unfold SmallX at b5 ⊢;rw[el];exact b5⟩ (.inr ⟨_,_,_,rfl⟩)
  have bt:Byt 27 (x.ps.set e q'):=hq'▸byt_set e3.2 (by omega) (by omega) (by omega)
  have lgk:=get_lt g510
  exact fun h2 k2 k3=>⟨blk_kN (lo:=lo) (m:=H3.length+1) (get_put_same (by rw[len_put,len_put];omega)) (wid_set w27 lq') (by omega) h2 k2 k3,bt⟩
theorem isX_SchB {x:Sch} {h:AH} {v:Value} (hx:isX x=true) (hv:Prods h v x.ps):SchB x∧(-100≤x.k∧x.k≤100):=by
 obtain⟨z,hp,hl,_⟩:=isX_facts hx
 have:=z.p;have:=z.n;have:=z.m;have:=z.k
 exact⟨⟨by omega,by omega,by omega,by omega,by unfold SmallX;omega⟩,by omega⟩
end Go.Proofs.Ytapafdpnmakekaa.X

set_option linter.unusedVariables false
set_option linter.unusedSimpArgs false
set_option maxRecDepth 20000
set_option maxHeartbeats 4000000
namespace Go.Proofs.Ytapafdpnmakekaa.X
open Go Go.RowKit
theorem byt_snoc {L:List (List Int)} {q:List Int} (hb:Byt 27 L) (hq:By 27 q):Byt 27 (L++[q]):=fun i hi j hj=>by
 by_cases h:i<L.length
 ·rw[getD_app_l h];exact hb i h j hj
 ·rw[List.length_append,List.length_singleton] at hi
  rw[getD_app_r (by omega),show i-L.length=0 by omega]
  exact hq.2 j hj
def WayZ (lo a b:Nat) (h:AH) (sv:Value) (L:List (List Int)):Prop:=
 Wid 27 L∧((sv=.slice none 0 2∧L=[])∨∃ kb,sv=.slice (some ⟨kb,0,none⟩) L.length 27∧lo≤kb∧(kb<a∨b≤kb)∧h.get kb=some ⟨cel .u8 L.flatten,138,false,false⟩)
section
variable {lo a b:Nat} {h h':AH} {sv:Value} {L:List (List Int)}
theorem WayZ.pre (o:WayZ lo a b h sv L) (p:h<+:h'):WayZ lo a b h' sv L:=by
 obtain⟨hw,o|⟨kb,h1,h2,h3,h4⟩⟩:=o
 ·exact⟨hw,.inl o⟩
 ·exact⟨hw,.inr ⟨kb,h1,h2,h3,pre_get p h4⟩⟩
theorem WayZ.one (o:WayZ lo a b h sv L):isOne sv=true:=by
 obtain⟨hw,⟨rfl,_⟩|⟨kb,rfl,h2,h3,h4⟩⟩:=o<;>rfl
theorem WayZ.cells (o:WayZ lo a b h sv L):cellsL sv=[sv]:=by
 obtain⟨hw,⟨rfl,_⟩|⟨kb,rfl,h2,h3,h4⟩⟩:=o<;>rfl
theorem WayZ.inE (o:WayZ lo a b h sv L) (hl:1≤L.length):InE .u8 27 lo h.length h sv L:=by
 obtain⟨hw,⟨_,rfl⟩|⟨kb,h1,h2,h3,h4⟩⟩:=o
 ·simp at hl
 ·exact .inr ⟨kb,_,false,⟨h2,get_lt h4⟩,h1,h4,hw⟩
theorem WayZ.app {H:AH} {q:List Int} {e':TypeId} {ro full:Bool} (o:WayZ lo a b H sv L) (hq:q.length=27) (hl:L.length≤1000) (hb:b≤H.length) (hlo:lo≤H.length)
  {Q:Value→AH→Prop} (hQ:∀ (sv':Value) (H':AH),H'.length=H.length+2→(∀ h0:AH,h0.length≤lo→h0<+:H→h0<+:H')→(∀ n c,n<lo∨a≤n∧n<b→H.get n=some c→H'.get n=some c)→WayZ lo a b H' sv' (L++[q])→Q sv' H') :
  OQ (appV (138) 27 27 sv (.slice (some ⟨H.length,0,none⟩) 1 27) (H.new ⟨cel .u8 q,e',ro,full⟩)) Q:=by
 have hr:(H.new ⟨cel .u8 q,e',ro,full⟩).rdn H.length 0 27=some (cel .u8 q):=by
  rw[rdn_of get_new_same]
  simp only
  rw[if_pos (by rw[cel_len,hq];omega),List.drop_zero,List.take_of_length_le (by rw[cel_len,hq];omega)]
 obtain⟨hw,⟨rfl,rfl⟩|⟨kb,rfl,h2,h3,h4⟩⟩:=o
 ·rw[app_nilW (.inr rfl) hr (by omega),OQ_some]
  refine hQ _ _ (by rw[len_new,len_new]) (fun h0 _ p=>pre_new (pre_new p)) (fun n c _ g=>get_new_any (get_new_any g)) ⟨?_,.inr ⟨_,rfl,by rw[len_new];omega,by rw[len_new];omega,?_⟩⟩
  ·intro r hr
   rw[List.nil_append,List.mem_singleton] at hr
   rw[hr,hq]
  ·rw[get_new_same]
   simp
 ·have hk:(H.new ⟨cel .u8 q,e',ro,full⟩).get kb=some ⟨cel .u8 L.flatten,138,false,false⟩:=get_new_any h4
  have hkb:=get_lt h4
  rw[app_ownW hk (by rw[cel_len,flat_len hw]) hr ⟨by omega,by omega⟩,OQ_some]
  refine hQ _ _ (by rw[len_new,len_kill,len_new]) (fun h0 q p=>pre_new (pre_kill (pre_new p) (by omega))) (fun n c hn g=>get_new_any (by rw[get_kill_ne (by omega)];exact get_new_any g)) ⟨?_,.inr ⟨(H.new ⟨cel .u8 q,e',ro,full⟩).length,by simp,by rw[len_new];omega,by rw[len_new];omega,?_⟩⟩
  ·intro r hr
   rcases List.mem_append.1 hr with hr|hr
   ·exact hw r hr
   ·rw[List.mem_singleton.1 hr,hq]
  ·rw[get_new_eq (by rw[len_kill])]
   simp[cel_app]
end
end Go.Proofs.Ytapafdpnmakekaa.X

set_option linter.unusedVariables false
set_option linter.unusedSimpArgs false
set_option maxRecDepth 20000
set_option maxHeartbeats 4000000
namespace Go.Proofs.Ytapafdpnmakekaa.X
open Go Go.RowKit
open Nat (reduceEqDiff reduceAdd reduceSub reduceLeDiff)
theorem s_l01Empty {h:AH} {x:Sch} {v:Value} {Q:Value→AH→Prop} (hv:isOne v=true) (hQ:∀ h',h<+:h'→Q (schV ⟨x.p,x.n,x.m,x.k,[]⟩ (.slice none 0 2)) h'):WF S 277 [schV x v] h Q:=by
 refine WF_fn (fn:=c277) rfl rfl ?_
 dsimp only[c277,oO,oM,oS,oG,oK,oE,oL,oF,oX,oN]
 ((try simp (maxSteps:=3000000) (dsimp:=false) (disch:=first|omega|simp only[lnx];omega) only[↓ypre,ypost,↓reduceIte,reduceEqDiff,reduceAdd,reduceSub,reduceLeDiff,zz0,ynew,schV,hv]);try simp only[yback])
 generalize hH1:AH.new h _=H1
 obtain⟨hb1,p1,n1⟩:=new_facts hH1
 generalize hH2:AH.new H1 _=H2
 obtain⟨hb2,p2,n2⟩:=new_facts hH2
 have g1:=pre_get p2 hb1
 have lt:=get_lt hb2
 ((try simp (maxSteps:=3000000) (dsimp:=false) (disch:=first|omega|simp only[lnx];omega) only[↓ypre,ypost,↓reduceIte,reduceEqDiff,reduceAdd,reduceSub,reduceLeDiff,zz0,ynew,rd1_of g1,fillL,wr_of hb2,splice_eq,rdn_put_same]);try simp only[yback])
 exact hQ _ (p1.trans p2)
end Go.Proofs.Ytapafdpnmakekaa.X

set_option linter.unusedVariables false
set_option linter.unusedSimpArgs false
set_option maxRecDepth 20000
set_option maxHeartbeats 4000000
namespace Go.Proofs.Ytapafdpnmakekaa.X
open Go Go.RowKit
def tabN:List Int:=[1,2,3,2,4,6,3,6,9,2,4,6,4,7,11,6,11,17,3,6,9,6,11,17,9,17,26]
def nm (q:List Int):Int:=tabN.getD ((q.getD 0 0-1)*9+(q.getD 1 0-1)*3+(q.getD 2 0-1)).toNat 0
def ProgD (lo:Nat) (h:AH) (v w:Value) (x:Prg):Prop:=KN lo h fun h'=>PrgR h' v w x
theorem smallM_of2 {rows:List (List Int)} {A B:Nat} (h1:rows.length≤A) (h2:∀ i,i<rows.length→(rows.getD i []).length≤B) (hAB:A≤1000∧B≤1000):SmallM rows:=by
 have ht:∀ i,i≤rows.length→tot rows i≤i*1000:=fun i=>by
  induction i with
  | zero=>intro _;simp
  | succ i ih=>
   intro hi
   have e:=tot_succ (rows:=rows) (i:=i) (by omega)
   have:=ih (by omega)
   have:=h2 i (by omega)
   omega
 have:=ht rows.length (Nat.le_refl _)
 exact⟨by omega,fun i hi=>by have:=h2 i hi;omega,by omega⟩
theorem TabS.get {h0 h:AH} {nb i:Nat} {full:Bool} {L:List (Nat×List Int)} (s:TabS h0 h nb full L) (hi:i<L.length):h.rd1 nb i=some (sl (L[i]).1 (L[i]).2.length):=by
 rw[rd1_of s.g]
 simp[hi,rowV,sl]
def prgC (x:Prg) (v w:Value):List Value:=[I64 x.p,I64 x.n,v,w]
end Go.Proofs.Ytapafdpnmakekaa.X

set_option linter.unusedVariables false
set_option linter.unusedSimpArgs false
set_option maxRecDepth 20000
set_option maxHeartbeats 4000000
namespace Go.Proofs.Ytapafdpnmakekaa.X
open Go Go.RowKit
open Nat (reduceEqDiff reduceAdd reduceSub reduceLeDiff)
structure Pr3 (h:AH) (nb:Nat) (x:Sch) (b:Bool) (v1 w1 v2 w2 v3 w3:Value):Prop where
 g:∃ fl,h.get nb=some ⟨prgC (pgX x b 0) v1 w1++prgC (pgX x b 1) v2 w2++prgC (pgX x b 2) v3 w3,70,false,fl⟩
 r1:PrgR h v1 w1 (pgX x b 0)
 r2:PrgR h v2 w2 (pgX x b 1)
 r3:PrgR h v3 w3 (pgX x b 2)
section
variable {h h':AH} {nb:Nat} {x:Sch} {b:Bool} {v1 w1 v2 w2 v3 w3:Value}
theorem Pr3.pre (o:Pr3 h nb x b v1 w1 v2 w2 v3 w3) (p:h<+:h'):Pr3 h' nb x b v1 w1 v2 w2 v3 w3:=
 ⟨by obtain⟨fl,g⟩:=o.g;exact⟨fl,pre_get p g⟩,o.r1.pre p,o.r2.pre p,o.r3.pre p⟩
theorem Pr3.at (o:Pr3 h nb x b v1 w1 v2 w2 v3 w3) {i:Nat} (hi:i<3):∃ y z,h.rd1 nb (i*4+2)=some y∧h.rdn nb (i*4) 4=some (prgC (pgX x b i) y z)∧PrgR h y z (pgX x b i):=by
 obtain⟨fl,g⟩:=o.g
 have hc:i=0∨i=1∨i=2:=by omega
 rcases hc with rfl|rfl|rfl
 ·exact⟨v1,w1,by rw[rd1_of g];rfl,by rw[rdn_of g];rfl,o.r1⟩
 ·exact⟨v2,w2,by rw[rd1_of g];rfl,by rw[rdn_of g];rfl,o.r2⟩
 ·exact⟨v3,w3,by rw[rd1_of g];rfl,by rw[rdn_of g];rfl,o.r3⟩
end
theorem ix4 {nb len i:Nat} {kk:IntKind} (hi:i<len):ixsV 4 (.slice (some ⟨nb,0,none⟩) len 4) (.int kk (i:Int))=some (.pointer (some ⟨nb,i*4,none⟩)):=by
 rw[ixsV_some,if_pos (by omega)]
 simp
theorem i_matrixOf {q:List Int} {n:Nat} {h:AH} {Q:Value→AH→Prop} (hq:By 9 q) (hn:1≤n∧n≤9) (hQ:∀ v' h',h<+:h'→OwnRows h h' v' [q.take n]→Q v' h'):WF S 310 [aggV .u8 q,I64 1,I64 n] h Q:=by
 refine WF_fn (fn:=c310) rfl rfl ?_
 dsimp only[c310,oO,oM,oS,oG,oK,oE,oL,oF,oX,oN]
 ((try simp (maxSteps:=3000000) (dsimp:=false) (disch:=first|omega|simp only[lnx];omega) only[↓ypre,ypost,↓reduceIte,reduceEqDiff,reduceAdd,reduceSub,reduceLeDiff,zz0,ynew,aggV,cel_all,cellsL_cel]);try simp only[yback])
 generalize hH1:AH.new h _=H1
 obtain⟨hb1,p1,n1⟩:=new_facts hH1
 generalize hH2:AH.new H1 _=H2
 obtain⟨hb2,p2,n2⟩:=new_facts hH2
 have l0:Lst H2 H1.length (q.take 0) true:=hb2
 have hq1:=hq.1
 ((try simp (maxSteps:=3000000) (dsimp:=false) (disch:=first|omega|simp only[lnx];omega) only[↓ypre,ypost,↓reduceIte,reduceEqDiff,reduceAdd,reduceSub,reduceLeDiff,zz0,ynew,Int.one_mul,wrap64_in]);try simp only[yback])
 refine WC_loop_inv (fun m f K1=>∃ (i:Nat) (k:Nat) (fu:Bool),m=n-i∧i≤n∧f 2=I64 n∧f 3=.pointer (some ⟨h.length,0,none⟩)∧f 7=sl k (q.take i).length∧f 12=I64 n∧f 13=I64 i∧(H1<+:K1)∧(Lst K1 k (q.take i) fu)∧(H1.length≤k)) ?_ (n-0) _ _ ⟨0,H1.length,true,rfl,by omega,(by first|rfl|simp[upd_apply]),(by first|rfl|simp[upd_apply]),(by first|rfl|simp[upd_apply]),(by first|rfl|simp[upd_apply]),(by first|rfl|simp[upd_apply]),p2,l0,Nat.le_refl _⟩
 rintro m f K1 ⟨i,k,fu,rfl,hi,f2,f3,f7,f12,f13,pp,lo,hk⟩
 have hb:=pre_get pp hb1
 by_cases hlt:(i:Int)<n
 ·have hi':i<n:=by omega
  have g1:=cel_get (k:=.u8) (q:=q) (j:=i) (by omega)
  have ixa:=ixa_u (n:=h.length) (off:=0) (len:=9) (kk:=.i64) (j:=i) (by omega)
  rw[Nat.zero_add] at ixa
  have b1:=hq.2 i (by omega)
  ((try simp (maxSteps:=3000000) (dsimp:=false) (disch:=first|omega|simp only[lnx];omega) only[↓ypre,ypost,↓reduceIte,reduceEqDiff,reduceAdd,reduceSub,reduceLeDiff,zz0,ynew,f2,f3,f7,f12,f13,decide_eq_true hlt,ixa,rd1_of hb,g1,wrap64_in]);try simp only[yback])
  refine lo.app3 (by rw[List.length_take];omega) fun H5 l5 pre5 keep5 lo5=>?_
  have et:q.take i++[q.getD i 0]=q.take (i+1):=(take_next (by omega)).symm
  ((try simp (maxSteps:=3000000) (dsimp:=false) (disch:=first|omega|simp only[lnx];omega) only[↓ypre,ypost,↓reduceIte,reduceEqDiff,reduceAdd,reduceSub,reduceLeDiff,zz0,ynew,f2,f3,f7,f12,f13,wrap64_in]);try simp only[yback])
  refine InvQ_go (n-(i+1)) (by omega) ⟨(i+1),(K1.length+1),false,rfl,by omega,(by first|rfl|exact f2|(simp only[upd_apply];rfl)|(show I64 _=_;congr 1;omega)),(by first|rfl|exact f3|(simp only[upd_apply];rfl)|(show I64 _=_;congr 1;omega)),(by rw[←et];rfl),(by first|rfl|exact f12|(simp only[upd_apply];rfl)|(show I64 _=_;congr 1;omega)),(by first|rfl|exact f13|(simp only[upd_apply];rfl)|(show I64 _=_;congr 1;omega)),(pre5 _ hk pp),(by rw[←et];exact lo5),(by have:=pre_len pp;omega)⟩
 have ei:i=n:=by omega
 subst ei
 ((try simp (maxSteps:=3000000) (dsimp:=false) (disch:=first|omega|simp only[lnx];omega) only[↓ypre,ypost,↓reduceIte,reduceEqDiff,reduceAdd,reduceSub,reduceLeDiff,zz0,ynew,f2,f3,f7,f12,f13,decide_eq_false hlt]);try simp only[yback])
 have ql:(q.take i).length=i:=by rw[List.length_take];omega
 refine i_parted (w:=i) (n:=1) lo.ints (by omega) (by omega) (by omega) fun v' H3 p3 o3=>?_
 ((try simp (maxSteps:=3000000) (dsimp:=false) (disch:=first|omega|simp only[lnx];omega) only[↓ypre,ypost,↓reduceIte,reduceEqDiff,reduceAdd,reduceSub,reduceLeDiff,zz0,ynew,f2,f3,f7,f12,f13]);try simp only[yback])
 have ep:parts (q.take i) i 1=[q.take i]:=by
  unfold parts
  show [(((q.take i).drop (0*i)).take i)]=_
  rw[Nat.zero_mul,List.drop_zero,List.take_take,Nat.min_self]
 rw[ep] at o3
 exact hQ _ _ ((p1.trans pp).trans p3) (o3.lo (by have:=pre_len (p1.trans pp);omega))
theorem OwnRows.one_row {h0 h:AH} {v:Value} {r:List Int} (o:OwnRows h0 h v [r]) (hr:r≠[]):∃ nb kr fu,ixsV 1 v (I64 0)=some (.pointer (some ⟨nb,0,none⟩))∧h.rd1 nb 0=some (sl kr r.length)∧h0.length≤kr∧OwnB h kr (r.map (Value.int .i64)) fu:=by
 rcases o with⟨_,e⟩|⟨n,e,full,cs,h1,rfl,h2,h3,h4,_⟩
 ·cases e
 ·have hl:cs.length=1:=by simpa using h3
  obtain⟨q1,_⟩:=h4 0 (by simp)
  have e0:cs.getD 0 undef=cs.getD 0 undef:=rfl
  rcases q1 with⟨_,e2⟩|⟨kb,e2,fu,g1,g2,g3⟩
  ·exact absurd e2 hr
  ·refine⟨n,kb,fu,?_,?_,g1,e2,g3⟩
   ·rw[hl]
    rfl
   ·rw[rd1_of h2]
    show cs[0]?=_
    have:cs[0]?=some (cs.getD 0 undef):=by
     rw[List.getD_eq_getElem?_getD,List.getElem?_eq_getElem (by omega)]
     rfl
    rw[this,g2]
    rfl
theorem i_lists {v:Value} {x:Sch} {i n:Nat} {h:AH} {Q:Value→AH→Prop} (hv:Prods h v x.ps) (hl:x.ps.length≤30) (hi:i<3) (hn:1≤n∧n≤9)
  (hQ:∀ v' h',h<+:h'→Rows h' v' (lsF x i n)→Q v' h'):WF S 289 [schV x v,I64 i,I64 n] h Q:=by
 refine WF_fn (fn:=c289) rfl rfl ?_
 dsimp only[c289,oO,oM,oS,oG,oK,oE,oL,oF,oX,oN]
 ((try simp (maxSteps:=3000000) (dsimp:=false) (disch:=first|omega|simp only[lnx];omega) only[↓ypre,ypost,↓reduceIte,reduceEqDiff,reduceAdd,reduceSub,reduceLeDiff,zz0,ynew,schV,hv.one]);try simp only[yback])
 generalize hH1:AH.new h _=H1
 obtain⟨hb1,p1,n1⟩:=new_facts hH1
 generalize hH2:AH.new H1 _=H2
 obtain⟨hb2,p2,n2⟩:=new_facts hH2
 ((try simp (maxSteps:=3000000) (dsimp:=false) (disch:=first|omega|simp only[lnx];omega) only[↓ypre,ypost,↓reduceIte,reduceEqDiff,reduceAdd,reduceSub,reduceLeDiff,zz0,ynew,rd1_of (pre_get p2 hb1),(hv.pre (p1.trans p2)).1.len]);try simp only[yback])
 have z27:=zeros27
 refine WC_loop_inv (fun m f K1=>∃ (j:Nat) (nb:Nat) (fl:Bool) (L:List (Nat×List Int)),m=x.ps.length-j∧j≤x.ps.length∧f 1=I64 i∧f 2=I64 n∧f 3=.pointer (some ⟨h.length,0,none⟩)∧f 7=sl nb L.length∧f 12=v∧f 13=I64 x.ps.length∧f 14=I64 j∧(TabS H1 K1 nb fl L)∧(L.map Prod.snd=(lsF x i n).take j)) ?_ (x.ps.length-0) _ _ ⟨0,H1.length,true,[],rfl,by omega,(by first|rfl|simp[upd_apply]),(by first|rfl|simp[upd_apply]),(by first|rfl|simp[upd_apply]),(by first|rfl|simp[upd_apply]),(by first|rfl|simp[upd_apply]),(by first|rfl|simp[upd_apply]),(by first|rfl|simp[upd_apply]),⟨p2,Nat.le_refl _,hb2,by simp,by simp⟩,(by simp)⟩
 rintro m f K1 ⟨j,nb,fl,L,rfl,hj,f1,f2,f3,f7,f12,f13,f14,st,hL⟩
 have hLl:L.length=j:=by
  have:=congrArg List.length hL
  rw[List.length_map,List.length_take,lsF_len] at this
  omega
 have lt:=st.lt
 have kh:=pre_len st.hp
 have hvK:=hv.pre (p1.trans st.hp)
 by_cases hlt:(j:Int)<x.ps.length
 ·have hj':j<x.ps.length:=by omega
  obtain⟨n5',off5,hix,hrn,hr1⟩:=hvK.1.at hj'
  have r27:=hrn 0 27 (by omega)
  have wi:=hvK.1.wid hj'
  have hby:=hvK.by hj'
  have tk:(x.ps.getD j []).take 27=x.ps.getD j []:=List.take_of_length_le (by omega)
  rw[List.drop_zero,tk,Nat.add_zero] at r27
  have eg:=lsF_get (x:=x) (i:=i) (n:=n) hj'
  generalize hq:x.ps.getD j []=q at *
  have w1:∀ (h1:AH) (e:TypeId),(h1.new ⟨[.int .u8 0,.int .u8 0,.int .u8 0,.int .u8 0,.int .u8 0,.int .u8 0,.int .u8 0,.int .u8 0,.int .u8 0,.int .u8 0,.int .u8 0,.int .u8 0,.int .u8 0,.int .u8 0,.int .u8 0,.int .u8 0,.int .u8 0,.int .u8 0,.int .u8 0,.int .u8 0,.int .u8 0,.int .u8 0,.int .u8 0,.int .u8 0,.int .u8 0,.int .u8 0,.int .u8 0],e,false,true⟩).wr h1.length 0 (cel .u8 q)=some (h1.new ⟨cel .u8 q,e,false,true⟩):=fun h1 e=>wr_all (by rw[cel_len,wi];rfl)
  ((try simp (maxSteps:=3000000) (dsimp:=false) (disch:=first|omega|simp only[lnx];omega) only[↓ypre,ypost,↓reduceIte,reduceEqDiff,reduceAdd,reduceSub,reduceLeDiff,zz0,ynew,f1,f2,f3,f7,f12,f13,f14,decide_eq_true hlt,hix,r27,cel_all,cellsL_cel,cel_len,wi,↓w1,cel_take,tk,wrap64_in]);try simp only[yback])
  generalize hH3:AH.new K1 _=H3
  obtain⟨hb3,p3,n3⟩:=new_facts hH3
  refine i_factors wi fun H4 p4=>?_
  have e1:idxnV 3 9 (aggV .u8 q) (I64 i)=some (.agg (cel .u8 (seg q i)).toArray):=by
   simp only[idxnV,aggV,toL,Int.toNat_natCast,cel_len,wi]
   rw[if_pos ⟨by omega,by omega,by omega⟩]
   simp only[cel_drop,cel_take]
   rfl
  ((try simp (maxSteps:=3000000) (dsimp:=false) (disch:=first|omega|simp only[lnx];omega) only[↓ypre,ypost,↓reduceIte,reduceEqDiff,reduceAdd,reduceSub,reduceLeDiff,zz0,ynew,f1,f2,f3,f7,f12,f13,f14,e1]);try simp only[yback])
  refine i_matrixOf (hby.seg hi) hn fun v5 H5 p5 o5=>?_
  have p35:=p3.trans (p4.trans p5)
  have k4:=pre_len p4
  have sgl:=(hby.seg hi).1
  obtain⟨nb5,kr,fr,ix0,rd0,hkr,ob⟩:=o5.one_row (by
   intro e
   have:=congrArg List.length e
   rw[List.length_take,sgl,List.length_nil] at this
   omega)
  ((try simp (maxSteps:=3000000) (dsimp:=false) (disch:=first|omega|simp only[lnx];omega) only[↓ypre,ypost,↓reduceIte,reduceEqDiff,reduceAdd,reduceSub,reduceLeDiff,zz0,ynew,f1,f2,f3,f7,f12,f13,f14,ix0,rd0,sl_cells,sl_one]);try simp only[yback])
  refine (st.pre p35).app2 ⟨by omega,by omega,fun q hq=>by have:=lt.2 q hq;omega⟩ ob (by omega) fun nb' H' st' l' e' own' pre'=>?_
  ((try simp (maxSteps:=3000000) (dsimp:=false) (disch:=first|omega|simp only[lnx];omega) only[↓ypre,ypost,↓reduceIte,reduceEqDiff,reduceAdd,reduceSub,reduceLeDiff,zz0,ynew,f1,f2,f3,f7,f12,f13,f14,wrap64_in]);try simp only[yback])
  refine InvQ_go (x.ps.length-(j+1)) (by omega) ⟨(j+1),nb',false,(L++[(kr,(seg q i).take n)]),rfl,by omega,(by first|rfl|exact f1|(simp only[upd_apply];rfl)|(show I64 _=_;congr 1;omega)),(by first|rfl|exact f2|(simp only[upd_apply];rfl)|(show I64 _=_;congr 1;omega)),(by first|rfl|exact f3|(simp only[upd_apply];rfl)|(show I64 _=_;congr 1;omega)),(by first|rfl|exact f7|(simp only[upd_apply];rfl)|(show I64 _=_;congr 1;omega)),(by first|rfl|exact f12|(simp only[upd_apply];rfl)|(show I64 _=_;congr 1;omega)),(by first|rfl|exact f13|(simp only[upd_apply];rfl)|(show I64 _=_;congr 1;omega)),(by first|rfl|exact f14|(simp only[upd_apply];rfl)|(show I64 _=_;congr 1;omega)),st',(by rw[List.map_append,hL,take_next (d:=[]) (by rw[lsF_len];exact hj'),eg];rfl)⟩
 have ej:j=x.ps.length:=by omega
 subst ej
 rw[List.take_of_length_le (by rw[lsF_len];exact Nat.le_refl _)] at hL
 ((try simp (maxSteps:=3000000) (dsimp:=false) (disch:=first|omega|simp only[lnx];omega) only[↓ypre,ypost,↓reduceIte,reduceEqDiff,reduceAdd,reduceSub,reduceLeDiff,zz0,ynew,f1,f2,f3,f7,f12,f13,f14,decide_eq_false hlt]);try simp only[yback])
 have o:=st.own
 rw[hL] at o
 exact hQ _ _ (p1.trans st.hp) o.rows
theorem xres_nil {f:Fr} {h:AH}:xres f h []=some (.tuple #[]):=rfl
theorem InE.move {k:IntKind} {w a b:Nat} {h h':AH} {v:Value} {L:List (List Int)} (o:InE k w a b h v L) (hk:∀ m bl,a≤m→m<b→h.get m=some bl→h'.get m=some bl):InE k w a b h' v L:=by
 rcases o with o|⟨m,e,full,h1,rfl,h2,h3⟩
 ·exact .inl o
 ·exact .inr ⟨m,e,full,h1,rfl,hk _ _ h1.1 h1.2 h2,h3⟩
theorem InP.move {a b:Nat} {h h':AH} {v w:Value} {x:Prg} (o:InP a b h v w x) (hk:∀ m bl,a≤m→m<b→h.get m=some bl→h'.get m=some bl):InP a b h' v w x:=by
 obtain⟨c,h1,h2,h3,h4⟩:=o
 exact⟨c,h1,h2,h3.move fun m bl q1 q2 g=>hk m bl q1 (by omega) g,h4.move fun m bl q1 q2 g=>hk m bl (by omega) q2 g⟩
theorem i_made {u:Value} {p n xn xm xk:Int} {xv:Value} {b:Bool} {rows:List (List Int)} {ms mo mx nb k:Nat} {eS eX eO:TypeId} {fl:Bool} {c:List Value} {h:AH} {Q:Value→AH→Prop} (hu:Rows h u rows) (hok:lsOK p n rows=true)
  (gS:h.get ms=some ⟨[.bool b],eS,false,true⟩) (gX:h.get mx=some ⟨[I64 p,I64 xn,I64 xm,I64 xk,xv],eX,false,true⟩) (gO:h.get mo=some ⟨[.slice (some ⟨nb,0,none⟩) k 4],eO,false,true⟩) (gB:h.get nb=some ⟨c,70,false,fl⟩) (hc:c.length=k*4) (hk:k≤3) (hne:mo≠nb)
  (hQ:∀ (val:Value) (nb':Nat) (v' w':Value) (h':AH),h.length≤nb'→nb'<h'.length→h'.get nb'=some ⟨c++prgC (pgO p n rows b) v' w',70,false,false⟩→h'.get mo=some ⟨[.slice (some ⟨nb',0,none⟩) (k+1) 4],eO,false,true⟩→InP h.length nb' h' v' w' (pgO p n rows b)→(∀ m bl,m≠nb→m≠mo→h.get m=some bl→h'.get m=some bl)→(∀ h0:AH,h0.length≤nb→h0.length≤mo→h0<+:h→h0<+:h')→Q val h'):WF S 288 [I64 n,u,.pointer (some ⟨ms,0,none⟩),.pointer (some ⟨mo,0,none⟩),.pointer (some ⟨mx,0,none⟩)] h Q:=by
 refine WF_fn (fn:=c288) rfl rfl ?_
 dsimp only[c288,oO,oM,oS,oG,oK,oE,oL,oF,oX,oN]
 have hlen:=hok
 have ltO:=get_lt gO
 have ltB:=get_lt gB
 have tail:∀ (P:Prg) (v' w':Value) (H:AH),h<+:H→∃ H2:AH,appV (70) 4 64 (.slice (some ⟨nb,0,none⟩) k 4) (.slice (some ⟨H.length,0,none⟩) 1 4) (H.new ⟨[I64 P.p,I64 P.n,v',w'],70,false,true⟩)=some (.slice (some ⟨H.length+1,0,none⟩) (k+1) 4,H2) ∧
   H2.length=H.length+2∧H2.get (H.length+1)=some ⟨c++prgC P v' w',70,false,false⟩∧(∀ m bl,m≠nb→H.get m=some bl→H2.get m=some bl)∧(∀ h0:AH,h0.length≤nb→h0<+:H→h0<+:H2):=by
  intro P v' w' H pH
  have hr:(H.new ⟨[I64 P.p,I64 P.n,v',w'],70,false,true⟩).rdn H.length 0 4=some [I64 P.p,I64 P.n,v',w']:=by
   rw[rdn_of get_new_same]
   rfl
  have hkk:(H.new ⟨[I64 P.p,I64 P.n,v',w'],70,false,true⟩).get nb=some ⟨c,70,false,fl⟩:=get_new_any (pre_get pH gB)
  refine⟨((H.new ⟨[I64 P.p,I64 P.n,v',w'],70,false,true⟩).kill nb).new ⟨c++[I64 P.p,I64 P.n,v',w'],70,false,false⟩,?_,?_,?_,?_,?_⟩
  ·rw[app_ownW hkk hc hr (by omega),len_new]
  ·rw[len_new,len_kill,len_new]
  ·rw[get_new_eq (by rw[len_kill,len_new])]
   rfl
  ·intro m bl hm g
   exact get_new_any (by rw[get_kill_ne (fun e=>hm e.symm)];exact get_new_any g)
  ·intro h0 hh q
   exact pre_new (pre_kill (pre_new q) hh)
 unfold pgO at hQ
 cases b with
 | true=>
  rw[if_pos rfl] at hQ
  ((try simp (maxSteps:=3000000) (dsimp:=false) (disch:=first|omega|simp only[lnx];omega) only[↓ypre,ypost,↓reduceIte,reduceEqDiff,reduceAdd,reduceSub,reduceLeDiff,zz0,ynew,rd1_of gS,rd1_of gO,rd1_of gX]);try simp only[yback])
  refine i_sharedProgram hu hok fun v' w' H' pH o ob=>?_
  obtain⟨H2,e2,l2,g2,k2,pre2⟩:=tail (shP p n rows) v' w' H' pH
  have gO2:=k2 _ _ hne (pre_get pH gO)
  have lh:=pre_len pH
  have lt2:=get_lt gO2
  ((try simp (maxSteps:=3000000) (dsimp:=false) (disch:=first|omega|simp only[lnx];omega) only[↓ypre,ypost,↓reduceIte,reduceEqDiff,reduceAdd,reduceSub,reduceLeDiff,zz0,ynew,prgV,o.st.one,o.st.cells,o.out.one,o.out.cells,fillL]);try simp only[yback])
  refine⟨pH,?_⟩
  ((try simp (maxSteps:=3000000) (dsimp:=false) (disch:=first|omega|simp only[lnx];omega) only[↓ypre,ypost,↓reduceIte,reduceEqDiff,reduceAdd,reduceSub,reduceLeDiff,zz0,ynew,e2,wr_of gO2,xres_nil]);try simp only[yback])
  refine hQ _ (H'.length+1) v' w' _ (by omega) (by rw[len_put];omega) (by rw[get_put_ne (by omega)];exact g2) (get_put_same lt2) (((o.inP ob lh).mono (Nat.le_refl _) (by omega)).move fun m bl q1 q2 g=>?_) (fun m bl q1 q2 g=>by rw[get_put_ne (fun e=>q2 e.symm)];exact k2 m bl q1 (pre_get pH g)) (fun h0 q1 q2 q=>pre_put (pre2 h0 q1 (q.trans pH)) q2)
  rw[get_put_ne (by omega)]
  exact k2 m bl (by omega) g
 | false=>
  rw[if_neg (by decide)] at hQ
  obtain⟨hp,hn,hl,hmm⟩:=lsOK_iff.1 hok
  ((try simp (maxSteps:=3000000) (dsimp:=false) (disch:=first|omega|simp only[lnx];omega) only[↓ypre,ypost,↓reduceIte,reduceEqDiff,reduceAdd,reduceSub,reduceLeDiff,zz0,ynew,rd1_of gS,rd1_of gO,rd1_of gX]);try simp only[yback])
  have o0:Way2 h h.length (.slice none 0 0) (.slice none 0 0) ⟨p,n,[],[]⟩:=⟨⟨fun r hr=>by simp at hr,.inl ⟨rfl,rfl⟩⟩,⟨fun r hr=>by simp at hr,.inl ⟨rfl,rfl⟩⟩⟩
  rw[show Value.agg #[I64 p,I64 n,.slice none 0 0,.slice none 0 0]=prgV ⟨p,n,[],[]⟩ (.slice none 0 0) (.slice none 0 0) from rfl]
  refine i_finished hp hn o0 (Nat.le_refl _) hu.stays (fun i hi=>⟨(isMat_iff.1 hmm i hi).2,by have:=(isMat_iff.1 hmm i hi).1;omega⟩) (by omega) (by simp) (by simp) fun v' w' H' sy o ob=>?_
  have pH:h<+:H':=sy.pre _ (Nat.le_refl _) (List.prefix_refl _)
  have ob:=ob (by omega)
  obtain⟨H2,e2,l2,g2,k2,pre2⟩:=tail (finP ⟨p,n,[],[]⟩ rows rows.length) v' w' H' pH
  have gO2:=k2 _ _ hne (pre_get pH gO)
  have lh:=pre_len pH
  have lt2:=get_lt gO2
  ((try simp (maxSteps:=3000000) (dsimp:=false) (disch:=first|omega|simp only[lnx];omega) only[↓ypre,ypost,↓reduceIte,reduceEqDiff,reduceAdd,reduceSub,reduceLeDiff,zz0,ynew,prgV,o.st.one,o.st.cells,o.out.one,o.out.cells,fillL]);try simp only[yback])
  refine⟨pH,?_⟩
  ((try simp (maxSteps:=3000000) (dsimp:=false) (disch:=first|omega|simp only[lnx];omega) only[↓ypre,ypost,↓reduceIte,reduceEqDiff,reduceAdd,reduceSub,reduceLeDiff,zz0,ynew,e2,wr_of gO2,xres_nil]);try simp only[yback])
  refine hQ _ (H'.length+1) v' w' _ (by omega) (by rw[len_put];omega) (by rw[get_put_ne (by omega)];exact g2) (get_put_same lt2) (((o.inP ob lh).mono (Nat.le_refl _) (by omega)).move fun m bl q1 q2 g=>?_) (fun m bl q1 q2 g=>by rw[get_put_ne (fun e=>q2 e.symm)];exact k2 m bl q1 (pre_get pH g)) (fun h0 q1 q2 q=>pre_put (pre2 h0 q1 (q.trans pH)) q2)
  rw[get_put_ne (by omega)]
  exact k2 m bl (by omega) g
theorem i_programsOf {v:Value} {x:Sch} {b:Bool} {h:AH} {Q:Value→AH→Prop} (hv:Prods h v x.ps) (hx:isX x=true) (h0:1≤x.ps.length)
  (hQ:∀ (nb c1 c2:Nat) (h':AH) (v1 w1 v2 w2 v3 w3:Value),h<+:h'→(∃ fl,h'.get nb=some ⟨prgC (pgX x b 0) v1 w1++prgC (pgX x b 1) v2 w2++prgC (pgX x b 2) v3 w3,70,false,fl⟩)→h.length≤c1→InP h.length c1 h' v1 w1 (pgX x b 0)→InP c1 c2 h' v2 w2 (pgX x b 1)→InP c2 nb h' v3 w3 (pgX x b 2)→Q (.slice (some ⟨nb,0,none⟩) 3 4) h'):WF S 170 [schV x v,.bool b] h Q:=by
 refine WF_fn (fn:=c170) rfl rfl ?_
 dsimp only[c170,oO,oM,oS,oG,oK,oE,oL,oF,oX,oN]
 obtain⟨z,hp,hl,ho⟩:=isX_facts hx
 have zn:=z.nm
 have zm:=z.mk2
 have zk:=z.nk
 ((try simp (maxSteps:=3000000) (dsimp:=false) (disch:=first|omega|simp only[lnx];omega) only[↓ypre,ypost,↓reduceIte,reduceEqDiff,reduceAdd,reduceSub,reduceLeDiff,zz0,ynew,schV,hv.one]);try simp only[yback])
 generalize hH1:AH.new h _=H1
 obtain⟨hb1,p1,n1⟩:=new_facts hH1
 generalize hH2:AH.new H1 _=H2
 obtain⟨hb2,p2,n2⟩:=new_facts hH2
 ((try simp (maxSteps:=3000000) (dsimp:=false) (disch:=first|omega|simp only[lnx];omega) only[↓ypre,ypost,↓reduceIte,reduceEqDiff,reduceAdd,reduceSub,reduceLeDiff,zz0,ynew,rdn_of (pre_get p2 hb1)]);try simp only[yback])
 refine i_placesOf (x:=x) hv.one z fun H3 p3=>?_
 ((try simp (maxSteps:=3000000) (dsimp:=false) (disch:=first|omega|simp only[lnx];omega) only[↓ypre,ypost,↓reduceIte,reduceEqDiff,reduceAdd,reduceSub,reduceLeDiff,zz0]);try simp only[yback])
 generalize hH4:AH.new H3 _=H4
 obtain⟨hb4,p4,n4⟩:=new_facts hH4
 generalize hH5:AH.new H4 _=H5
 obtain⟨hb5,p5,n5⟩:=new_facts hH5
 ((try simp (maxSteps:=3000000) (dsimp:=false) (disch:=first|omega|simp only[lnx];omega) only[↓ypre,ypost,↓reduceIte,reduceEqDiff,reduceAdd,reduceSub,reduceLeDiff,zz0,wr_of hb5]);try simp only[yback])
 generalize hHP:AH.put H5 _ _=HP
 have lP:HP.length=H5.length:=by rw[←hHP,len_put]
 rw[←lP]
 obtain⟨e5,g5⟩:∃ e5,HP.get H4.length=some ⟨[I64 (x.n*x.m),I64 (x.m*x.k),I64 (x.n*x.k)],e5,false,true⟩:=⟨_,by rw[←hHP];exact get_put_same (get_lt hb5)⟩
 have g4:HP.get H3.length=some ⟨[],70,false,true⟩:=by rw[←hHP,get_put_ne (by omega)];exact pre_get p5 hb4
 have pP:H3<+:HP:=by rw[←hHP];exact pre_put (p4.trans p5) (by omega)
 obtain⟨a,ha⟩:∃ a:Nat,x.n*x.m=a:=⟨(x.n*x.m).toNat,by omega⟩
 obtain⟨b',hb'⟩:∃ b':Nat,x.m*x.k=b':=⟨(x.m*x.k).toNat,by omega⟩
 obtain⟨c',hc'⟩:∃ c':Nat,x.n*x.k=c':=⟨(x.n*x.k).toNat,by omega⟩
 have eA:fmX x 0=lsF x 0 a:=by
  show lsF x 0 (x.n*x.m).toNat=_
  rw[ha,Int.toNat_natCast]
 have eB:fmX x 1=lsF x 1 b':=by
  show lsF x 1 (x.m*x.k).toNat=_
  rw[hb',Int.toNat_natCast]
 have eC:fmX x 2=trL (lsF x 2 c') c':=by
  show trL (lsF x 2 (x.n*x.k).toNat) (x.n*x.k).toNat=_
  rw[hc',Int.toNat_natCast]
 have okA:lsOK x.p (x.n*x.m) (fmX x 0)=true:=fmX_ok hv hx h0 (i:=0) (by omega)
 have okB:lsOK x.p (x.m*x.k) (fmX x 1)=true:=fmX_ok hv hx h0 (i:=1) (by omega)
 have okC:lsOK x.p (x.ps.length:Int) (fmX x 2)=true:=fmX_ok hv hx h0 (i:=2) (by omega)
 rw[ha] at g5 okA
 rw[hb'] at g5 okB
 rw[hc'] at g5
 rw[eA] at okA
 rw[eB] at okB
 have ia0:ixaV 3 1 (.pointer (some ⟨H4.length,0,none⟩)) (I64 0)=some (.pointer (some ⟨H4.length,0,none⟩)):=by
  have:=ixa_u (n:=H4.length) (off:=0) (len:=3) (kk:=.i64) (j:=0) (by omega)
  simpa using this
 have ia1:ixaV 3 1 (.pointer (some ⟨H4.length,0,none⟩)) (I64 1)=some (.pointer (some ⟨H4.length,1,none⟩)):=by
  have:=ixa_u (n:=H4.length) (off:=0) (len:=3) (kk:=.i64) (j:=1) (by omega)
  simpa using this
 have ia2:ixaV 3 1 (.pointer (some ⟨H4.length,0,none⟩)) (I64 2)=some (.pointer (some ⟨H4.length,2,none⟩)):=by
  have:=ixa_u (n:=H4.length) (off:=0) (len:=3) (kk:=.i64) (j:=2) (by omega)
  simpa using this
 ((try simp (maxSteps:=3000000) (dsimp:=false) (disch:=first|omega|simp only[lnx];omega) only[↓ypre,ypost,↓reduceIte,reduceEqDiff,reduceAdd,reduceSub,reduceLeDiff,zz0,ynew]);try simp only[yback])
 generalize hH6:AH.new HP _=H6
 obtain⟨hb6,p6,n6⟩:=new_facts hH6
 have p13:=((p1.trans p2).trans p3).trans (pP.trans p6)
 have x6:=pre_get (p2.trans (p3.trans (pP.trans p6))) hb1
 have s6:=pre_get (p3.trans (pP.trans p6)) hb2
 have g56:=pre_get p6 g5
 have g46:=pre_get p6 g4
 have hv6:=hv.pre p13
 have k3:=pre_len p3
 ((try simp (maxSteps:=3000000) (dsimp:=false) (disch:=first|omega|simp only[lnx];omega) only[↓ypre,ypost,↓reduceIte,reduceEqDiff,reduceAdd,reduceSub,reduceLeDiff,zz0,ynew,ia0,rd1_of g56,rdn_of x6]);try simp only[yback])
 refine i_lists (x:=x) (i:=0) (n:=a) hv6 hl (by omega) (by omega) fun u1 H7 p7 r1=>?_
 ((try simp (maxSteps:=3000000) (dsimp:=false) (disch:=first|omega|simp only[lnx];omega) only[↓ypre,ypost,↓reduceIte,reduceEqDiff,reduceAdd,reduceSub,reduceLeDiff,zz0,ynew,WK_func]);try simp only[yback])
 have k7:=pre_len p7
 have l3:=get_lt hb4
 have nP:=pre_len pP
 have pP3:H3<+:H6:=pP.trans p6
 refine⟨p7,?_⟩
 refine i_made (p:=x.p) (n:=a) (rows:=lsF x 0 a) (k:=0) (c:=[]) (ms:=H1.length) (mx:=h.length) (mo:=HP.length) (nb:=H3.length) (b:=b) r1 okA (pre_get p7 s6) (pre_get p7 x6) (pre_get p7 hb6) (pre_get p7 g46) rfl (by omega) (by omega) fun val1 nb1 v1 w1 H8 ln8 lt8 g8 gO8 i8 keep8 pre8=>?_
 have q38:H3<+:H8:=pre8 H3 (Nat.le_refl _) (by omega) (pP3.trans p7)
 have g58:=keep8 _ _ (by omega) (by omega) (pre_get p7 g56)
 have x3:=pre_get (p2.trans p3) hb1
 have s3:=pre_get p3 hb2
 have x8:=pre_get q38 x3
 have hv8:=hv6.pre (h':=H6) (List.prefix_refl _)
 have p3h:=(p1.trans p2).trans p3
 ((try simp (maxSteps:=3000000) (dsimp:=false) (disch:=first|omega|simp only[lnx];omega) only[↓ypre,ypost,↓reduceIte,reduceEqDiff,reduceAdd,reduceSub,reduceLeDiff,zz0,ynew,ia1,rd1_of g58,rdn_of x8]);try simp only[yback])
 refine i_lists (x:=x) (i:=1) (n:=b') (hv.pre (p3h.trans q38)) hl (by omega) (by omega) fun u2 H9 p9 r2=>?_
 ((try simp (maxSteps:=3000000) (dsimp:=false) (disch:=first|omega|simp only[lnx];omega) only[↓ypre,ypost,↓reduceIte,reduceEqDiff,reduceAdd,reduceSub,reduceLeDiff,zz0,ynew,WK_func]);try simp only[yback])
 refine⟨p9,?_⟩
 have k9:=pre_len p9
 have h3lt:=pre_len p3h
 have x9:=pre_get p9 x8
 have s9:=pre_get (q38.trans p9) s3
 have ltx:=get_lt hb1
 have lts:=get_lt hb2
 have ka:=pre_len p1
 have kb:=pre_len p2
 refine i_made (p:=x.p) (n:=b') (rows:=lsF x 1 b') (k:=1) (ms:=H1.length) (mx:=h.length) (mo:=HP.length) (nb:=nb1) (b:=b) r2 okB s9 x9 (pre_get p9 gO8) (pre_get p9 g8) rfl (by omega) (by omega) fun val2 nb2 v2 w2 H10 ln10 lt10 g10 gO10 i10 keep10 pre10=>?_
 have q310:H3<+:H10:=pre10 H3 (by omega) (by omega) (q38.trans p9)
 have g510:=keep10 _ _ (by omega) (by omega) (pre_get p9 g58)
 have x10:=pre_get q310 x3
 have i8':=(i8.pre p9).move (h':=H10) fun m bl e1 e2 g=>keep10 m bl (by omega) (by omega) g
 ((try simp (maxSteps:=3000000) (dsimp:=false) (disch:=first|omega|simp only[lnx];omega) only[↓ypre,ypost,↓reduceIte,reduceEqDiff,reduceAdd,reduceSub,reduceLeDiff,zz0,ynew,rd1_of x10,rdn_of x10,ia2,rd1_of g510,(hv.pre (p3h.trans q310)).1.len]);try simp only[yback])
 refine i_lists (x:=x) (i:=2) (n:=c') (hv.pre (p3h.trans q310)) hl (by omega) (by omega) fun u3 H11 p11 r3=>?_
 ((try simp (maxSteps:=3000000) (dsimp:=false) (disch:=first|omega|simp only[lnx];omega) only[↓ypre,ypost,↓reduceIte,reduceEqDiff,reduceAdd,reduceSub,reduceLeDiff,zz0,ynew]);try simp only[yback])
 refine⟨p11,?_⟩
 refine i_transposed (rows:=lsF x 2 c') (w:=c') r3 (by rw[lsF_len];omega) (by rw[lsF_len];omega) (fun i hi=>?_) (by omega) fun u4 H12 p12 r4=>?_
 ·rw[lsF_len] at hi
  rw[lsF_get hi,List.length_take,((hv.by hi).seg (by omega)).1]
  omega
 rw[←eC] at r4
 have p1012:=p11.trans p12
 have k12:=pre_len p1012
 refine⟨p12,?_⟩
 ((try simp (maxSteps:=3000000) (dsimp:=false) (disch:=first|omega|simp only[lnx];omega) only[↓ypre,ypost,↓reduceIte,reduceEqDiff,reduceAdd,reduceSub,reduceLeDiff,zz0,ynew,WK_func]);try simp only[yback])
 refine i_made (p:=x.p) (n:=(x.ps.length:Int)) (rows:=fmX x 2) (k:=2) (ms:=H1.length) (mx:=h.length) (mo:=HP.length) (nb:=nb2) (b:=b) r4.rows okC (pre_get (q310.trans p1012) s3) (pre_get p1012 x10) (pre_get p1012 gO10) (pre_get p1012 g10) rfl (by omega) (by omega) fun val3 nb3 v3 w3 H13 ln13 lt13 g13 gO13 i13 keep13 pre13=>?_
 have q313:H3<+:H13:=pre13 H3 (by omega) (by omega) (q310.trans p1012)
 have i8'':=(i8'.pre p1012).move (h':=H13) fun m bl e1 e2 g=>keep13 m bl (by omega) (by omega) g
 have i10':=(i10.pre p1012).move (h':=H13) fun m bl e1 e2 g=>keep13 m bl (by omega) (by omega) g
 ((try simp (maxSteps:=3000000) (dsimp:=false) (disch:=first|omega|simp only[lnx];omega) only[↓ypre,ypost,↓reduceIte,reduceEqDiff,reduceAdd,reduceSub,reduceLeDiff,zz0,ynew,rd1_of gO13]);try simp only[yback])
 have E0:pgO x.p (a:Int) (lsF x 0 a) b=pgX x b 0:=by
  rw[←ha,←eA]
  rfl
 have E1:pgO x.p (b':Int) (lsF x 1 b') b=pgX x b 1:=by
  rw[←hb',←eB]
  rfl
 have E2:pgO x.p (x.ps.length:Int) (fmX x 2) b=pgX x b 2:=rfl
 rw[E0,E1,E2,List.nil_append] at g13
 rw[E0] at i8''
 rw[E1] at i10'
 rw[E2] at i13
 exact hQ nb3 nb1 nb2 _ v1 w1 v2 w2 v3 w3 (p3h.trans q313) ⟨_,g13⟩ (by omega) (i8''.mono (by omega) (Nat.le_refl _)) (i10'.mono (by omega) (Nat.le_refl _)) (i13.mono (by omega) (Nat.le_refl _))
end Go.Proofs.Ytapafdpnmakekaa.X

set_option linter.unusedVariables false
set_option linter.unusedSimpArgs false
set_option maxRecDepth 20000
set_option maxHeartbeats 4000000
namespace Go.Proofs.Ytapafdpnmakekaa.X
open Go Go.RowKit
def StV (p n:Int) (st:List (List Int)):Prop:=∀ i,i<st.length→okStep p (n+(i:Nat)) (st.getD i [])=true
def OuV (p m:Int) (out:List (List Int)):Prop:=∀ i,i<out.length→∃ a b,out.getD i []=[a,b]∧0≤a∧a<m∧0≤b∧b<p∧¬ (b=0∧a≠0)
theorem OuV.mono {p m m':Int} {out:List (List Int)} (o:OuV p m out) (h:m≤m'):OuV p m' out:=fun i hi=>by
 obtain⟨a,b,e,h1,h2,h3⟩:=o i hi
 exact⟨a,b,e,h1,by omega,h3⟩
theorem StV.app {p n:Int} {st:List (List Int)} {q:List Int} (o:StV p n st) (hq:okStep p (n+(st.length:Nat)) q=true):StV p n (st++[q]):=fun i hi=>by
 rw[List.length_append,List.length_singleton] at hi
 by_cases e:i=st.length
 ·subst e
  rw[getD_app_r (Nat.le_refl _),Nat.sub_self]
  exact hq
 ·rw[getD_app_l (by omega)]
  exact o i (by omega)
theorem OuV.app {p m a b:Int} {out:List (List Int)} (o:OuV p m out) (h:0≤a∧a<m∧0≤b∧b<p∧¬ (b=0∧a≠0)):OuV p m (out++[[a,b]]):=fun i hi=>by
 rw[List.length_append,List.length_singleton] at hi
 by_cases e:i=out.length
 ·subst e
  rw[getD_app_r (Nat.le_refl _),Nat.sub_self]
  exact⟨a,b,rfl,h⟩
 ·rw[getD_app_l (by omega)]
  exact o i (by omega)
structure RSV (p n:Int) (st0:List (List Int)) (row:List Int) (k:Nat) (s:RS):Prop where
 sv:StV p n s.st
 ge:st0.length≤s.st.length
 le:s.st.length≤st0.length+cntB (fun i=>decide (row.getD i 0≠0)) k
 fac:0≤s.fac∧s.fac<p
 vf:s.val<0↔s.fac=0
 v1:-1≤s.val∧s.val<n+s.st.length
 v2:s.val<k∨(row.length:Int)≤s.val
theorem rowSt_valid {p n:Int} {st0:List (List Int)} {row:List Int} (hp:isP p=true) (hr:allIn p row=true) (hn:1≤n) (hW:(row.length:Int)≤n+st0.length) (hs:StV p n st0):∀ {k:Nat},k≤row.length→RSV p n st0 row k (rowSt p n st0 row k)
 | 0,_=>by
  have:=isP_in hp
  unfold rowSt
  refine⟨hs,Nat.le_refl _,by simp[cntB],by simp only;omega,by simp,by simp only;omega,by simp⟩
 | k+1,hk=>by
  have ih:=rowSt_valid hp hr hn hW hs (k:=k) (by omega)
  have hrk:=allIn_iff.1 hr k (by omega)
  unfold rowSt
  simp only
  generalize rowSt p n st0 row k=s at *
  obtain⟨sv,ge,le,fac,vf,v1,v2⟩:=ih
  have ec:cntB (fun i=>decide (row.getD i 0≠0)) (k+1)=cntB (fun i=>decide (row.getD i 0≠0)) k+(if decide (row.getD k 0≠0)=true then 1 else 0):=rfl
  by_cases h0:row.getD k 0=0
  ·rw[if_pos h0]
   exact⟨sv,ge,by rw[ec];omega,fac,vf,v1,by omega⟩
  rw[if_neg h0]
  rw[if_pos (decide_eq_true h0)] at ec
  by_cases h1:s.val<0
  ·rw[if_pos h1]
   refine⟨sv,ge,by rw[ec];show s.st.length≤_;omega,by simp only;omega,by simp only;omega,by simp only;omega,by simp only;omega⟩
  ·rw[if_neg h1]
   have hf:s.fac≠0:=fun e=>h1 (vf.2 e)
   obtain⟨w1,w2,_⟩:=invP_is hp (n:=s.fac) (by omega)
   have nz:=mul_nz hp (a:=row.getD k 0) (r:=invP p s.fac) (by omega) ⟨w1,w2⟩
   have hok:okStep p (n+(s.st.length:Nat)) [s.val,(k:Int),(row.getD k 0*invP p s.fac).tmod p]=true:=by
    rw[okStep_3,decide_eq_true_eq]
    omega
   refine⟨sv.app hok,by simp;omega,by rw[ec];simp only[List.length_append,List.length_singleton];omega,fac,by simp only[List.length_append,List.length_singleton];omega,by simp only[List.length_append,List.length_singleton];omega,?_⟩
   right
   simp only
   omega
structure FV (p n:Int) (x:Prg):Prop where
 ep:x.p=p
 en:x.n=n
 sv:StV p n x.st
 ov:OuV p (n+x.st.length) x.out
theorem finP_valid {p n:Int} {x:Prg} {rows:List (List Int)} (hp:isP p=true) (hr:∀ i,i<rows.length→allIn p (rows.getD i [])=true∧((rows.getD i []).length:Int)≤n+x.st.length) (hn:1≤n) (hx:FV p n x):∀ {i:Nat},i≤rows.length →
  FV p n (finP x rows i)∧x.st.length≤(finP x rows i).st.length∧(finP x rows i).st.length≤x.st.length+sumN (fun k=>nzR (rows.getD k [])) i
 | 0,_=>⟨hx,Nat.le_refl _,by simp[finP,sumN]⟩
 | i+1,hi=>by
  obtain⟨⟨e1,e2,sv,ov⟩,g1,g2⟩:=finP_valid hp hr hn hx (i:=i) (by omega)
  obtain⟨r1,r2⟩:=hr i (by omega)
  have v:=rowSt_valid (st0:=(finP x rows i).st) (row:=rows.getD i []) hp r1 hn (by omega) sv (k:=(rows.getD i []).length) (Nat.le_refl _)
  have es:finP x rows (i+1)=rowP (finP x rows i) (rows.getD i []):=rfl
  rw[es]
  unfold rowP
  rw[e1,e2]
  simp only
  generalize rowSt p n (finP x rows i).st (rows.getD i []) (rows.getD i []).length=s at *
  obtain⟨v1,v2,v3,v4,v5,v6,v7⟩:=v
  refine⟨⟨rfl,rfl,v1,?_⟩,by show x.st.length≤s.st.length;omega,?_⟩
  ·refine (ov.mono (by show n+_≤n+(s.st.length:Int);omega)).app ?_
   have hmax:max s.val 0=if s.val<0 then 0 else s.val:=by
    split<;>omega
   rw[hmax]
   by_cases h:s.val<0
   ·rw[if_pos h]
    show 0≤(0:Int)∧(0:Int)<n+(s.st.length:Int)∧_
    omega
   ·rw[if_neg h]
    show 0≤s.val∧s.val<n+(s.st.length:Int)∧_
    omega
  ·have e3:sumN (fun k=>nzR (rows.getD k [])) (i+1)=sumN (fun k=>nzR (rows.getD k [])) i+nzR (rows.getD i []):=rfl
   have e4:nzR (rows.getD i [])=cntB (fun j=>decide ((rows.getD i []).getD j 0≠0)) (rows.getD i []).length:=rfl
   rw[e3,e4]
   show s.st.length≤_
   omega
theorem FV.isPrg {p n:Int} {x:Prg} (o:FV p n x) (hp:isP p=true) (hn:1≤n∧n≤30) (hs:x.st.length≤900) (ho:1≤x.out.length∧x.out.length≤30):isPrg x=true:=by
 obtain⟨rfl,rfl,sv,ov⟩:=o
 refine isPrg_all ?_ sv fun i hi=>?_
 ·unfold headP
  rw[hp,Bool.true_and]
  exact decide_eq_true ⟨hn.1,hn.2,hs,ho.1,ho.2⟩
 ·obtain⟨a,b,e,h⟩:=ov i hi
  rw[e,okOut_2,decide_eq_true_eq]
  exact h
theorem finP_isPrg {p n:Int} {rows:List (List Int)} (h:lsOK p n rows=true):isPrg (finP ⟨p,n,[],[]⟩ rows rows.length)=true:=by
 obtain⟨hp,hn,hl,hm⟩:=lsOK_iff.1 h
 have nz:=(ShI.start h).nz
 simp only[List.length_nil,Nat.zero_add] at nz
 obtain⟨v,g1,g2⟩:=finP_valid (x:=⟨p,n,[],[]⟩) (rows:=rows) hp (fun i hi=>⟨(isMat_iff.1 hm i hi).2,by have:=(isMat_iff.1 hm i hi).1;simp only[List.length_nil];omega⟩) hn.1 ⟨rfl,rfl,fun i hi=>by simp at hi,fun i hi=>by simp at hi⟩ (i:=rows.length) (Nat.le_refl _)
 have hout:=(finP_facts (x:=⟨p,n,[],[]⟩) (rows:=rows) (N:=30) hp (fun i hi=>⟨(isMat_iff.1 hm i hi).2,by have:=(isMat_iff.1 hm i hi).1;omega⟩) hn (i:=rows.length) (Nat.le_refl _)).2.2.2
 simp only[List.length_nil,Nat.zero_add] at hout g2
 have e:sumN (fun k=>nzR (rows.getD k [])) rows.length=nzT rows:=rfl
 exact v.isPrg hp hn (by omega) (by omega)
theorem shF_valid {p:Int} {N:Nat} {rows:List (List Int)} (hp:isP p=true) (hT:1≤rows.length):∀ (f:Nat) (s:SS),ShI p N rows s→StV p (N:Int) s.st→StV p (N:Int) (shF p f s).st
 | 0,s,_,hs=>hs
 | f+1,s,i,hs=>by
  unfold shF
  by_cases h:2≤(bst p s.T).m
  ·rw[if_pos h]
   have b:=bst_ok hp i.gt (by rw[i.len];exact hT) h
   refine shF_valid hp hT f _ (i.go hp hT h).1 (hs.app ?_)
   rw[okStep_3,decide_eq_true_eq]
   omega
  ·rw[if_neg h]
   exact hs
theorem shP_isPrg {p n:Int} {rows:List (List Int)} (h:lsOK p n rows=true):isPrg (shP p n rows)=true:=by
 obtain⟨hp,hn,hl,hm⟩:=lsOK_iff.1 h
 have si:=shS_facts h
 have hN:((n.toNat:Nat):Int)=n:=by omega
 have sv:StV p ((n.toNat:Nat):Int) (shS p rows).st:=shF_valid hp (by omega) (nzT rows) ⟨rows,[]⟩ (ShI.start h) (fun i hi=>by simp at hi)
 rw[hN] at sv
 have nz:=si.nz
 have len:=si.len
 have rr:∀ i,i<(shS p rows).T.length→allIn p ((shS p rows).T.getD i [])=true∧(((shS p rows).T.getD i []).length:Int)≤n+(shS p rows).st.length:=fun i hi=>by
  obtain⟨g1,g2⟩:=si.gt i hi
  exact⟨allIn_iff.2 fun j hj=>g2 j (by omega),by omega⟩
 obtain⟨v,g1,g2⟩:=finP_valid (x:=⟨p,n,(shS p rows).st,[]⟩) (rows:=(shS p rows).T) hp rr hn.1 ⟨rfl,rfl,sv,fun i hi=>by simp at hi⟩ (i:=(shS p rows).T.length) (Nat.le_refl _)
 have hout:=(finP_facts (x:=⟨p,n,(shS p rows).st,[]⟩) (rows:=(shS p rows).T) (N:=10000) hp (fun i hi=>⟨(rr i hi).1,by have:=(rr i hi).2;omega⟩) hn (i:=(shS p rows).T.length) (Nat.le_refl _)).2.2.2
 simp only[List.length_nil,Nat.zero_add] at hout g2
 have e:sumN (fun k=>nzR ((shS p rows).T.getD k [])) (shS p rows).T.length=nzT (shS p rows).T:=rfl
 exact v.isPrg hp hn (by omega) (by omega)
theorem pgX_isPrg {h:AH} {v:Value} {x:Sch} {b:Bool} (hv:Prods h v x.ps) (hx:isX x=true) (h0:1≤x.ps.length) {i:Nat} (hi:i<3):isPrg (pgX x b i)=true:=by
 have ok:=fmX_ok hv hx h0 hi
 unfold pgX pgO
 cases b with
 | true=>exact shP_isPrg ok
 | false=>exact finP_isPrg ok
end Go.Proofs.Ytapafdpnmakekaa.X

set_option linter.unusedVariables false
set_option linter.unusedSimpArgs false
set_option maxRecDepth 20000
set_option maxHeartbeats 4000000
namespace Go.Proofs.Ytapafdpnmakekaa.X
open Go Go.RowKit
open Nat (reduceEqDiff reduceAdd reduceSub reduceLeDiff)
def dot (q ns:List Int):Nat→Int
 | 0=>0
 | j+1=>dot q ns j+q.getD j 0*ns.getD j 0
@[simp] theorem dot_0 {q ns:List Int}:dot q ns 0=0:=rfl
theorem dot_in {q ns:List Int} {p:Int} (hq:By 9 q) (hn:allIn p ns=true) (hp:2≤p∧p≤5):∀ {j:Nat},j≤ns.length→j≤9→0≤dot q ns j∧dot q ns j≤j*1275
 | 0,_,_=>by simp[dot]
 | j+1,h1,h2=>by
  have ih:=dot_in hq hn hp (j:=j) (by omega) (by omega)
  have b1:=hq.2 j (by omega)
  have b2:=allIn_iff.1 hn j (by omega)
  have m1:=Int.mul_nonneg b1.1 b2.1
  have m2:q.getD j 0*ns.getD j 0≤255*5:=Int.le_trans (Int.mul_le_mul_of_nonneg_right (show q.getD j 0≤255 by omega) b2.1) (Int.mul_le_mul_of_nonneg_left (by omega) (by decide))
  simp only[dot]
  omega
theorem i_atF {p:Int} {q ns:List Int} {v:Value} {h:AH} {Q:Value→AH→Prop} (hq:By 9 q) (hv:Ints h v ns) (hl:ns.length≤9) (hn:allIn p ns=true) (hp:2≤p∧p≤5)
  (hQ:∀ h',h<+:h'→Q (I64 ((dot q ns ns.length).tmod p)) h'):WF S 286 [I64 p,aggV .u8 q,v] h Q:=by
 refine WF_fn (fn:=c286) rfl rfl ?_
 dsimp only[c286,oO,oM,oS,oG,oK,oE,oL,oF,oX,oN]
 ((try simp (maxSteps:=3000000) (dsimp:=false) (disch:=first|omega|simp only[lnx];omega) only[↓ypre,ypost,↓reduceIte,reduceEqDiff,reduceAdd,reduceSub,reduceLeDiff,zz0,ynew,aggV,cel_all,cellsL_cel]);try simp only[yback])
 generalize hH1:AH.new h _=H1
 obtain⟨hb1,p1,n1⟩:=new_facts hH1
 have hq1:=hq.1
 have hv1:=hv.pre p1
 ((try simp (maxSteps:=3000000) (dsimp:=false) (disch:=first|omega|simp only[lnx];omega) only[↓ypre,ypost,↓reduceIte,reduceEqDiff,reduceAdd,reduceSub,reduceLeDiff,zz0,ynew,hv.len]);try simp only[yback])
 refine WC_loop_inv (fun m f K1=>∃ (i:Nat),m=ns.length-i∧i≤ns.length∧f 0=I64 p∧f 4=.pointer (some ⟨h.length,0,none⟩)∧f 7=I64 (dot q ns i)∧f 10=v∧f 11=I64 ns.length∧f 12=I64 i∧K1=H1) ?_ (ns.length-0) _ _ ⟨0,rfl,by omega,(by first|rfl|simp[upd_apply]),(by first|rfl|simp[upd_apply]),(by first|rfl|simp[upd_apply]),(by first|rfl|simp[upd_apply]),(by first|rfl|simp[upd_apply]),(by first|rfl|simp[upd_apply]),rfl⟩
 rintro m f K1 ⟨i,rfl,hi,f0,f4,f7,f10,f11,f12,rfl⟩
 by_cases hlt:(i:Int)<ns.length
 ·have hi':i<ns.length:=by omega
  obtain⟨n1',off1,hix1,hrd1⟩:=hv1.cell hi'
  have g1:=cel_get (k:=.u8) (q:=q) (j:=i) (by omega)
  have ixa:=ixa_u (n:=h.length) (off:=0) (len:=9) (kk:=.i64) (j:=i) (by omega)
  rw[Nat.zero_add] at ixa
  have b0:=dot_in hq hn hp (j:=i) (by omega) (by omega)
  have b1:=dot_in hq hn hp (j:=i+1) (by omega) (by omega)
  have b2:=hq.2 i (by omega)
  have b3:=allIn_iff.1 hn i hi'
  simp only[dot] at b1
  have b4:0≤q.getD i 0*ns.getD i 0:=Int.mul_nonneg b2.1 b3.1
  ((try simp (maxSteps:=3000000) (dsimp:=false) (disch:=first|omega|simp only[lnx];omega) only[↓ypre,ypost,↓reduceIte,reduceEqDiff,reduceAdd,reduceSub,reduceLeDiff,zz0,ynew,f0,f4,f7,f10,f11,f12,decide_eq_true hlt,hix1,hrd1,ixa,rd1_of hb1,g1,wrap64_in]);try simp only[yback])
  refine InvQ_go (ns.length-(i+1)) (by omega) ⟨(i+1),rfl,by omega,(by first|rfl|exact f0|(simp only[upd_apply];rfl)|(show I64 _=_;congr 1;omega)),(by first|rfl|exact f4|(simp only[upd_apply];rfl)|(show I64 _=_;congr 1;omega)),(by first|rfl|exact f7|(simp only[upd_apply];rfl)|(show I64 _=_;congr 1;omega)),(by first|rfl|exact f10|(simp only[upd_apply];rfl)|(show I64 _=_;congr 1;omega)),(by first|rfl|exact f11|(simp only[upd_apply];rfl)|(show I64 _=_;congr 1;omega)),(by first|rfl|exact f12|(simp only[upd_apply];rfl)|(show I64 _=_;congr 1;omega)),rfl⟩
 have ei:i=ns.length:=by omega
 subst ei
 ((try simp (maxSteps:=3000000) (dsimp:=false) (disch:=first|omega|simp only[lnx];omega) only[↓ypre,ypost,↓reduceIte,reduceEqDiff,reduceAdd,reduceSub,reduceLeDiff,zz0,ynew,f0,f4,f7,f10,f11,f12,decide_eq_false hlt]);try simp only[yback])
 ((try simp (maxSteps:=3000000) (dsimp:=false) (disch:=first|omega|simp only[lnx];omega) only[↓ypre,ypost,↓reduceIte,reduceEqDiff,reduceAdd,reduceSub,reduceLeDiff,zz0,ynew,f0,f4,f7,f10,f11,f12,bin_rem (show p≠0 by omega)]);try simp only[yback])
 exact hQ _ p1
theorem flat_at {w i k:Nat} {L:List (List Int)} (hw:Wid w L) (hi:i<L.length) (hk:k<w):L.flatten.getD (i*w+k) 0=(L.getD i []).getD k 0:=by
 have hf:=flat_get hw hi
 have h1:=congrArg (fun l=>l[k]?) hf
 simp only[List.getElem?_take,hk,if_true,List.getElem?_drop] at h1
 rw[List.getD_eq_getElem?_getD,h1]
 rfl
theorem allIn_flat {w:Nat} {p:Int} {L:List (List Int)} (hm:isMat p w L=true):allIn p L.flatten=true:=by
 simp only[allIn,List.all_eq_true,List.mem_flatten]
 rintro x ⟨r,hr,hx⟩
 simp only[isMat,List.all_eq_true,Bool.and_eq_true] at hm
 have:=(hm r hr).2
 simp only[allIn,List.all_eq_true] at this
 exact this x hx
theorem isMat_wid {w:Nat} {p:Int} {L:List (List Int)} (hm:isMat p w L=true):Wid w L:=wid_of fun i hi=>by
 have:=(isMat_iff.1 hm i hi).1
 omega
end Go.Proofs.Ytapafdpnmakekaa.X

set_option linter.unusedVariables false
set_option linter.unusedSimpArgs false
set_option maxRecDepth 20000
set_option maxHeartbeats 4000000
namespace Go.Proofs.Ytapafdpnmakekaa.X
open Go Go.RowKit
def Vf (p:Int) (st:List (List Int)) (ns:List Int):List Int:=valS p st ns st.length
theorem Vf_len {p:Int} {st:List (List Int)} {ns:List Int}:(Vf p st ns).length=ns.length+st.length:=valS_len
theorem valS_app {p:Int} {st t:List (List Int)} {ns:List Int}:∀ {i:Nat},i≤st.length→valS p (st++t) ns i=valS p st ns i
 | 0,_=>rfl
 | i+1,h=>by
  simp only[valS]
  rw[valS_app (i:=i) (by omega),getD_app_l (by omega)]
theorem Vf_snoc {p:Int} {st:List (List Int)} {ns:List Int} {a b:Nat} {d:Int}:Vf p (st++[[(a:Int),(b:Int),d]]) ns=Vf p st ns++[((Vf p st ns).getD a 0+d*(Vf p st ns).getD b 0).tmod p]:=by
 unfold Vf
 rw[List.length_append,List.length_singleton]
 simp only[valS]
 rw[valS_app (Nat.le_refl _),getD_app_r (Nat.le_refl _),Nat.sub_self]
 rfl
theorem dot_congr {q ns ms:List Int}:∀ {k:Nat},(∀ i,i<k→ns.getD i 0=ms.getD i 0)→dot q ns k=dot q ms k
 | 0,_=>rfl
 | k+1,h=>by
  simp only[dot]
  rw[dot_congr (k:=k) fun i hi=>h i (by omega),h k (by omega)]
theorem rowSt_val {p n:Int} {st0:List (List Int)} {row ns:List Int} (hp:isP p=true) (hr:allIn p row=true) (hn:1≤n) (hnl:(ns.length:Int)=n) (hW:(row.length:Int)≤n+st0.length) (hs:StV p n st0):∀ {k:Nat},k≤row.length →
  (∀ i,i<(Vf p st0 ns).length→(Vf p (rowSt p n st0 row k).st ns).getD i 0=(Vf p st0 ns).getD i 0)∧p∣(rowSt p n st0 row k).fac*(Vf p (rowSt p n st0 row k).st ns).getD (rowSt p n st0 row k).val.toNat 0-dot row (Vf p st0 ns) k
 | 0,_=>by
  refine⟨fun i _=>rfl,?_⟩
  simp[rowSt]
 | k+1,hk=>by
  have ih:=rowSt_val (ns:=ns) hp hr hn hnl hW hs (k:=k) (by omega)
  have v:=rowSt_valid hp hr hn hW hs (k:=k) (by omega)
  have hrk:=allIn_iff.1 hr k (by omega)
  have ed:dot row (Vf p st0 ns) (k+1)=dot row (Vf p st0 ns) k+row.getD k 0*(Vf p st0 ns).getD k 0:=rfl
  have l0:=Vf_len (p:=p) (st:=st0) (ns:=ns)
  rw[ed]
  unfold rowSt
  simp only
  generalize rowSt p n st0 row k=s at *
  obtain⟨i1,i2⟩:=ih
  obtain⟨sv,ge,le,fac,vf,v1,v2⟩:=v
  have l1:=Vf_len (p:=p) (st:=s.st) (ns:=ns)
  by_cases h0:row.getD k 0=0
  ·rw[if_pos h0]
   refine⟨i1,?_⟩
   rw[h0,Int.zero_mul,Int.add_zero]
   exact i2
  rw[if_neg h0]
  by_cases h1:s.val<0
  ·rw[if_pos h1]
   refine⟨i1,?_⟩
   rw[vf.1 h1,Int.zero_mul] at i2
   simp only[Int.toNat_natCast]
   rw[i1 k (by omega)]
   obtain⟨q,hq⟩:=i2
   exact⟨q,by omega⟩
  rw[if_neg h1]
  have hf:s.fac≠0:=fun e=>h1 (vf.2 e)
  obtain⟨w1,w2,w3,_⟩:=invP_is hp (n:=s.fac) (by omega)
  obtain⟨A,hA⟩:∃ A:Nat,s.val=A:=⟨s.val.toNat,by omega⟩
  rw[hA,Int.toNat_natCast] at i2
  have eV:Vf p (s.st++[[s.val,(k:Int),(row.getD k 0*invP p s.fac).tmod p]]) ns=Vf p s.st ns++[((Vf p s.st ns).getD A 0+(row.getD k 0*invP p s.fac).tmod p*(Vf p s.st ns).getD k 0).tmod p]:=by
   rw[hA]
   exact Vf_snoc
  simp only
  rw[eV]
  refine⟨fun i hi=>by rw[getD_app_l (by omega)];exact i1 i hi,?_⟩
  have ei:(n+((s.st.length:Int)+1)-1).toNat=(Vf p s.st ns).length:=by omega
  rw[ei,getD_app_r (Nat.le_refl _),Nat.sub_self,i1 k (by omega)]
  show p∣s.fac*((Vf p s.st ns).getD A 0+(row.getD k 0*invP p s.fac).tmod p*(Vf p st0 ns).getD k 0).tmod p-_
  obtain⟨q1,e1⟩:=i2
  obtain⟨q2,e2⟩:=tmod_dvd ((Vf p s.st ns).getD A 0+(row.getD k 0*invP p s.fac).tmod p*(Vf p st0 ns).getD k 0) p
  obtain⟨q3,e3⟩:=tmod_dvd (row.getD k 0*invP p s.fac) p
  obtain⟨q4,e4⟩:=inv_dvd (show IsInv p s.fac (invP p s.fac) from invP_is hp (by omega))
  generalize ((Vf p s.st ns).getD A 0+(row.getD k 0*invP p s.fac).tmod p*(Vf p st0 ns).getD k 0).tmod p=x at *
  generalize (row.getD k 0*invP p s.fac).tmod p=f at *
  generalize (Vf p s.st ns).getD A 0=a at *
  generalize (Vf p st0 ns).getD k 0=b at *
  generalize row.getD k 0=r at *
  generalize invP p s.fac=w at *
  exact⟨q1-s.fac*q2-s.fac*b*q3+r*b*q4,by grind⟩
theorem getD_in {p:Int} {ns:List Int} (hp:1≤p) (h:allIn p ns=true) (j:Nat):0≤ns.getD j 0∧ns.getD j 0<p:=by
 by_cases hj:j<ns.length
 ·exact allIn_iff.1 h j hj
 ·rw[List.getD_eq_getElem?_getD,List.getElem?_eq_none (by omega)]
  simp
  omega
theorem valS_nn {p n:Int} {st:List (List Int)} {ns:List Int} (hp:1≤p) (hs:StV p n st) (hn:allIn p ns=true):∀ {i:Nat},i≤st.length→allIn p (valS p st ns i)=true
 | 0,_=>hn
 | i+1,hi=>by
  have ih:=valS_nn hp hs hn (i:=i) (by omega)
  have h1:=hs i (by omega)
  unfold okStep at h1
  rw[decide_eq_true_eq] at h1
  simp only[valS]
  refine allIn_app ih (tmod_nn ?_ (by omega))
  have a:=getD_in hp ih (nq (st.getD i []) 0)
  have b:=getD_in hp ih (nq (st.getD i []) 1)
  have:=Int.mul_nonneg (show 0≤(st.getD i []).getD 2 0 by omega) b.1
  omega
theorem Vf_in {p n:Int} {st:List (List Int)} {ns:List Int} (hp:1≤p) (hs:StV p n st) (hn:allIn p ns=true):allIn p (Vf p st ns)=true:=valS_nn hp hs hn (Nat.le_refl _)
theorem dot_nn {p:Int} {q ns:List Int} (hp:1≤p) (hq:allIn p q=true) (hn:allIn p ns=true):∀ {k:Nat},0≤dot q ns k
 | 0=>Int.le_refl _
 | k+1=>by
  have ih:=dot_nn hp hq hn (k:=k)
  have:=Int.mul_nonneg (getD_in hp hq k).1 (getD_in hp hn k).1
  simp only[dot]
  omega
structure OutV (p:Int) (T:List (List Int)) (V0 V:List Int) (out:List (List Int)) (i:Nat):Prop where
 len:out.length=i
 pre:∀ a,a<V0.length→V.getD a 0=V0.getD a 0
 val:∀ j,j<i→nq (out.getD j []) 0<V.length∧0≤(out.getD j []).getD 1 0∧p∣(out.getD j []).getD 1 0*V.getD (nq (out.getD j []) 0) 0-dot (T.getD j []) V0 (T.getD j []).length
theorem finP_val {p n:Int} {st0:List (List Int)} {T:List (List Int)} {ns:List Int} (hp:isP p=true) (hn:1≤n) (hnl:(ns.length:Int)=n) (hs:StV p n st0)
  (hr:∀ i,i<T.length→allIn p (T.getD i [])=true∧((T.getD i []).length:Int)≤n+st0.length):∀ {i:Nat},i≤T.length→OutV p T (Vf p st0 ns) (Vf p (finP ⟨p,n,st0,[]⟩ T i).st ns) (finP ⟨p,n,st0,[]⟩ T i).out i
 | 0,_=>⟨rfl,fun _ _=>rfl,fun j hj=>by omega⟩
 | i+1,hi=>by
  have ih:=finP_val hp hn hnl hs hr (i:=i) (by omega)
  obtain⟨⟨e1,e2,sv,ov⟩,g1,g2⟩:=finP_valid (x:=⟨p,n,st0,[]⟩) (rows:=T) hp hr hn ⟨rfl,rfl,hs,fun i hi=>by simp at hi⟩ (i:=i) (by omega)
  obtain⟨r1,r2⟩:=hr i (by omega)
  simp only at g1
  have v:=rowSt_valid (st0:=(finP ⟨p,n,st0,[]⟩ T i).st) (row:=T.getD i []) hp r1 hn (by omega) sv (k:=(T.getD i []).length) (Nat.le_refl _)
  obtain⟨w1,w2⟩:=rowSt_val (st0:=(finP ⟨p,n,st0,[]⟩ T i).st) (row:=T.getD i []) (ns:=ns) hp r1 hn hnl (by omega) sv (k:=(T.getD i []).length) (Nat.le_refl _)
  have es:finP ⟨p,n,st0,[]⟩ T (i+1)=rowP (finP ⟨p,n,st0,[]⟩ T i) (T.getD i []):=rfl
  rw[es]
  unfold rowP
  rw[e1,e2]
  simp only
  obtain⟨len,pre,val⟩:=ih
  have L0:=Vf_len (p:=p) (st:=st0) (ns:=ns)
  have L1:=Vf_len (p:=p) (st:=(finP ⟨p,n,st0,[]⟩ T i).st) (ns:=ns)
  have ec:dot (T.getD i []) (Vf p (finP ⟨p,n,st0,[]⟩ T i).st ns) (T.getD i []).length=dot (T.getD i []) (Vf p st0 ns) (T.getD i []).length:=dot_congr fun a ha=>pre a (by omega)
  rw[ec] at w2
  generalize rowSt p n (finP ⟨p,n,st0,[]⟩ T i).st (T.getD i []) (T.getD i []).length=s at *
  obtain⟨v1,v2,v3,v4,v5,v6,v7⟩:=v
  have L2:=Vf_len (p:=p) (st:=s.st) (ns:=ns)
  generalize (finP ⟨p,n,st0,[]⟩ T i).out=out at *
  refine⟨by simp[len],fun a ha=>(w1 a (by omega)).trans (pre a ha),fun j hj=>?_⟩
  by_cases ej:j<i
  ·obtain⟨q1,q2,q3⟩:=val j ej
   rw[getD_app_l (by omega)]
   refine⟨by omega,q2,?_⟩
   rw[w1 _ q1]
   exact q3
  ·have:j=i:=by omega
   subst this
   rw[getD_app_r (by omega),len,Nat.sub_self]
   have hm:(max s.val 0).toNat=s.val.toNat:=by omega
   show (max s.val 0).toNat<_∧0≤s.fac∧p∣s.fac*(Vf p s.st ns).getD (max s.val 0).toNat 0-_
   rw[hm]
   refine⟨?_,v4.1,w2⟩
   rw[L2]
   omega
theorem outS_get {p:Int} {out:List (List Int)} {vs:List Int} {j:Nat}:∀ {i:Nat},j<i→(outS p out vs i).getD j 0=((out.getD j []).getD 1 0*vs.getD (nq (out.getD j []) 0) 0).tmod p
 | 0,h=>by omega
 | i+1,h=>by
  simp only[outS]
  by_cases e:j=i
  ·subst e
   rw[getD_app_r (by rw[outS_len];exact Nat.le_refl _),outS_len,Nat.sub_self]
   rfl
  ·rw[getD_app_l (by rw[outS_len];omega),outS_get (by omega)]
theorem runP_fin {p n:Int} {st0:List (List Int)} {T:List (List Int)} {ns:List Int} (hp:isP p=true) (hn:1≤n) (hnl:(ns.length:Int)=n) (hal:allIn p ns=true) (hs:StV p n st0)
  (hr:∀ i,i<T.length→allIn p (T.getD i [])=true∧((T.getD i []).length:Int)≤n+st0.length) {j:Nat} (hj:j<T.length) :
  (runP (finP ⟨p,n,st0,[]⟩ T T.length) ns).getD j 0=(dot (T.getD j []) (Vf p st0 ns) (T.getD j []).length).tmod p:=by
 have hp5:=isP_in hp
 have ov:=finP_val hp hn hnl hs hr (i:=T.length) (Nat.le_refl _)
 obtain⟨⟨e1,e2,sv,_⟩,g1,g2⟩:=finP_valid (x:=⟨p,n,st0,[]⟩) (rows:=T) hp hr hn ⟨rfl,rfl,hs,fun i hi=>by simp at hi⟩ (i:=T.length) (Nat.le_refl _)
 obtain⟨q1,q2,q3⟩:=ov.val j hj
 unfold runP
 rw[e1,outS_get (by rw[ov.len];exact hj)]
 show (_*(Vf p (finP ⟨p,n,st0,[]⟩ T T.length).st ns).getD _ 0).tmod p=_
 have vin:=getD_in (show 1≤p by omega) (Vf_in (by omega) sv hal) (nq ((finP ⟨p,n,st0,[]⟩ T T.length).out.getD j []) 0)
 have a:=tmod_nn (J:=p) (Int.mul_nonneg q2 vin.1) (by omega)
 have b:=tmod_nn (J:=p) (dot_nn (show 1≤p by omega) (hr j hj).1 (Vf_in (show 1≤p by omega) hs hal) (k:=(T.getD j []).length)) (by omega)
 obtain⟨k1,h1⟩:=q3
 obtain⟨k2,h2⟩:=tmod_dvd (((finP ⟨p,n,st0,[]⟩ T T.length).out.getD j []).getD 1 0*(Vf p (finP ⟨p,n,st0,[]⟩ T T.length).st ns).getD (nq ((finP ⟨p,n,st0,[]⟩ T T.length).out.getD j []) 0) 0) p
 obtain⟨k3,h3⟩:=tmod_dvd (dot (T.getD j []) (Vf p st0 ns) (T.getD j []).length) p
 exact dvd_eq ⟨k1-k2+k3,by grind⟩ a b
theorem dot_set {q ns:List Int} {a:Nat} {x:Int} (ha:a<q.length):∀ {k:Nat},dot (q.set a x) ns k=dot q ns k+(if a<k then (x-q.getD a 0)*ns.getD a 0 else 0)
 | 0=>by simp[dot]
 | k+1=>by
  simp only[dot]
  rw[dot_set ha (k:=k),set_getD ha]
  by_cases e:k=a
  ·subst e
   rw[if_pos rfl,if_neg (Nat.lt_irrefl _),if_pos (by omega)]
   grind
  ·rw[if_neg e]
   by_cases h:a<k
   ·rw[if_pos h,if_pos (by omega)]
    omega
   ·rw[if_neg h,if_neg (by omega)]
    omega
theorem dot_app {q ns:List Int} {x v:Int} (hl:q.length=ns.length):dot (q++[x]) (ns++[v]) (q.length+1)=dot q ns q.length+x*v:=by
 have key:∀ {k:Nat},k≤q.length→dot (q++[x]) (ns++[v]) k=dot q ns k:=by
  intro k
  induction k with
  | zero=>intro _;rfl
  | succ k ih=>
   intro hk
   simp only[dot]
   rw[ih (by omega),getD_app_l (by omega),getD_app_l (by omega)]
 simp only[dot]
 rw[key (Nat.le_refl _),getD_app_r (Nat.le_refl _),Nat.sub_self,hl,getD_app_r (Nat.le_refl _),Nat.sub_self]
 rfl
theorem mv_dot {p:Int} {l j r:Nat} {row V:List Int} {v:Int} (hl:l<row.length) (hj:j<row.length) (hlj:l≠j) (hV:row.length=V.length) (hv:p∣V.getD l 0+r*V.getD j 0-v) :
  p∣dot (mvRow p l j r row) (V++[v]) (row.length+1)-dot row V row.length:=by
 unfold mvRow
 by_cases hm:mvOK p l j r row=true
 ·rw[if_pos hm]
  have e:((row.set l 0).set j 0).length=row.length:=by simp
  have da:=dot_app (q:=(row.set l 0).set j 0) (ns:=V) (x:=row.getD l 0) (v:=v) (by rw[e,hV])
  rw[e] at da
  rw[da,dot_set (by simp;exact hj),dot_set hl,if_pos hj,if_pos hl,set_getD hl,if_neg (fun q=>hlj q.symm)]
  unfold mvOK at hm
  rw[Bool.and_eq_true,decide_eq_true_eq,decide_eq_true_eq] at hm
  obtain⟨k1,h1⟩:=hv
  obtain⟨k2,h2⟩:=tmod_dvd (row.getD l 0*r) p
  rw[←hm.2] at h2
  generalize row.getD l 0=a at *
  generalize row.getD j 0=b at *
  generalize V.getD l 0=x at *
  generalize V.getD j 0=y at *
  exact⟨k2*y-a*k1,by grind⟩
 ·rw[if_neg hm,dot_app hV]
  exact⟨0,by grind⟩
structure ShV (p:Int) (rows:List (List Int)) (ns:List Int) (s:SS):Prop where
 val:∀ i,i<rows.length→p∣dot (s.T.getD i []) (Vf p s.st ns) (s.T.getD i []).length-dot (rows.getD i []) ns (rows.getD i []).length
theorem shF_val {p:Int} {N:Nat} {rows:List (List Int)} {ns:List Int} (hp:isP p=true) (hT:1≤rows.length) (hN:ns.length=N):∀ (f:Nat) (s:SS),ShI p N rows s→ShV p rows ns s→ShV p rows ns (shF p f s)
 | 0,s,_,hs=>hs
 | f+1,s,i,hs=>by
  unfold shF
  by_cases h:2≤(bst p s.T).m
  ·rw[if_pos h]
   have b:=bst_ok hp i.gt (by rw[i.len];exact hT) h
   refine shF_val hp hT hN f _ (i.go hp hT h).1 ⟨fun k hk=>?_⟩
   have hk':k<s.T.length:=by rw[i.len];exact hk
   have wl:=(i.gt k hk').1
   have Vl:=Vf_len (p:=p) (st:=s.st) (ns:=ns)
   have eT:(stepS p s).T.getD k []=mvRow p (bst p s.T).l (bst p s.T).j (bst p s.T).r (s.T.getD k []):=mvT_get hk'
   have eS:(stepS p s).st=s.st++[[((bst p s.T).l:Int),((bst p s.T).j:Int),((bst p s.T).r:Int)]]:=rfl
   rw[eT,eS,Vf_snoc,mvRow_len]
   have md:=mv_dot (p:=p) (row:=s.T.getD k []) (V:=Vf p s.st ns) (l:=(bst p s.T).l) (j:=(bst p s.T).j) (r:=(bst p s.T).r) (by omega) (by omega) (by omega) (by omega) (tmod_dvd ((Vf p s.st ns).getD (bst p s.T).l 0+((bst p s.T).r:Int)*(Vf p s.st ns).getD (bst p s.T).j 0) p)
   obtain⟨k1,h1⟩:=md
   obtain⟨k2,h2⟩:=hs.val k hk
   exact⟨k1+k2,by grind⟩
  ·rw[if_neg h]
   exact hs
theorem runP_pgO {p n:Int} {rows:List (List Int)} {ns:List Int} {b:Bool} (ok:lsOK p n rows=true) (hnl:(ns.length:Int)=n) (hal:allIn p ns=true) {j:Nat} (hj:j<rows.length) :
  (runP (pgO p n rows b) ns).getD j 0=(dot (rows.getD j []) ns (rows.getD j []).length).tmod p:=by
 obtain⟨hp,hn,hl,hm⟩:=lsOK_iff.1 ok
 have hp5:=isP_in hp
 unfold pgO
 cases b with
 | false=>
  rw[if_neg (by decide)]
  exact runP_fin hp hn.1 hnl hal (fun i hi=>by simp at hi) (fun i hi=>⟨(isMat_iff.1 hm i hi).2,by have:=(isMat_iff.1 hm i hi).1;simp only[List.length_nil];omega⟩) hj
 | true=>
  rw[if_pos rfl]
  have si:=shS_facts ok
  have sv:StV p ((n.toNat:Nat):Int) (shS p rows).st:=shF_valid hp (by omega) (nzT rows) ⟨rows,[]⟩ (ShI.start ok) (fun i hi=>by simp at hi)
  have hN:((n.toNat:Nat):Int)=n:=by omega
  rw[hN] at sv
  have vv:ShV p rows ns (shS p rows):=shF_val hp (by omega) (by omega) (nzT rows) ⟨rows,[]⟩ (ShI.start ok) ⟨fun i hi=>⟨0,by show dot (rows.getD i []) ns (rows.getD i []).length-dot (rows.getD i []) ns (rows.getD i []).length=p*0;omega⟩⟩
  have rr:∀ i,i<(shS p rows).T.length→allIn p ((shS p rows).T.getD i [])=true∧(((shS p rows).T.getD i []).length:Int)≤n+(shS p rows).st.length:=fun i hi=>by
   obtain⟨g1,g2⟩:=si.gt i hi
   exact⟨allIn_iff.2 fun j hj=>g2 j (by omega),by omega⟩
  have hj':j<(shS p rows).T.length:=by rw[si.len];exact hj
  have e:=runP_fin hp hn.1 hnl hal sv rr hj'
  show (runP (finP ⟨p,n,(shS p rows).st,[]⟩ (shS p rows).T (shS p rows).T.length) ns).getD j 0=_
  rw[e]
  have a:=tmod_nn (J:=p) (dot_nn (show 1≤p by omega) (rr j hj').1 (Vf_in (show 1≤p by omega) sv hal) (k:=((shS p rows).T.getD j []).length)) (by omega)
  have c:=tmod_nn (J:=p) (dot_nn (show 1≤p by omega) (isMat_iff.1 hm j hj).2 hal (k:=(rows.getD j []).length)) (by omega)
  obtain⟨k1,h1⟩:=vv.val j hj
  obtain⟨k2,h2⟩:=tmod_dvd (dot ((shS p rows).T.getD j []) (Vf p (shS p rows).st ns) ((shS p rows).T.getD j []).length) p
  obtain⟨k3,h3⟩:=tmod_dvd (dot (rows.getD j []) ns (rows.getD j []).length) p
  exact dvd_eq ⟨k1-k2+k3,by grind⟩ a c
theorem cg_md (x p:Int):Cg p (x.tmod p) x:=by
 have h:=Int.tmod_add_tdiv_mul x p
 exact⟨-(x.tdiv p),by rw[Int.mul_neg,Int.mul_comm p];omega⟩
theorem cg_eq {p a b:Int} (ha:0≤a∧a<p) (hb:0≤b∧b<p) (h:Cg p a b):a=b:=by
 obtain⟨k,hk⟩:=h
 have:k=0:=by
  by_cases h0:0<k
  ·have:=Int.mul_le_mul_of_nonneg_left (show 1≤k by omega) (show 0≤p by omega)
   omega
  ·by_cases h1:k<0
   ·have:=Int.mul_le_mul_of_nonneg_left (show k ≤ -1 by omega) (show 0≤p by omega)
    omega
   ·omega
 subst this
 omega
section
variable (x:Prg)
def nSt (i:Nat) (r:Nat):Nat:=nq (x.st.getD i []) r
def nOut (i:Nat):Nat:=nq (x.out.getD i []) 0
def uO:Nat→List Bool
 | 0=>List.replicate (x.n.toNat+x.st.length) false
 | i+1=>if (x.out.getD i []).getD 1 0=0 then uO i else (uO i).set (nOut x i) true
def uS:Nat→List Bool
 | 0=>uO x x.out.length
 | m+1=>if (uS m).getD (x.n.toNat+(x.st.length-1-m)) false=true then ((uS m).set (nSt x (x.st.length-1-m) 0) true).set (nSt x (x.st.length-1-m) 1) true else uS m
def kp (j:Nat):Bool:=decide (j<x.n.toNat)||(uS x x.st.length).getD j false
def rk:Nat→Int
 | 0=>0
 | j+1=>rk j+(if kp x j=true then 1 else 0)
end
variable {x:Prg}
section
variable {x:Prg}
end
end Go.Proofs.Ytapafdpnmakekaa.X

set_option linter.unusedVariables false
set_option linter.unusedSimpArgs false
set_option maxRecDepth 20000
set_option maxHeartbeats 4000000
namespace Go.Proofs.Ytapafdpnmakekaa.X
open Go Go.RowKit
open Nat (reduceEqDiff reduceAdd reduceSub reduceLeDiff)
theorem l_likeInts {v w:Value} {ns ms:List Int} {h:AH} {Q:Value→AH→Prop} (hv:Ints h v ns) (hv':Ints h w ms) (hl:(ns.length:Int)≤1048576)
  (hQ:Q (.bool (decide (ns=ms))) h):WF S 20 [v,w] h Q:=by
 refine WF_fn (fn:=c20) rfl rfl ?_
 dsimp only[c20,oO,oM,oS,oG,oK,oE,oL,oF,oX,oN]
 by_cases hne:(ns.length:Int)≠ms.length
 ·((try simp (maxSteps:=3000000) (dsimp:=false) (disch:=first|omega|simp only[lnx];omega) only[↓ypre,ypost,↓reduceIte,reduceEqDiff,reduceAdd,reduceSub,reduceLeDiff,zz0,ynew,hv.len,hv'.len,decide_eq_true hne]);try simp only[yback])
  have:ns≠ms:=fun e=>hne (by rw[e])
  simpa [this] using hQ
 ·((try simp (maxSteps:=3000000) (dsimp:=false) (disch:=first|omega|simp only[lnx];omega) only[↓ypre,ypost,↓reduceIte,reduceEqDiff,reduceAdd,reduceSub,reduceLeDiff,zz0,ynew,hv.len,hv'.len,decide_eq_false hne]);try simp only[yback])
  have hlen:ns.length=ms.length:=by omega
  refine WC_loop_inv (fun m f K1=>∃ (i:Nat),m=ns.length-i∧i≤ns.length∧f 0=v∧f 1=w∧f 5=I64 i∧(K1=h)∧(∀ j,j<i→ns.getD j 0=ms.getD j 0)) ?_ (ns.length-0) _ _ ⟨0,rfl,by omega,(by first|rfl|simp[upd_apply]),(by first|rfl|simp[upd_apply]),(by first|rfl|simp[upd_apply]),rfl,(by omega)⟩
  rintro m f K1 ⟨i,rfl,hi,f0,f1,f5,hK,hj⟩
  subst hK
  by_cases hlt:(i:Int)<ns.length
  ·obtain⟨n1,off1,hix1,hrd1⟩:=hv.cell (j:=i) (by omega)
   obtain⟨n2,off2,hix2,hrd2⟩:=hv'.cell (j:=i) (by omega)
   by_cases he:ns.getD i 0≠ms.getD i 0
   ·((try simp (maxSteps:=3000000) (dsimp:=false) (disch:=first|omega|simp only[lnx];omega) only[↓ypre,ypost,↓reduceIte,reduceEqDiff,reduceAdd,reduceSub,reduceLeDiff,zz0,ynew,f0,f1,f5,hv.len,decide_eq_true hlt,hix1,hrd1,hix2,hrd2,decide_eq_true he]);try simp only[yback])
    have:ns≠ms:=fun e=>he (by rw[e])
    simpa [this] using hQ
   ·((try simp (maxSteps:=3000000) (dsimp:=false) (disch:=first|omega|simp only[lnx];omega) only[↓ypre,ypost,↓reduceIte,reduceEqDiff,reduceAdd,reduceSub,reduceLeDiff,zz0,ynew,f0,f1,f5,hv.len,decide_eq_true hlt,hix1,hrd1,hix2,hrd2,decide_eq_false he,wrap64_in]);try simp only[yback])
    have hj':∀ j,j<i+1→ns.getD j 0=ms.getD j 0:=fun j q=>by
     rcases Nat.lt_succ_iff_lt_or_eq.1 q with q|rfl
     ·exact hj j q
     ·exact Decidable.not_not.1 he
    refine InvQ_go (ns.length-(i+1)) (by omega) ⟨(i+1),rfl,by omega,(by first|rfl|exact f0|(simp only[upd_apply];rfl)|(show I64 _=_;congr 1;omega)),(by first|rfl|exact f1|(simp only[upd_apply];rfl)|(show I64 _=_;congr 1;omega)),(by first|rfl|exact f5|(simp only[upd_apply];rfl)|(show I64 _=_;congr 1;omega)),rfl,hj'⟩
  ·((try simp (maxSteps:=3000000) (dsimp:=false) (disch:=first|omega|simp only[lnx];omega) only[↓ypre,ypost,↓reduceIte,reduceEqDiff,reduceAdd,reduceSub,reduceLeDiff,zz0,ynew,f0,f1,f5,hv.len,decide_eq_false hlt]);try simp only[yback])
   have:ns=ms:=by
    refine List.ext_getElem? fun j=>?_
    by_cases h1:j<ns.length
    ·have:=hj j (by omega)
     rw[List.getElem?_eq_getElem h1,List.getElem?_eq_getElem (by omega)]
     simpa [List.getD_eq_getElem?_getD,List.getElem?_eq_getElem h1,List.getElem?_eq_getElem (show j<ms.length by omega)] using this
    ·rw[List.getElem?_eq_none (by omega),List.getElem?_eq_none (by omega)]
   simpa [this] using hQ
theorem l_big {h:AH} {cv:Value} {code:List (List Int)} {Q:Value→AH→Prop} (c:Els .u8 1 h cv code)
  (hQ:Q (.bool (decide ((code.length:Int)>4096))) h):WF S 13 [cv] h Q:=by
 refine WF_fn (fn:=c13) rfl rfl ?_
 dsimp only[c13,oO,oM,oS,oG,oK,oE,oL,oF,oX,oN]
 ((try simp (maxSteps:=3000000) (dsimp:=false) (disch:=first|omega|simp only[lnx];omega) only[↓ypre,ypost,↓reduceIte,reduceEqDiff,reduceAdd,reduceSub,reduceLeDiff,zz0,ynew,c.len]);try simp only[yback])
 exact hQ
end Go.Proofs.Ytapafdpnmakekaa.X

set_option linter.unusedVariables false
set_option linter.unusedSimpArgs false
set_option maxRecDepth 20000
set_option maxHeartbeats 4000000
namespace Go.Proofs.Ytapafdpnmakekaa.X
open Go Go.RowKit
theorem ProgD.one {lo:Nat} {h:AH} {v w:Value} {x:Prg} (o:ProgD lo h v w x):isOne v=true∧isOne w=true:=⟨o.now.1.one,o.now.2.one⟩
theorem l_like {v w:Value} {ns:List Int} {h:AH} {Q:Value→AH→Prop} (hv:Ints h v ns) (hw:Ints h w ns) (hl:(ns.length:Int)≤1048576)
  (hQ:Q (.bool true) h):WF S 20 [v,w] h Q:=l_likeInts hv hw hl (by rw[decide_eq_true rfl];exact hQ)
end Go.Proofs.Ytapafdpnmakekaa.X

set_option linter.unusedVariables false
set_option linter.unusedSimpArgs false
set_option maxRecDepth 20000
set_option maxHeartbeats 4000000
namespace Go.Proofs.Ytapafdpnmakekaa.X
open Go Go.RowKit
open Nat (reduceEqDiff reduceAdd reduceSub reduceLeDiff)
theorem i_Grow {n:Int} {h:AH} {Q:Value→AH→Prop} (hn:1≤n∧n≤1048576) (hQ:Q (sl h.length 0) (h.new ⟨[],2,false,false⟩)):WF S 287 [.slice none 0 0,I64 n] h Q:=by
 refine WF_fn (fn:=c287) rfl rfl ?_
 dsimp only[c287,oO,oM,oS,oG,oK,oE,oL,oF,oX,oN]
 ((try simp (maxSteps:=3000000) (dsimp:=false) (disch:=first|omega|simp only[lnx];omega) only[↓ypre,ypost,↓reduceIte,reduceEqDiff,reduceAdd,reduceSub,reduceLeDiff,zz0,ynew,decide_eq_false (show ¬ n<0 by omega),capV_nil,show lenV (.slice none 0 0)=some (I64 0) from rfl,wrap64_in,Int.sub_zero,decide_eq_true (show (0:Int)<n by omega),decide_eq_true (show n>0 by omega)]);try simp only[yback])
 have s1:slcV 1 (.slice none 0 0) none (some (I64 0))=some (.slice none 0 0):=rfl
 ((try simp (maxSteps:=3000000) (dsimp:=false) (disch:=first|omega|simp only[lnx];omega) only[↓ypre,ypost,↓reduceIte,reduceEqDiff,reduceAdd,reduceSub,reduceLeDiff,zz0,ynew,omapF_none,omapF_some,s1]);try simp only[yback])
 have e1:appzV 2 1 8 (.slice none 0 0) (I64 n) h=some (.slice (some ⟨h.length,0,none⟩) n.toNat 1,h.new ⟨[],2,false,false⟩):=by
  rw[appzV_nil,if_pos (by omega)]
 ((try simp (maxSteps:=3000000) (dsimp:=false) (disch:=first|omega|simp only[lnx];omega) only[↓ypre,ypost,↓reduceIte,reduceEqDiff,reduceAdd,reduceSub,reduceLeDiff,zz0,ynew,e1]);try simp only[yback])
 have s2:slcV 1 (.slice (some ⟨h.length,0,none⟩) n.toNat 1) none (some (.int .i64 ((0:Nat):Int)))=some (sl h.length 0):=by
  simp[slcV,boundV,sl]
 ((try simp (maxSteps:=3000000) (dsimp:=false) (disch:=first|omega|simp only[lnx];omega) only[↓ypre,ypost,↓reduceIte,reduceEqDiff,reduceAdd,reduceSub,reduceLeDiff,zz0,ynew,omapF_none,omapF_some,s2]);try simp only[yback])
 exact hQ
theorem Lst.appL {H:AH} {n:Nat} {l ns:List Int} {full:Bool} {v:Value} (o:Lst H n l full) (hv:Ints H v ns) (h0:0<ns.length) (hl:(l.length:Int)+ns.length≤1048576) {Q:Value→AH→Prop}
  (hQ:∀ H',H'.length=H.length+1→(∀ h0:AH,h0.length≤n→h0<+:H→h0<+:H')→Lst H' H.length (l++ns) false→Q (sl H.length (l++ns).length) H') :
  OQ (appV 2 1 8 (sl n l.length) v H) Q:=by
 obtain⟨n',off,rfl,hr⟩:=hv.vals.rdn (by simpa using h0)
 rw[List.length_map] at hr
 have e:appV 2 1 8 (sl n l.length) (.slice (some ⟨n',off,none⟩) (ns.map (Value.int .i64)).length 1) H=some (sl H.length (l++ns).length,(H.kill n).new ⟨(l++ns).map (Value.int .i64),2,false,false⟩):=by
  simp only[appV,xop,ev,sl,if_true,Nat.mul_one,List.length_map,hr]
  rw[if_pos (by omega),if_neg (by omega)]
  unfold Lst at o
  simp[o]
 rw[e,OQ_some]
 exact hQ _ (by rw[len_new,len_kill]) (fun h0 q p=>pre_new (pre_kill p q)) (get_new_eq (by rw[len_kill]))
theorem i_Concat {v:Value} {L:List (List Int)} {w:Nat} {h:AH} {Q:Value→AH→Prop} (hv:Rows h v L) (hw:Wid w L) (h1:1≤w∧w≤1000) (h2:1≤L.length∧L.length≤1000)
  (hQ:∀ n full h',h.length≤n→h<+:h'→Lst h' n L.flatten full→Q (sl n L.flatten.length) h'):WF S 165 [v] h Q:=by
 refine WF_fn (fn:=c165) rfl rfl ?_
 dsimp only[c165,oO,oM,oS,oG,oK,oE,oL,oF,oX,oN]
 have hwl:∀ i,i<L.length→(L.getD i []).length=w:=fun i hi=>hw _ (by rw[List.getD_eq_getElem?_getD,List.getElem?_eq_getElem hi];exact List.getElem_mem hi)
 have hLw:L.length*w≤1000*1000:=Nat.mul_le_mul h2.2 h1.2
 have hLw1:1*1≤L.length*w:=Nat.mul_le_mul h2.1 h1.1
 ((try simp (maxSteps:=3000000) (dsimp:=false) (disch:=first|omega|simp only[lnx];omega) only[↓ypre,ypost,↓reduceIte,reduceEqDiff,reduceAdd,reduceSub,reduceLeDiff,zz0,ynew,hv.len]);try simp only[yback])
 refine WC_loop_inv (fun m f K1=>∃ (i:Nat),m=L.length-i∧i≤L.length∧f 0=v∧f 3=I64 ((i*w:Nat):Int)∧f 9=v∧f 10=I64 L.length∧f 11=I64 i∧(K1=h)) ?_ (L.length-0) _ _ ⟨0,rfl,by omega,(by first|rfl|simp[upd_apply]),(by first|rfl|simp[upd_apply]),(by first|rfl|simp[upd_apply]),(by first|rfl|simp[upd_apply]),(by first|rfl|simp[upd_apply]),rfl⟩
 rintro m f K1 ⟨i,rfl,hi,f0,f3,f9,f10,f11,hK⟩
 subst hK
 by_cases hlt:(i:Int)<L.length
 ·have hi':i<L.length:=by omega
  obtain⟨n0,off0,x0,hix0,hrd0,i0⟩:=hv.row hi'
  have hm:=mul_row (w:=w) hi'
  have hc:(((i*w:Nat):Int)+((L.getD i []).length:Int))=(((i+1)*w:Nat):Int):=by rw[hwl i hi',Nat.succ_mul];omega
  have hb:((i+1)*w:Nat)≤1000000:=by rw[Nat.succ_mul];omega
  ((try simp (maxSteps:=3000000) (dsimp:=false) (disch:=first|omega|simp only[lnx];omega) only[↓ypre,ypost,↓reduceIte,reduceEqDiff,reduceAdd,reduceSub,reduceLeDiff,zz0,ynew,f0,f3,f9,f10,f11,decide_eq_true hlt,hix0,hrd0,i0.len,hc,wrap64_in,decide_eq_false (show ¬ (((i+1)*w:Nat):Int)<0 by omega)]);try simp only[yback])
  refine InvQ_go (L.length-(i+1)) (by omega) ⟨(i+1),rfl,by omega,(by first|rfl|exact f0|(simp only[upd_apply];rfl)|(show I64 _=_;congr 1;omega)),(by first|rfl|exact f3|(simp only[upd_apply];rfl)|(show I64 _=_;congr 1;omega)),(by first|rfl|exact f9|(simp only[upd_apply];rfl)|(show I64 _=_;congr 1;omega)),(by first|rfl|exact f10|(simp only[upd_apply];rfl)|(show I64 _=_;congr 1;omega)),(by first|rfl|exact f11|(simp only[upd_apply];rfl)|(show I64 _=_;congr 1;omega)),rfl⟩
 have ei:i=L.length:=by omega
 subst ei
 ((try simp (maxSteps:=3000000) (dsimp:=false) (disch:=first|omega|simp only[lnx];omega) only[↓ypre,ypost,↓reduceIte,reduceEqDiff,reduceAdd,reduceSub,reduceLeDiff,zz0,ynew,f0,f3,f9,f10,f11,decide_eq_false hlt]);try simp only[yback])
 refine i_Grow (by omega) ?_
 generalize hH1:AH.new K1 _=H1
 obtain⟨hb1,p1,n1⟩:=new_facts hH1
 have l0:Lst H1 K1.length (L.take 0).flatten false:=hb1
 ((try simp (maxSteps:=3000000) (dsimp:=false) (disch:=first|omega|simp only[lnx];omega) only[↓ypre,ypost,↓reduceIte,reduceEqDiff,reduceAdd,reduceSub,reduceLeDiff,zz0,ynew,f0,f3,f9,f10,f11,hv.len]);try simp only[yback])
 refine WC_loop_inv (fun m f K2=>∃ (i:Nat) (kn:Nat) (fu:Bool),m=L.length-i∧i≤L.length∧f 6=sl kn (L.take i).flatten.length∧f 25=v∧f 26=I64 L.length∧f 27=I64 i∧(K1<+:K2)∧(Lst K2 kn (L.take i).flatten fu)∧(K1.length≤kn)) ?_ (L.length-0) _ _ ⟨0,K1.length,false,rfl,by omega,(by first|rfl|simp[upd_apply]),(by first|rfl|simp[upd_apply]),(by first|rfl|simp[upd_apply]),(by first|rfl|simp[upd_apply]),p1,l0,Nat.le_refl _⟩
 rintro m f K2 ⟨i,kn,fu,rfl,hi,f6,f25,f26,f27,pp,lo,hk⟩
 by_cases hlt:(i:Int)<L.length
 ·have hi':i<L.length:=by omega
  obtain⟨n0,off0,x0,hix0,hrd0,i0⟩:=(hv.pre pp).row hi'
  have et:(L.take i).flatten++L.getD i []=(L.take (i+1)).flatten:=by
   rw[take_next (d:=[]) hi',List.flatten_append]
   simp
  have lt:(L.take i).flatten.length=i*w:=by
   rw[flat_len (fun q hq=>hw q (List.mem_of_mem_take hq)),List.length_take,Nat.min_eq_left (by omega)]
  have hm:=mul_row (w:=w) hi'
  have hwi:=hwl i hi'
  ((try simp (maxSteps:=3000000) (dsimp:=false) (disch:=first|omega|simp only[lnx];omega) only[↓ypre,ypost,↓reduceIte,reduceEqDiff,reduceAdd,reduceSub,reduceLeDiff,zz0,ynew,f6,f25,f26,f27,decide_eq_true hlt,hix0,hrd0]);try simp only[yback])
  refine lo.appL i0 (by omega) (by omega) fun H5 l5 pre5 lo5=>?_
  rw[et] at lo5 ⊢
  ((try simp (maxSteps:=3000000) (dsimp:=false) (disch:=first|omega|simp only[lnx];omega) only[↓ypre,ypost,↓reduceIte,reduceEqDiff,reduceAdd,reduceSub,reduceLeDiff,zz0,ynew,f6,f25,f26,f27,wrap64_in]);try simp only[yback])
  refine InvQ_go (L.length-(i+1)) (by omega) ⟨(i+1),K2.length,false,rfl,by omega,(by first|rfl|exact f6|(simp only[upd_apply];rfl)|(show I64 _=_;congr 1;omega)),(by first|rfl|exact f25|(simp only[upd_apply];rfl)|(show I64 _=_;congr 1;omega)),(by first|rfl|exact f26|(simp only[upd_apply];rfl)|(show I64 _=_;congr 1;omega)),(by first|rfl|exact f27|(simp only[upd_apply];rfl)|(show I64 _=_;congr 1;omega)),(pre5 _ hk pp),lo5,(by have:=pre_len pp;omega)⟩
 have ei:i=L.length:=by omega
 subst ei
 rw[List.take_of_length_le (Nat.le_refl _)] at lo f6
 ((try simp (maxSteps:=3000000) (dsimp:=false) (disch:=first|omega|simp only[lnx];omega) only[↓ypre,ypost,↓reduceIte,reduceEqDiff,reduceAdd,reduceSub,reduceLeDiff,zz0,ynew,f6,f25,f26,f27,decide_eq_false hlt]);try simp only[yback])
 exact hQ _ _ _ hk pp lo
end Go.Proofs.Ytapafdpnmakekaa.X

set_option linter.unusedVariables false
set_option linter.unusedSimpArgs false
set_option maxRecDepth 20000
set_option maxHeartbeats 4000000
namespace Go.Proofs.Ytapafdpnmakekaa.X
open Go Go.RowKit
end Go.Proofs.Ytapafdpnmakekaa.X

set_option linter.unusedVariables false
set_option linter.unusedSimpArgs false
set_option maxRecDepth 20000
set_option maxHeartbeats 4000000
namespace Go.Proofs.Ytapafdpnmakekaa.X
open Go Go.RowKit
open Nat (reduceEqDiff reduceAdd reduceSub reduceLeDiff)
theorem seg_n9 {q:List Int} (hq:q.length=27) {i:Nat} (hi:i<3):(seg q i).length=9:=by
 unfold seg
 rw[List.length_take,List.length_drop]
 omega
theorem seg_by {q:List Int} (hq:By 27 q) {f:Nat} (hf:f<3):By 9 (seg q f):=⟨seg_n9 hq.1 hf,fun j hj=>by
 unfold seg
 rw[List.getD_eq_getElem?_getD,List.getElem?_take_of_lt hj,List.getElem?_drop,←List.getD_eq_getElem?_getD]
 exact hq.2 _ (by omega)⟩
theorem cel_seg {q:List Int} {f:Nat}:((cel .u8 q).drop (f*9)).take 9=cel .u8 (seg q f):=by rw[cel_drop,cel_take];rfl
theorem s_l03Factor {q:List Int} {f:Nat} {h:AH} {Q:Value→AH→Prop} (hq:By 27 q) (hf:f<3) (hQ:∀ h',h<+:h'→Q (aggV .u8 (seg q f)) h'):WF S 198 [aggV .u8 q,I64 f] h Q:=by
 refine WF_fn (fn:=c198) rfl rfl ?_
 dsimp only[c198,oO,oM,oS,oG,oK,oE,oL,oF,oX,oN]
 have q27:=hq.1
 ((try simp (maxSteps:=3000000) (dsimp:=false) (disch:=first|omega|simp only[lnx];omega) only[↓ypre,ypost,↓reduceIte,reduceEqDiff,reduceAdd,reduceSub,reduceLeDiff,zz0,ynew,aggV,cellsL_cel,cel_all,zeros9]);try simp only[yback])
 generalize hH1:AH.new h _=H1
 obtain⟨hb1,p1,n1⟩:=new_facts hH1
 generalize hH2:AH.new H1 _=H2
 obtain⟨hb2,p2,n2⟩:=new_facts hH2
 have g1:=pre_get p2 hb1
 have l2:=get_lt hb2
 have w9:=wr_full (vs:=cel .u8 (seg q f)) hb2 (by rw[cel_len,seg_n9 q27 hf];rfl)
 have s9:=seg_n9 q27 hf
 have fin:=hQ _ (pre_put (b:=⟨cel .u8 (seg q f),136,false,true⟩) (p1.trans p2) (n:=H1.length) (by omega))
 have tf:(cel .u8 (seg q f)).take 9=cel .u8 (seg q f):=List.take_of_length_le (by rw[cel_len,s9];exact Nat.le_refl _)
 have c0:(cel .u8 q).take 9=cel .u8 (seg q 0):=by have:=cel_seg (q:=q) (f:=0);rwa [Nat.zero_mul,List.drop_zero] at this
 have c1:((cel .u8 q).drop 9).take 9=cel .u8 (seg q 1):=cel_seg (f:=1)
 have c2:((cel .u8 q).drop 18).take 9=cel .u8 (seg q 2):=cel_seg (f:=2)
 have:f=0∨f=1∨f=2:=by omega
 rcases this with rfl|rfl|rfl
 ·((try simp (maxSteps:=3000000) (dsimp:=false) (disch:=first|omega|simp only[lnx];omega) only[↓ypre,ypost,↓reduceIte,reduceEqDiff,reduceAdd,reduceSub,reduceLeDiff,zz0,ynew,show ((0:Nat):Int)=0 from rfl,show decide ((0:Int)=0)=true from rfl,rdn_of g1,cel_len,q27,c0,s9,cel_all,w9,rdn_put_same,tf]);try simp only[yback])
  exact fin
 ·((try simp (maxSteps:=3000000) (dsimp:=false) (disch:=first|omega|simp only[lnx];omega) only[↓ypre,ypost,↓reduceIte,reduceEqDiff,reduceAdd,reduceSub,reduceLeDiff,zz0,ynew,show ((1:Nat):Int)=1 from rfl,show decide ((1:Int)=0)=false from rfl,show decide ((1:Int)=1)=true from rfl,rdn_of g1,cel_len,q27,c1,s9,cel_all,w9,rdn_put_same,tf]);try simp only[yback])
  exact fin
 ·((try simp (maxSteps:=3000000) (dsimp:=false) (disch:=first|omega|simp only[lnx];omega) only[↓ypre,ypost,↓reduceIte,reduceEqDiff,reduceAdd,reduceSub,reduceLeDiff,zz0,ynew,show ((2:Nat):Int)=2 from rfl,show decide ((2:Int)=0)=false from rfl,show decide ((2:Int)=1)=false from rfl,rdn_of g1,cel_len,q27,c2,s9,cel_all,w9,rdn_put_same,tf]);try simp only[yback])
  exact fin
def wth (q:List Int) (f:Nat) (r:List Int):List Int:=q.take (f*9)++r++q.drop (f*9+9)
theorem wth_len {q r:List Int} {f:Nat} (hq:q.length=27) (hr:r.length=9) (hf:f<3):(wth q f r).length=27:=by
 unfold wth
 rw[List.length_append,List.length_append,List.length_take,List.length_drop]
 omega
theorem wth_by {q r:List Int} {f:Nat} (hq:By 27 q) (hr:By 9 r) (hf:f<3):By 27 (wth q f r):=by
 refine⟨wth_len hq.1 hr.1 hf,fun j hj=>?_⟩
 have lt:(q.take (f*9)).length=f*9:=by rw[List.length_take,hq.1];omega
 unfold wth
 by_cases h1:j<f*9
 ·rw[List.append_assoc,getD_app_l (by omega),List.getD_eq_getElem?_getD,List.getElem?_take_of_lt h1,←List.getD_eq_getElem?_getD]
  exact hq.2 j hj
 ·by_cases h2:j<f*9+9
  ·rw[getD_app_l (by rw[List.length_append,lt,hr.1];exact h2),getD_app_r (by omega),lt]
   exact hr.2 _ (by omega)
  ·rw[getD_app_r (by rw[List.length_append,lt,hr.1];omega),List.length_append,lt,hr.1,List.getD_eq_getElem?_getD,List.getElem?_drop,show f*9+9+(j-(f*9+9))=j by omega,←List.getD_eq_getElem?_getD]
   exact hq.2 j hj
theorem splice_wth {q r:List Int} {f:Nat} (hr:r.length=9):splice (cel .u8 q) (f*9) (cel .u8 r)=cel .u8 (wth q f r):=by
 rw[cel_splice,hr]
 rfl
theorem s_l03With {q r:List Int} {f:Nat} {h:AH} {Q:Value→AH→Prop} (hq:By 27 q) (hr:By 9 r) (hf:f<3) (hQ:∀ h',h<+:h'→Q (aggV .u8 (wth q f r)) h'):WF S 268 [aggV .u8 q,I64 f,aggV .u8 r] h Q:=by
 refine WF_fn (fn:=c268) rfl rfl ?_
 dsimp only[c268,oO,oM,oS,oG,oK,oE,oL,oF,oX,oN]
 have q27:=hq.1
 have r9:=hr.1
 have w27:=wth_len (f:=f) q27 r9 hf
 ((try simp (maxSteps:=3000000) (dsimp:=false) (disch:=first|omega|simp only[lnx];omega) only[↓ypre,ypost,↓reduceIte,reduceEqDiff,reduceAdd,reduceSub,reduceLeDiff,zz0,ynew,aggV,cellsL_cel,cel_all,zeros27]);try simp only[yback])
 generalize hH1:AH.new h _=H1
 obtain⟨hb1,p1,n1⟩:=new_facts hH1
 generalize hH2:AH.new H1 _=H2
 obtain⟨hb2,p2,n2⟩:=new_facts hH2
 generalize hH3:AH.new H2 _=H3
 obtain⟨hb3,p3,n3⟩:=new_facts hH3
 have g1:=pre_get (p2.trans p3) hb1
 have g2:=pre_get p3 hb2
 have l1:=get_lt g1
 have l3:=get_lt hb3
 have t9:(cel .u8 r).take 9=cel .u8 r:=List.take_of_length_le (by rw[cel_len,r9];exact Nat.le_refl _)
 have t27:(cel .u8 (wth q f r)).take 27=cel .u8 (wth q f r):=List.take_of_length_le (by rw[cel_len,w27];exact Nat.le_refl _)
 have sw:=splice_wth (q:=q) (f:=f) r9
 have g3:=fun e:TypeId=>(get_put_ne (h:=H3) (b:=⟨cel .u8 (wth q f r),e,false,true⟩) (show h.length≠H2.length by omega)).trans hb3
 have w3:=fun e:TypeId=>wr_full (vs:=cel .u8 (wth q f r)) (g3 e) (by rw[cel_len,w27];rfl)
 have fin:=fun e:TypeId=>hQ _ (pre_put (b:=⟨cel .u8 (wth q f r),138,false,true⟩) (pre_put (b:=⟨cel .u8 (wth q f r),e,false,true⟩) (p1.trans (p2.trans p3)) (n:=h.length) (Nat.le_refl _)) (n:=H2.length) (by omega))
 have:f=0∨f=1∨f=2:=by omega
 rcases this with rfl|rfl|rfl
 ·rw[Nat.zero_mul] at sw
  ((try simp (maxSteps:=3000000) (dsimp:=false) (disch:=first|omega|simp only[lnx];omega) only[↓ypre,ypost,↓reduceIte,reduceEqDiff,reduceAdd,reduceSub,reduceLeDiff,zz0,ynew,show ((0:Nat):Int)=0 from rfl,show decide ((0:Int)=0)=true from rfl,rdn_of g2,cel_len,r9,t9,cel_all,wr_of g1,q27,sw,rdn_put_same,w27,t27,w3]);try simp only[yback])
  exact fin _
 ·rw[Nat.one_mul] at sw
  ((try simp (maxSteps:=3000000) (dsimp:=false) (disch:=first|omega|simp only[lnx];omega) only[↓ypre,ypost,↓reduceIte,reduceEqDiff,reduceAdd,reduceSub,reduceLeDiff,zz0,ynew,show ((1:Nat):Int)=1 from rfl,show decide ((1:Int)=0)=false from rfl,show decide ((1:Int)=1)=true from rfl,rdn_of g2,cel_len,r9,t9,cel_all,wr_of g1,q27,sw,rdn_put_same,w27,t27,w3]);try simp only[yback])
  exact fin _
 ·have sw:splice (cel .u8 q) 18 (cel .u8 r)=cel .u8 (wth q 2 r):=sw
  ((try simp (maxSteps:=3000000) (dsimp:=false) (disch:=first|omega|simp only[lnx];omega) only[↓ypre,ypost,↓reduceIte,reduceEqDiff,reduceAdd,reduceSub,reduceLeDiff,zz0,ynew,show ((2:Nat):Int)=2 from rfl,show decide ((2:Int)=0)=false from rfl,show decide ((2:Int)=1)=false from rfl,rdn_of g2,cel_len,r9,t9,cel_all,wr_of g1,q27,sw,rdn_put_same,w27,t27,w3]);try simp only[yback])
  exact fin _
def addF (p:Int) (a b:List Int) (k:Int) (i:Nat):List Int:=(gen i fun j=>md p (a.getD j 0+k*b.getD j 0))++a.drop i
theorem addF_len {p k:Int} {a b:List Int} {i:Nat} (ha:a.length=9) (hi:i≤9):(addF p a b k i).length=9:=by
 unfold addF
 rw[List.length_append,gen_len,List.length_drop]
 omega
theorem gen_snoc {i:Nat} {g:Nat→Int}:gen (i+1) g=gen i g++[g i]:=by simp[gen,List.range_succ]
theorem addF_at {p k:Int} {a b:List Int} {i j:Nat} (hi:i≤j):(addF p a b k i).getD j 0=a.getD j 0:=by
 unfold addF
 rw[getD_app_r (by rw[gen_len];exact hi),gen_len,List.getD_eq_getElem?_getD,List.getElem?_drop,show i+(j-i)=j by omega,←List.getD_eq_getElem?_getD]
theorem addF_set {p k:Int} {a b:List Int} {i:Nat} (ha:a.length=9) (hi:i<9):(addF p a b k i).set i (md p (a.getD i 0+k*b.getD i 0))=addF p a b k (i+1):=by
 unfold addF
 rw[List.set_append_right _ _ (by rw[gen_len];exact Nat.le_refl _),gen_len,Nat.sub_self,List.drop_eq_getElem_cons (by omega),List.set_cons_zero,gen_snoc]
 simp
theorem addF_by {p k:Int} {a b:List Int} {i:Nat} (hp:2≤p∧p≤5) (ha:By 9 a) (hi:i≤9):By 9 (addF p a b k i):=by
 refine⟨addF_len ha.1 hi,fun j hj=>?_⟩
 by_cases h:j<i
 ·unfold addF
  rw[getD_app_l (by rw[gen_len];exact h),gen_get h]
  have:=md_in (x:=a.getD j 0+k*b.getD j 0) hp.1
  omega
 ·rw[addF_at (by omega)]
  exact ha.2 j hj
theorem s_l01Add {p k:Int} {a b:List Int} {h:AH} {Q:Value→AH→Prop} (hp:2≤p∧p≤5) (ha:By 9 a) (hb:By 9 b) (hk:-1000≤k∧k≤1000) (hQ:∀ h',h<+:h'→Q (aggV .u8 (addF p a b k 9)) h'):WF S 279 [I64 p,aggV .u8 a,aggV .u8 b,I64 k] h Q:=by
 refine WF_fn (fn:=c279) rfl rfl ?_
 dsimp only[c279,oO,oM,oS,oG,oK,oE,oL,oF,oX,oN]
 have a9:=ha.1
 have b9:=hb.1
 ((try simp (maxSteps:=3000000) (dsimp:=false) (disch:=first|omega|simp only[lnx];omega) only[↓ypre,ypost,↓reduceIte,reduceEqDiff,reduceAdd,reduceSub,reduceLeDiff,zz0,ynew,aggV,cellsL_cel,cel_all,zeros9]);try simp only[yback])
 generalize hH1:AH.new h _=H1
 obtain⟨hb1,p1,n1⟩:=new_facts hH1
 generalize hH2:AH.new H1 _=H2
 obtain⟨hb2,p2,n2⟩:=new_facts hH2
 generalize hH3:AH.new H2 _=H3
 obtain⟨hb3,p3,n3⟩:=new_facts hH3
 have e0:addF p a b k 0=a:=by simp[addF,gen]
 refine WC_loop_inv (fun m f K1=>∃ (i:Nat),m=9-i∧i≤9∧f 0=I64 p∧f 3=I64 k∧f 5=.pointer (some ⟨h.length,0,none⟩)∧f 6=.pointer (some ⟨H1.length,0,none⟩)∧f 8=.pointer (some ⟨H2.length,0,none⟩)∧f 9=I64 i∧(h<+:K1)∧(K1.get h.length=some ⟨cel .u8 (addF p a b k i),136,false,true⟩)∧(K1.get H1.length=some ⟨cel .u8 b,136,false,true⟩)∧(K1.get H2.length=some ⟨cel .u8 (List.replicate 9 0),136,false,true⟩)) ?_ (9-0) _ _ ⟨0,rfl,by omega,(by first|rfl|simp[upd_apply]),(by first|rfl|simp[upd_apply]),(by first|rfl|simp[upd_apply]),(by first|rfl|simp[upd_apply]),(by first|rfl|simp[upd_apply]),(by first|rfl|simp[upd_apply]),p1.trans (p2.trans p3),(by rw[e0];exact pre_get (p2.trans p3) hb1),pre_get p3 hb2,hb3⟩
 rintro m f K1 ⟨i,rfl,hi,f0,f3,f5,f6,f8,f9,pp,g1,g2,g3⟩
 have lF:=addF_len (p:=p) (k:=k) (a:=a) (b:=b) (i:=i) a9 (by omega)
 by_cases hlt:(i:Int)<9
 ·have ba:=ha.2 i (by omega)
  have bb:=hb.2 i (by omega)
  have c1:=cel_get (k:=.u8) (q:=addF p a b k i) (j:=i) (by omega)
  rw[addF_at (Nat.le_refl _)] at c1
  have c2:=cel_get (k:=.u8) (q:=b) (j:=i) (by omega)
  have kb:-255000≤k*b.getD i 0∧k*b.getD i 0≤255000:=by
   generalize b.getD i 0=y at bb
   constructor
   ·have:=Int.mul_le_mul_of_nonneg_right (show -k≤1000 by omega) bb.1
    have h2:-k*y = -(k*y):=Int.neg_mul k y
    omega
   ·have:=Int.mul_le_mul_of_nonneg_right hk.2 bb.1
    omega
  have mi:=md_in (x:=a.getD i 0+k*b.getD i 0) hp.1
  have st:=cel_set (k:=.u8) (q:=addF p a b k i) (j:=i) (x:=md p (a.getD i 0+k*b.getD i 0)) (by omega)
  rw[addF_set a9 (by omega)] at st
  have ia:∀ m:Nat,ixaV 9 1 (.pointer (some ⟨m,0,none⟩)) (I64 i)=_:=fun m=>ixaV_ptr ⟨by omega,by omega⟩
  have w1:IntKind.i64.wrap (k*b.getD i 0)=k*b.getD i 0:=wrap64_in (by omega) (by omega)
  have w2:IntKind.i64.wrap (a.getD i 0+k*b.getD i 0)=a.getD i 0+k*b.getD i 0:=wrap64_in (by omega) (by omega)
  ((try simp (maxSteps:=3000000) (dsimp:=false) (disch:=first|omega|simp only[lnx];omega) only[↓ypre,ypost,↓reduceIte,reduceEqDiff,reduceAdd,reduceSub,reduceLeDiff,zz0,ynew,f0,f3,f5,f6,f8,f9,decide_eq_true hlt,↓WX_ixa,ia,Int.toNat_natCast,Nat.mul_one,rd1_of g1,rd1_of g2,c1,c2,wrap64_in,w1,w2]);try simp only[yback])
  refine s_l01Mod hp ?_
  ((try simp (maxSteps:=3000000) (dsimp:=false) (disch:=first|omega|simp only[lnx];omega) only[↓ypre,ypost,↓reduceIte,reduceEqDiff,reduceAdd,reduceSub,reduceLeDiff,zz0,ynew,f0,f3,f5,f6,f8,f9,wrap8_in,↓WX_ixa,ia,Int.toNat_natCast,Nat.mul_one,wr_of g1,st,cel_len,lF,wrap64_in]);try simp only[yback])
  refine⟨by omega,?_⟩
  ((try simp (maxSteps:=3000000) (dsimp:=false) (disch:=first|omega|simp only[lnx];omega) only[↓ypre,ypost,↓reduceIte,reduceEqDiff,reduceAdd,reduceSub,reduceLeDiff,zz0,ynew,f0,f3,f5,f6,f8,f9,wrap64_in]);try simp only[yback])
  refine InvQ_go (9-(i+1)) (by omega) ⟨(i+1),rfl,by omega,(by first|rfl|exact f0|(simp only[upd_apply];rfl)|(show I64 _=_;congr 1;omega)),(by first|rfl|exact f3|(simp only[upd_apply];rfl)|(show I64 _=_;congr 1;omega)),(by first|rfl|exact f5|(simp only[upd_apply];rfl)|(show I64 _=_;congr 1;omega)),(by first|rfl|exact f6|(simp only[upd_apply];rfl)|(show I64 _=_;congr 1;omega)),(by first|rfl|exact f8|(simp only[upd_apply];rfl)|(show I64 _=_;congr 1;omega)),(by first|rfl|exact f9|(simp only[upd_apply];rfl)|(show I64 _=_;congr 1;omega)),(pre_put pp (Nat.le_refl _)),(get_put_same (get_lt g1)),(by rw[get_put_ne (by omega)];exact g2),(by rw[get_put_ne (by omega)];exact g3)⟩
 ·have ei:i=9:=by omega
  subst ei
  have t9:(cel .u8 (addF p a b k 9)).take 9=cel .u8 (addF p a b k 9):=List.take_of_length_le (by rw[cel_len,lF];exact Nat.le_refl _)
  have w9:=wr_full (vs:=cel .u8 (addF p a b k 9)) g3 (by rw[cel_len,lF];rfl)
  have l3:=get_lt g3
  ((try simp (maxSteps:=3000000) (dsimp:=false) (disch:=first|omega|simp only[lnx];omega) only[↓ypre,ypost,↓reduceIte,reduceEqDiff,reduceAdd,reduceSub,reduceLeDiff,zz0,ynew,f0,f3,f5,f6,f8,f9,decide_eq_false hlt,rdn_of g1,cel_len,lF,t9,cel_all,w9,rdn_put_same]);try simp only[yback])
  exact hQ _ (pre_put pp (by omega))
def toldL (L:List (List Int)):List (List Int):=L.filter fun q=>!hasZ q
theorem toldL_snoc {L:List (List Int)} {q:List Int}:toldL (L++[q])=if hasZ q=true then toldL L else toldL L++[q]:=by
 unfold toldL
 rw[List.filter_append]
 cases h:hasZ q<;>simp[h]
theorem toldL_len {L:List (List Int)}:(toldL L).length≤L.length:=List.length_filter_le _ _
theorem WayZ.putz {lo a b n:Nat} {h:AH} {sv:Value} {L:List (List Int)} {c:Blk} (o:WayZ lo a b h sv L) (hn:n<lo):WayZ lo a b (h.put n c) sv L:=by
 obtain⟨hw,o|⟨kb,h1,h2,h3,h4⟩⟩:=o
 ·exact⟨hw,.inl o⟩
 ·exact⟨hw,.inr ⟨kb,h1,h2,h3,by rw[get_put_ne (by omega)];exact h4⟩⟩
theorem WayZ.els {lo a b:Nat} {h:AH} {sv:Value} {L:List (List Int)} (o:WayZ lo a b h sv L):Els .u8 27 h sv L:=by
 obtain⟨hw,⟨rfl,rfl⟩|⟨kb,h1,h2,h3,h4⟩⟩:=o
 ·exact .inl ⟨rfl,2,by omega,rfl⟩
 ·exact InE.rd (a:=lo) (b:=h.length) (.inr ⟨kb,_,false,⟨h2,get_lt h4⟩,h1,h4,hw⟩)
theorem WayZ.kN {lo lo' a b:Nat} {h:AH} {sv:Value} {L:List (List Int)} (o:WayZ lo a b h sv L) (bl:Byt 27 L) (hl:lo'≤lo):KN lo' h fun h'=>Prods h' sv L:=fun h' l g=>by
 refine⟨WayZ.els (lo:=lo) (a:=a) (b:=b) ?_,bl⟩
 obtain⟨hw,o|⟨kb,h1,h2,h3,h4⟩⟩:=o
 ·exact⟨hw,.inl o⟩
 ·exact⟨hw,.inr ⟨kb,h1,h2,h3,(g kb (by omega) (get_lt h4)).trans h4⟩⟩
theorem s_l03Told {x:Sch} {v w:Value} {L:List (List Int)} {h:AH} {Q:Value→AH→Prop} (hv:isOne v=true) (hw:Prods h w L) (ll:L.length≤100)
  (hQ:∀ (w':Value) (h':AH),h<+:h'→KN h.length h' (fun h2=>Prods h2 w' (toldL L))→Q (schV ⟨x.p,x.n,x.m,x.k,toldL L⟩ w') h'):WF S 155 [schV x v,w] h Q:=by
 refine WF_fn (fn:=c155) rfl rfl ?_
 dsimp only[c155,oO,oM,oS,oG,oK,oE,oL,oF,oX,oN]
 ((try simp (maxSteps:=3000000) (dsimp:=false) (disch:=first|omega|simp only[lnx];omega) only[↓ypre,ypost,↓reduceIte,reduceEqDiff,reduceAdd,reduceSub,reduceLeDiff,zz0,ynew,schV,hv]);try simp only[yback])
 generalize hH1:AH.new h _=H1
 obtain⟨hb1,p1,n1⟩:=new_facts hH1
 generalize hH2:AH.new H1 _=H2
 obtain⟨hb2,p2,n2⟩:=new_facts hH2
 have g1:=pre_get p2 hb1
 ((try simp (maxSteps:=3000000) (dsimp:=false) (disch:=first|omega|simp only[lnx];omega) only[↓ypre,ypost,↓reduceIte,reduceEqDiff,reduceAdd,reduceSub,reduceLeDiff,zz0,ynew,rdn_of g1]);try simp only[yback])
 refine s_l01Empty (x:=x) hv fun H3 p3=>?_
 ((try simp (maxSteps:=3000000) (dsimp:=false) (disch:=first|omega|simp only[lnx];omega) only[↓ypre,ypost,↓reduceIte,reduceEqDiff,reduceAdd,reduceSub,reduceLeDiff,zz0,ynew,schV]);try simp only[yback])
 generalize hH4:AH.new H3 _=H4
 obtain⟨hb4,p4,n4⟩:=new_facts hH4
 have g2:=pre_get p3 hb2
 have q3:=pre_len p3
 have P3:h<+:H3:=p1.trans (p2.trans p3)
 have w0:WayZ H4.length H4.length H4.length H4 (.slice none 0 2) (toldL (L.take 0)):=⟨fun r hr=>by simp[toldL] at hr,.inl ⟨rfl,rfl⟩⟩
 have elen:=hw.1.len
 refine WC_loop_inv (fun m f K1=>∃ (i:Nat) (sv:Value),m=L.length-i∧i≤L.length∧f 1=w∧f 4=.pointer (some ⟨H1.length,0,none⟩)∧f 5=.pointer (some ⟨H3.length,0,none⟩)∧f 6=I64 i∧(H3<+:K1)∧(H4.length≤K1.length)∧(OwnB K1 H3.length [I64 x.p,I64 x.n,I64 x.m,I64 x.k,sv] true)∧(WayZ H4.length H4.length H4.length K1 sv (toldL (L.take i)))∧(Byt 27 (toldL (L.take i)))) ?_ (L.length-0) _ _ ⟨0,.slice none 0 2,rfl,by omega,(by first|rfl|simp[upd_apply]),(by first|rfl|simp[upd_apply]),(by first|rfl|simp[upd_apply]),(by first|rfl|simp[upd_apply]),p4,Nat.le_refl _,⟨_,hb4⟩,w0,(fun _ h=>by simp[toldL] at h)⟩
 rintro m f K1 ⟨i,sv,rfl,hi,f1,f4,f5,f6,pp,l1,g5,ww,bl⟩
 obtain⟨e5,g5⟩:=g5
 by_cases hlt:(i:Int)<L.length
 ·have hi:i<L.length:=by omega
  obtain⟨nn,off,ix,rd⟩:=((hw.pre (P3.trans pp)).1).at hi
  have by27:By 27 (L.getD i []):=⟨hw.1.wid hi,fun j hj=>hw.2 i hi j hj⟩
  have et:toldL (L.take (i+1))=if hasZ (L.getD i [])=true then toldL (L.take i) else toldL (L.take i)++[L.getD i []]:=by rw[take_next (d:=[]) hi,toldL_snoc]
  generalize L.getD i []=q at rd by27 et
  have q27:=by27.1
  have r27:K1.rdn nn off 27=some (cel .u8 q):=by
   have:=rd.1 0 27 (by omega)
   rwa [Nat.add_zero,List.drop_zero,List.take_of_length_le (by omega)] at this
  have c0:(cel .u8 q).take 9=cel .u8 (seg q 0):=by have:=cel_seg (q:=q) (f:=0);rwa [Nat.zero_mul,List.drop_zero] at this
  have c1:((cel .u8 q).drop 9).take 9=cel .u8 (seg q 1):=cel_seg (f:=1)
  have c2:((cel .u8 q).drop 18).take 9=cel .u8 (seg q 2):=cel_seg (f:=2)
  have n0:=seg_n9 q27 (show 0<3 by omega)
  have n1':=seg_n9 q27 (show 1<3 by omega)
  have n2':=seg_n9 q27 (show 2<3 by omega)
  ((try simp (maxSteps:=3000000) (dsimp:=false) (disch:=first|omega|simp only[lnx];omega) only[↓ypre,ypost,↓reduceIte,reduceEqDiff,reduceAdd,reduceSub,reduceLeDiff,zz0,ynew,f1,f4,f5,f6,elen,decide_eq_true hlt,ix,r27,cel_all,cel_len,q27,sp27z q27,zrep27,splice_27 q27,c0]);try simp only[yback])
  generalize hK2:AH.new K1 _=K2
  obtain⟨hb7,p7,n7⟩:=new_facts hK2
  refine s_l01Zero n0 fun K3 pa=>?_
  have g7:=pre_get pa hb7
  cases z0:isZ (seg q 0) with
  | true=>
   have hz:hasZ q=true:=by unfold hasZ;rw[z0];rfl
   rw[hz,if_pos rfl] at et
   ((try simp (maxSteps:=3000000) (dsimp:=false) (disch:=first|omega|simp only[lnx];omega) only[↓ypre,ypost,↓reduceIte,reduceEqDiff,reduceAdd,reduceSub,reduceLeDiff,zz0,ynew,f1,f4,f5,f6,wrap64_in]);try simp only[yback])
   refine InvQ_go (L.length-(i+1)) (by omega) ⟨(i+1),sv,rfl,by omega,(by first|rfl|exact f1|(simp only[upd_apply];rfl)|(show I64 _=_;congr 1;omega)),(by first|rfl|exact f4|(simp only[upd_apply];rfl)|(show I64 _=_;congr 1;omega)),(by first|rfl|exact f5|(simp only[upd_apply];rfl)|(show I64 _=_;congr 1;omega)),(by first|rfl|exact f6|(simp only[upd_apply];rfl)|(show I64 _=_;congr 1;omega)),(pp.trans (p7.trans pa)),(by have:=pre_len (p7.trans pa);omega),⟨_,pre_get (p7.trans pa) g5⟩,(by rw[et];exact ww.pre (p7.trans pa)),(by rw[et];exact bl)⟩
  | false=>
   ((try simp (maxSteps:=3000000) (dsimp:=false) (disch:=first|omega|simp only[lnx];omega) only[↓ypre,ypost,↓reduceIte,reduceEqDiff,reduceAdd,reduceSub,reduceLeDiff,zz0,ynew,f1,f4,f5,f6,rdn_of g7,cel_len,q27,c1]);try simp only[yback])
   refine s_l01Zero n1' fun K4 pb=>?_
   have g7:=pre_get pb g7
   cases z1:isZ (seg q 1) with
   | true=>
    have hz:hasZ q=true:=by unfold hasZ;rw[z0,z1];rfl
    rw[hz,if_pos rfl] at et
    ((try simp (maxSteps:=3000000) (dsimp:=false) (disch:=first|omega|simp only[lnx];omega) only[↓ypre,ypost,↓reduceIte,reduceEqDiff,reduceAdd,reduceSub,reduceLeDiff,zz0,ynew,f1,f4,f5,f6,wrap64_in]);try simp only[yback])
    refine InvQ_go (L.length-(i+1)) (by omega) ⟨(i+1),sv,rfl,by omega,(by first|rfl|exact f1|(simp only[upd_apply];rfl)|(show I64 _=_;congr 1;omega)),(by first|rfl|exact f4|(simp only[upd_apply];rfl)|(show I64 _=_;congr 1;omega)),(by first|rfl|exact f5|(simp only[upd_apply];rfl)|(show I64 _=_;congr 1;omega)),(by first|rfl|exact f6|(simp only[upd_apply];rfl)|(show I64 _=_;congr 1;omega)),(pp.trans (p7.trans (pa.trans pb))),(by have:=pre_len (p7.trans (pa.trans pb));omega),⟨_,pre_get (p7.trans (pa.trans pb)) g5⟩,(by rw[et];exact ww.pre (p7.trans (pa.trans pb))),(by rw[et];exact bl)⟩
   | false=>
    ((try simp (maxSteps:=3000000) (dsimp:=false) (disch:=first|omega|simp only[lnx];omega) only[↓ypre,ypost,↓reduceIte,reduceEqDiff,reduceAdd,reduceSub,reduceLeDiff,zz0,ynew,f1,f4,f5,f6,rdn_of g7,cel_len,q27,c2]);try simp only[yback])
    refine s_l01Zero n2' fun K5 pc=>?_
    have g7:=pre_get pc g7
    cases z2:isZ (seg q 2) with
    | true=>
    have hz:hasZ q=true:=by unfold hasZ;rw[z0,z1,z2];rfl
    rw[hz,if_pos rfl] at et
    ((try simp (maxSteps:=3000000) (dsimp:=false) (disch:=first|omega|simp only[lnx];omega) only[↓ypre,ypost,↓reduceIte,reduceEqDiff,reduceAdd,reduceSub,reduceLeDiff,zz0,ynew,f1,f4,f5,f6,wrap64_in]);try simp only[yback])
    refine InvQ_go (L.length-(i+1)) (by omega) ⟨(i+1),sv,rfl,by omega,(by first|rfl|exact f1|(simp only[upd_apply];rfl)|(show I64 _=_;congr 1;omega)),(by first|rfl|exact f4|(simp only[upd_apply];rfl)|(show I64 _=_;congr 1;omega)),(by first|rfl|exact f5|(simp only[upd_apply];rfl)|(show I64 _=_;congr 1;omega)),(by first|rfl|exact f6|(simp only[upd_apply];rfl)|(show I64 _=_;congr 1;omega)),(pp.trans (p7.trans (pa.trans (pb.trans pc)))),(by have:=pre_len (p7.trans (pa.trans (pb.trans pc)));omega),⟨_,pre_get (p7.trans (pa.trans (pb.trans pc))) g5⟩,(by rw[et];exact ww.pre (p7.trans (pa.trans (pb.trans pc)))),(by rw[et];exact bl)⟩
    | false=>
     have hz:hasZ q=false:=by unfold hasZ;rw[z0,z1,z2];rfl
     rw[hz,if_neg (by decide)] at et
     have P5:K1<+:K5:=p7.trans (pa.trans (pb.trans pc))
     have L5:=pre_len P5
     have g55:=pre_get P5 g5
     have t27:(cel .u8 q).take 27=cel .u8 q:=List.take_of_length_le (by rw[cel_len,q27];exact Nat.le_refl _)
     have tl:=toldL_len (L:=L.take i)
     have tk:(L.take i).length=i:=by rw[List.length_take];omega
     ((try simp (maxSteps:=3000000) (dsimp:=false) (disch:=first|omega|simp only[lnx];omega) only[↓ypre,ypost,↓reduceIte,reduceEqDiff,reduceAdd,reduceSub,reduceLeDiff,zz0,ynew,f1,f4,f5,f6,rd1_of g55,rdn_of g7,cel_len,q27,t27,zrep27,sp27z q27,fillL,cel_all,List.append_nil,List.length_replicate]);try simp only[yback])
     refine (ww.pre P5).app (q:=q) q27 (by omega) (by omega) (by omega) fun sv' H' l' pre' keep' w'=>?_
     have g6:=keep' _ _ (.inl (by omega)) g55
     have lt6:=get_lt g6
     ((try simp (maxSteps:=3000000) (dsimp:=false) (disch:=first|omega|simp only[lnx];omega) only[↓ypre,ypost,↓reduceIte,reduceEqDiff,reduceAdd,reduceSub,reduceLeDiff,zz0,ynew,f1,f4,f5,f6,w'.one,w'.cells,wr_of g6,splice_eq,wrap64_in]);try simp only[yback])
     rw[←et] at w'
     refine InvQ_go (L.length-(i+1)) (by omega) ⟨(i+1),sv',rfl,by omega,(by first|rfl|exact f1|(simp only[upd_apply];rfl)|(show I64 _=_;congr 1;omega)),(by first|rfl|exact f4|(simp only[upd_apply];rfl)|(show I64 _=_;congr 1;omega)),(by first|rfl|exact f5|(simp only[upd_apply];rfl)|(show I64 _=_;congr 1;omega)),(by first|rfl|exact f6|(simp only[upd_apply];rfl)|(show I64 _=_;congr 1;omega)),(pre_put (pre' _ (by omega) (pp.trans P5)) (Nat.le_refl _)),(by rw[len_put];omega),⟨_,get_put_same lt6⟩,(w'.putz (by omega)),(by rw[et];exact byt_snoc bl by27)⟩
 ·have ei:i=L.length:=by omega
  subst ei
  rw[List.take_length] at ww bl
  have g2:=pre_get pp g2
  have lt2:=get_lt g2
  have q1:=pre_len pp
  ((try simp (maxSteps:=3000000) (dsimp:=false) (disch:=first|omega|simp only[lnx];omega) only[↓ypre,ypost,↓reduceIte,reduceEqDiff,reduceAdd,reduceSub,reduceLeDiff,zz0,ynew,f1,f4,f5,f6,elen,decide_eq_false hlt,rdn_of g5,wr_of g2,splice_eq,rdn_put_same,ww.one]);try simp only[yback])
  exact hQ sv _ (pre_put (P3.trans pp) (by omega)) ((ww.putz (by omega)).kN bl (by omega))
end Go.Proofs.Ytapafdpnmakekaa.X
