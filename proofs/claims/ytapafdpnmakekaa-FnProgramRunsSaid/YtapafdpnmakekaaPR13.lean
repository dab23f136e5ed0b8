/- Texts of one claim, put together by merge.py: XP7, XU2, XU3, XU4, XU5, XW1, XV1, XM2, XM3, XM5, XP9, XM6, XDN, XDD. -/
import Derived.Test.YtapafdpnmakekaaPR10
import Derived.Test.YtapafdpnmakekaaPR11
import Derived.Test.YtapafdpnmakekaaPR12
import Derived.Test.YtapafdpnmakekaaPR9
set_option linter.unusedVariables false
set_option linter.unusedSimpArgs false
set_option maxRecDepth 20000
set_option maxHeartbeats 4000000
namespace Go.Proofs.Ytapafdpnmakekaa.X
open Go Go.RowKit
open Nat (reduceEqDiff reduceAdd reduceSub reduceLeDiff)
def unN (N k:Nat):List Int:=(List.replicate N 0).set k 1
theorem unN_len {N k:Nat}:(unN N k).length=N:=by simp[unN]
theorem unN_in {N k:Nat} {p:Int} (hp:2≤p):allIn p (unN N k)=true:=by
 rw[allIn_iff]
 intro j hj
 unfold unN at hj ⊢
 rw[List.length_set,List.length_replicate] at hj
 rw[List.getD_eq_getElem?_getD,List.getElem?_set]
 split
 ·simp
  split<;>simp<;>omega
 ·rw[List.getElem?_replicate]
  split<;>simp<;>omega
def fmF (x:Prg) (N i k:Nat):Int:=(runP x (unN N k)).getD i 0
def fmL (x:Prg):List (List Int):=(List.range x.out.length).map fun i=>gen x.n.toNat fun k=>fmF x x.n.toNat i k
def fmR (x:Prg):List (List Int)×Int:=if isPrg x=true then (fmL x,0) else ([],1)
theorem fmL_len {x:Prg}:(fmL x).length=x.out.length:=by simp[fmL]
theorem fmL_get {x:Prg} {i:Nat} (hi:i<x.out.length):(fmL x).getD i []=gen x.n.toNat fun k=>fmF x x.n.toNat i k:=by
 simp[fmL,List.getD_eq_getElem?_getD,List.getElem?_map,List.getElem?_range hi]
theorem smallM_of2 {rows:List (List Int)} {A B:Nat} (h1:rows.length≤A) (h2:∀ i,i<rows.length→(rows.getD i []).length≤B) (hAB:A≤1000∧B≤1000):SmallM rows:=by
 have ht:∀ i,i≤rows.length→tot rows i≤i*1000:=fun i=>by
  induction i with
  | zero=>intro _;simp
  | succ i ih=>
   intro hi
   have e:=tot_succ (rows:=rows) (i:=i) (by omega)
   have:=ih (by omega)
   have:=h2 i (by omega)
   omega
 have:=ht rows.length (Nat.le_refl _)
 exact⟨by omega,fun i hi=>by have:=h2 i hi;omega,by omega⟩
theorem TabS.get {h0 h:AH} {nb i:Nat} {full:Bool} {L:List (Nat×List Int)} (s:TabS h0 h nb full L) (hi:i<L.length):h.rd1 nb i=some (sl (L[i]).1 (L[i]).2.length):=by
 rw[rd1_of s.g]
 simp[hi,rowV,sl]
def colL (x:Prg) (N:Nat):List (List Int):=(List.range N).map fun k=>runP x (unN N k)
theorem colL_len {x:Prg} {N:Nat}:(colL x N).length=N:=by simp[colL]
theorem colL_get {x:Prg} {N k:Nat} (hk:k<N):(colL x N).getD k []=runP x (unN N k):=by
 simp[colL,List.getD_eq_getElem?_getD,List.getElem?_map,List.getElem?_range hk]
theorem trL_colL {x:Prg}:trL (colL x x.n.toNat) x.out.length=fmL x:=by
 unfold trL fmL
 rw[colL_len]
 refine List.map_congr_left fun j hj=>gen_congr fun k hk=>?_
 rw[colL_get hk]
 rfl
theorem i_FormsOf {v w:Value} {x:Prg} {h:AH} {Q:Value→AH→Prop} (hv:PrgR h v w x) (hl:SmallP x)
  (hQ:∀ v' h',h<+:h'→OwnRows h h' v' (fmR x).1→Q (.tuple #[v',I64 (fmR x).2]) h'):WF S 55 [prgV x v w] h Q:=by
 refine WF_fn (fn:=c55) rfl rfl ?_
 dsimp only[c55,oO,oM,oS,oG,oK,oE,oL,oF,oX,oN]
 ((try simp (maxSteps:=3000000) (dsimp:=false) (disch:=first|omega|simp only[lnx];omega) only[↓ypre,ypost,↓reduceIte,reduceEqDiff,reduceAdd,reduceSub,reduceLeDiff,zz0,ynew,prgV,hv.1.one,hv.2.one]);try simp only[yback])
 generalize hH1:AH.new h _=H1
 obtain⟨hb1,p1,n1⟩:=new_facts hH1
 ((try simp (maxSteps:=3000000) (dsimp:=false) (disch:=first|omega|simp only[lnx];omega) only[↓ypre,ypost,↓reduceIte,reduceEqDiff,reduceAdd,reduceSub,reduceLeDiff,zz0,ynew,rdn_of hb1]);try simp only[yback])
 refine i_IsPrg (hv.pre p1) hl fun H2 p2=>?_
 have hb2:=pre_get p2 hb1
 unfold fmR at hQ
 cases h1:isPrg x with
 | false=>
  rw[h1,if_neg (by decide)] at hQ
  ((try simp (maxSteps:=3000000) (dsimp:=false) (disch:=first|omega|simp only[lnx];omega) only[↓ypre,ypost,↓reduceIte,reduceEqDiff,reduceAdd,reduceSub,reduceLeDiff,zz0,ynew]);try simp only[yback])
  exact hQ _ _ (p1.trans p2) (.inl ⟨rfl,rfl⟩)
 | true=>
  rw[h1,if_pos rfl,←trL_colL] at hQ
  have pf:=isPrg_facts h1
  have fp:=pf.p
  have fn:=pf.n
  have fout:=pf.out
  have p12:=p1.trans p2
  obtain⟨N,hN⟩:∃ N:Nat,x.n=N:=⟨x.n.toNat,by omega⟩
  have hNt:x.n.toNat=N:=by omega
  rw[hNt] at hQ
  ((try simp (maxSteps:=3000000) (dsimp:=false) (disch:=first|omega|simp only[lnx];omega) only[↓ypre,ypost,↓reduceIte,reduceEqDiff,reduceAdd,reduceSub,reduceLeDiff,zz0,ynew]);try simp only[yback])
  generalize hH3:AH.new H2 _=H3
  obtain⟨hb3,p3,n3⟩:=new_facts hH3
  ((try simp (maxSteps:=3000000) (dsimp:=false) (disch:=first|omega|simp only[lnx];omega) only[↓ypre,ypost,↓reduceIte,reduceEqDiff,reduceAdd,reduceSub,reduceLeDiff,zz0,ynew,rd1_of (pre_get p3 hb2)]);try simp only[yback])
  have lh:=pre_len p12
  refine WC_loop_inv (fun m f K1=>∃ (k:Nat) (nb:Nat) (full:Bool) (L:List (Nat×List Int)),m=N-k∧k≤N∧f 1=.pointer (some ⟨h.length,0,none⟩)∧f 4=sl nb L.length∧f 12=I64 x.n∧f 13=I64 k∧(TabS H2 K1 nb full L)∧(L.map Prod.snd=(colL x N).take k)) ?_ (N-0) _ _ ⟨0,H2.length,true,[],rfl,by omega,(by first|rfl|simp[upd_apply]),(by first|rfl|simp[upd_apply]),(by first|rfl|simp[upd_apply]),(by first|rfl|simp[upd_apply]),⟨p3,Nat.le_refl _,hb3,by simp,by simp⟩,(by simp)⟩
  rintro m f K1 ⟨k,nb,full,L,rfl,hk,f1,f4,f12,f13,st,hL⟩
  have hLl:L.length=k:=by
   have:=congrArg List.length hL
   rw[List.length_map,List.length_take,colL_len] at this
   omega
  have lt:=st.lt
  have lh2:=pre_len st.hp
  have hbK:=pre_get st.hp hb2
  have ltK:=get_lt hbK
  by_cases hlt:(k:Int)<x.n
  ·have hk':k<N:=by omega
   ((try simp (maxSteps:=3000000) (dsimp:=false) (disch:=first|omega|simp only[lnx];omega) only[↓ypre,ypost,↓reduceIte,reduceEqDiff,reduceAdd,reduceSub,reduceLeDiff,zz0,ynew,f1,f4,f12,f13,decide_eq_true hlt,rd1_of hbK]);try simp only[yback])
   refine⟨by omega,?_⟩
   rw[hNt,zrep_ints]
   generalize hH4:AH.new K1 _=H4
   obtain⟨hb4,p4,n4⟩:=new_facts hH4
   have l4:Lst H4 K1.length (List.replicate N 0) true:=hb4
   have ixk:=Lst.ix (n:=K1.length) (j:=(k:Int)) (len:=N) (by omega)
   rw[Int.toNat_natCast] at ixk
   obtain⟨H5,w5,e5,l5⟩:=l4.wr (j:=k) (x:=1) (by rw[List.length_replicate];exact hk')
   have q5:K1<+:H5:=by rw[e5];exact pre_put p4 (Nat.le_refl _)
   have hb5:=pre_get q5 hbK
   rw[show Value.slice (some ⟨K1.length,0,none⟩) N 1=sl K1.length N from rfl]
   ((try simp (maxSteps:=3000000) (dsimp:=false) (disch:=first|omega|simp only[lnx];omega) only[↓ypre,ypost,↓reduceIte,reduceEqDiff,reduceAdd,reduceSub,reduceLeDiff,zz0,ynew,f1,f4,f12,f13,ixk,w5,rdn_of hb5]);try simp only[yback])
   have un:=l5.ints
   rw[show (List.replicate N (0:Int)).set k 1=unN N k from rfl,unN_len] at un
   refine i_run (hv.pre (p12.trans (st.hp.trans q5))) pf un (unN_in fp.1) (by rw[unN_len];omega) fun n fu H6 hn p6 o6=>?_
   have q6:=q5.trans p6
   have l6:=pre_len q5
   ((try simp (maxSteps:=3000000) (dsimp:=false) (disch:=first|omega|simp only[lnx];omega) only[↓ypre,ypost,↓reduceIte,reduceEqDiff,reduceAdd,reduceSub,reduceLeDiff,zz0,ynew,f1,f4,f12,f13,sl_cells,sl_one]);try simp only[yback])
   refine (st.pre q6).app2 ⟨by omega,by omega,fun q hq=>by have:=lt.2 q hq;omega⟩ o6.own (by omega) fun nb' H' st' l' e' own' pre'=>?_
   ((try simp (maxSteps:=3000000) (dsimp:=false) (disch:=first|omega|simp only[lnx];omega) only[↓ypre,ypost,↓reduceIte,reduceEqDiff,reduceAdd,reduceSub,reduceLeDiff,zz0,ynew,f1,f4,f12,f13,wrap64_in]);try simp only[yback])
   refine InvQ_go (N-(k+1)) (by omega) ⟨(k+1),nb',false,(L++[(n,runP x (unN N k))]),rfl,by omega,(by first|rfl|exact f1|(simp only[upd_apply];rfl)|(show I64 _=_;congr 1;omega)),(by first|rfl|exact f4|(simp only[upd_apply];rfl)|(show I64 _=_;congr 1;omega)),(by first|rfl|exact f12|(simp only[upd_apply];rfl)|(show I64 _=_;congr 1;omega)),(by first|rfl|exact f13|(simp only[upd_apply];rfl)|(show I64 _=_;congr 1;omega)),st',?_⟩
   rw[List.map_append,hL,take_next (d:=[]) (by rw[colL_len];exact hk'),colL_get hk']
   rfl
  ·have ek:k=N:=by omega
   subst ek
   rw[List.take_of_length_le (by rw[colL_len];exact Nat.le_refl _)] at hL
   ((try simp (maxSteps:=3000000) (dsimp:=false) (disch:=first|omega|simp only[lnx];omega) only[↓ypre,ypost,↓reduceIte,reduceEqDiff,reduceAdd,reduceSub,reduceLeDiff,zz0,ynew,f1,f4,f12,f13,decide_eq_false hlt]);try simp only[yback])
   have o:=st.own
   rw[hL] at o
   refine i_transposed (w:=x.out.length) o.rows (by rw[colL_len];omega) (by rw[colL_len];omega) (fun i hi=>by rw[colL_len] at hi;rw[colL_get hi,runP_len]) (by omega) fun v' H' p' o'=>?_
   ((try simp (maxSteps:=3000000) (dsimp:=false) (disch:=first|omega|simp only[lnx];omega) only[↓ypre,ypost,↓reduceIte,reduceEqDiff,reduceAdd,reduceSub,reduceLeDiff,zz0,ynew]);try simp only[yback])
   exact hQ _ _ (p12.trans (st.hp.trans p')) (o'.lo (pre_len (p12.trans st.hp)))
theorem TabL.keepNe {h h':AH} {lo nb nb2:Nat} {full:Bool} {L:List (Nat×List Int)} (s:TabL h lo nb full L) {b2:Blk} (g2:h.get nb2=some b2) (h2:b2.e=27) (hne:nb≠nb2) (hk:∀ m b,m≠nb2→h.get m=some b→h'.get m=some b):TabL h' lo nb full L:=
 ⟨hk _ _ hne s.g,s.low,fun i hi=>⟨(s.rows i hi).1,by
  obtain⟨fu,o⟩:=(s.rows i hi).2
  refine⟨fu,hk _ _ ?_ o⟩
  rintro e
  unfold Lst at o
  rw[e,g2] at o
  cases o
  simp at h2⟩,s.dist⟩
def prgC (x:Prg) (v w:Value):List Value:=[I64 x.p,I64 x.n,v,w]
theorem seg_two {q:List Int} {k:Nat} (hk:k<9):q.getD (18+k) 0=(seg q 2).getD k 0:=by
 unfold seg
 rw[cut_get hk]
theorem s_l07Programs {v:Value} {x:Sch} {b:Bool} {h:AH} {Q:Value→AH→Prop} (hv:Prods h v x.ps) (hx:isX x=true) (h0:1≤x.ps.length)
  (hQ:∀ (nb c1 c2:Nat) (h':AH) (v1 w1 v2 w2 v3 w3:Value),h<+:h'→h'.get nb=some ⟨prgC (pgX x b 0) v1 w1++prgC (pgX x b 1) v2 w2++prgC (pgX x b 2) v3 w3,70,false,true⟩→h.length≤c1→InP h.length c1 h' v1 w1 (pgX x b 0)→InP c1 c2 h' v2 w2 (pgX x b 1)→InP c2 nb h' v3 w3 (pgX x b 2)→Q (.slice (some ⟨nb,0,none⟩) 3 4) h'):WF S 262 [schV x v,.bool b] h Q:=by
 refine WF_fn (fn:=c262) rfl rfl ?_
 dsimp only[c262,oO,oM,oS,oG,oK,oE,oL,oF,oX,oN]
 obtain⟨z,hp,hl,ho⟩:=isX_facts hx
 have zn:=z.nm
 have zm:=z.mk2
 have zk:=z.nk
 ((try simp (maxSteps:=3000000) (dsimp:=false) (disch:=first|omega|simp only[lnx];omega) only[↓ypre,ypost,↓reduceIte,reduceEqDiff,reduceAdd,reduceSub,reduceLeDiff,zz0,ynew,schV,hv.one]);try simp only[yback])
 generalize hH1:AH.new h _=H1
 obtain⟨hb1,p1,n1⟩:=new_facts hH1
 ((try simp (maxSteps:=3000000) (dsimp:=false) (disch:=first|omega|simp only[lnx];omega) only[↓ypre,ypost,↓reduceIte,reduceEqDiff,reduceAdd,reduceSub,reduceLeDiff,zz0,ynew,rdn_of hb1]);try simp only[yback])
 refine s_l01Lengths (x:=x) hv.one z fun H2 p2=>?_
 ((try simp (maxSteps:=3000000) (dsimp:=false) (disch:=first|omega|simp only[lnx];omega) only[↓ypre,ypost,↓reduceIte,reduceEqDiff,reduceAdd,reduceSub,reduceLeDiff,zz0,ynew]);try simp only[yback])
 generalize hH3:AH.new H2 _=H3
 obtain⟨hb3,p3,n3⟩:=new_facts hH3
 generalize hH4:AH.new H3 _=H4
 obtain⟨hb4,p4,n4⟩:=new_facts hH4
 generalize hH5:AH.new H4 _=H5
 obtain⟨hb5,p5,n5⟩:=new_facts hH5
 have p25:=(p3.trans p4).trans p5
 have nil0:∀ {K:AH} {nb:Nat} {fl:Bool},K.get nb=some ⟨[],27,false,fl⟩→H2.length≤nb→TabL K H2.length nb fl []:=fun g hn=>⟨g,hn,fun i hi=>by simp at hi,fun a b ha=>by simp at ha⟩
 have tA0:=nil0 (pre_get (p4.trans p5) hb3) (Nat.le_refl _)
 have tB0:=nil0 (pre_get p5 hb4) (by omega)
 obtain⟨a,ha⟩:∃ a:Nat,x.n*x.m=a:=⟨(x.n*x.m).toNat,by omega⟩
 obtain⟨b',hb'⟩:∃ b':Nat,x.m*x.k=b':=⟨(x.m*x.k).toNat,by omega⟩
 obtain⟨c',hc'⟩:∃ c':Nat,x.n*x.k=c':=⟨(x.n*x.k).toNat,by omega⟩
 refine WC_loop_inv (fun m f K1=>∃ (i:Nat) (nA:Nat) (fA:Bool) (LA:List (Nat×List Int)) (nB:Nat) (fB:Bool) (LB:List (Nat×List Int)),m=x.ps.length-i∧i≤x.ps.length∧f 1=.bool b∧f 2=.pointer (some ⟨h.length,0,none⟩)∧f 5=I64 (x.n*x.m)∧f 6=I64 (x.m*x.k)∧f 7=I64 (x.n*x.k)∧f 8=sl nA LA.length∧f 9=sl nB LB.length∧f 10=sl H4.length 0∧f 11=I64 i∧(H2<+:K1)∧(TabL K1 H2.length nA fA LA)∧(LA.map Prod.snd=(lsF x 0 a).take i)∧(TabL K1 H2.length nB fB LB)∧(LB.map Prod.snd=(lsF x 1 b').take i)∧(K1.get H4.length=some ⟨[],27,false,true⟩)∧(nA≠nB∧nA≠H4.length∧nB≠H4.length)) ?_ (x.ps.length-0) _ _ ⟨0,H2.length,true,[],H3.length,true,[],rfl,by omega,(by first|rfl|simp[upd_apply]),(by first|rfl|simp[upd_apply]),(by first|rfl|simp[upd_apply]),(by first|rfl|simp[upd_apply]),(by first|rfl|simp[upd_apply]),(by first|rfl|simp[upd_apply]),(by first|rfl|simp[upd_apply]),(by first|rfl|simp[upd_apply]),(by first|rfl|simp[upd_apply]),p25,tA0,(by simp),tB0,(by simp),hb5,⟨by omega,by omega,by omega⟩⟩
 rintro m f K1 ⟨i,nA,fA,LA,nB,fB,LB,rfl,hi,f1,f2,f5,f6,f7,f8,f9,f10,f11,pp,tA,hA,tB,hB,gC,hne⟩
 have hLA:LA.length=i:=by
  have:=congrArg List.length hA
  rw[List.length_map,List.length_take,lsF_len] at this
  omega
 have hLB:LB.length=i:=by
  have:=congrArg List.length hB
  rw[List.length_map,List.length_take,lsF_len] at this
  omega
 have hbK:=pre_get (p2.trans pp) hb1
 have hvK:=hv.pre ((p1.trans p2).trans pp)
 have k1:=pre_len pp
 have ltC:=get_lt gC
 by_cases hlt:(i:Int)<x.ps.length
 ·have hi':i<x.ps.length:=by omega
  obtain⟨n5',off5,hix,hrn,hr1⟩:=hvK.1.at hi'
  have ra:=hrn 0 9 (by omega)
  have hby:=hvK.by hi'
  have s0:List.take 9 (List.drop 0 (x.ps.getD i []))=seg (x.ps.getD i []) 0:=rfl
  have s1:List.take 9 (List.drop 9 (x.ps.getD i []))=seg (x.ps.getD i []) 1:=rfl
  rw[s0] at ra
  rw[ha] at f5
  rw[hb'] at f6
  ((try simp (maxSteps:=3000000) (dsimp:=false) (disch:=first|omega|simp only[lnx];omega) only[↓ypre,ypost,↓reduceIte,reduceEqDiff,reduceAdd,reduceSub,reduceLeDiff,zz0,ynew,f1,f2,f5,f6,f7,f8,f9,f10,f11,rd1_of hbK,hvK.1.len,decide_eq_true hlt,hix,ra]);try simp only[yback])
  refine s_l07Numbers (hby.seg (i:=0) (by omega)) (by omega) fun kn fu H6 hkn p6 l6=>?_
  have k6:=pre_len p6
  have rowlt:∀ {LX:List (Nat×List Int)} {nX:Nat} {fX:Bool} {KX:AH},TabL KX H2.length nX fX LX→∀ j (hj:j<LX.length),(LX[j]).1<KX.length:=fun s j hj=>by
   obtain⟨fu,o⟩:=(s.rows j hj).2
   exact o.lt
  ((try simp (maxSteps:=3000000) (dsimp:=false) (disch:=first|omega|simp only[lnx];omega) only[↓ypre,ypost,↓reduceIte,reduceEqDiff,reduceAdd,reduceSub,reduceLeDiff,zz0,ynew,f1,f2,f5,f6,f7,f8,f9,f10,f11,sl_cells,sl_one]);try simp only[yback])
  refine (tA.pre p6).app (by omega) (fun j hj=>by have:=rowlt tA j hj;omega) l6 (by omega) (by omega) fun H7 l7 tA7 keep7 pre7=>?_
  have tB7:=(tB.pre p6).keepNe (tA.pre p6).g rfl hne.1.symm keep7
  have gC7:=keep7 _ _ hne.2.1.symm (pre_get p6 gC)
  have pp7:=pre7 _ tA.low (pp.trans p6)
  have hb7:=pre_get (p2.trans pp7) hb1
  have hv7:=hv.pre ((p1.trans p2).trans pp7)
  obtain⟨n7',off7,hix7,hrn7,_⟩:=hv7.1.at hi'
  have rb:=hrn7 9 9 (by omega)
  rw[s1] at rb
  ((try simp (maxSteps:=3000000) (dsimp:=false) (disch:=first|omega|simp only[lnx];omega) only[↓ypre,ypost,↓reduceIte,reduceEqDiff,reduceAdd,reduceSub,reduceLeDiff,zz0,ynew,f1,f2,f5,f6,f7,f8,f9,f10,f11,rd1_of hb7,hix7,rb]);try simp only[yback])
  refine s_l07Numbers (hby.seg (i:=1) (by omega)) (by omega) fun kn2 fu2 H8 hkn2 p8 l8=>?_
  have k8:=pre_len p8
  ((try simp (maxSteps:=3000000) (dsimp:=false) (disch:=first|omega|simp only[lnx];omega) only[↓ypre,ypost,↓reduceIte,reduceEqDiff,reduceAdd,reduceSub,reduceLeDiff,zz0,ynew,f1,f2,f5,f6,f7,f8,f9,f10,f11,sl_cells,sl_one]);try simp only[yback])
  refine (tB7.pre p8).app (by omega) (fun j hj=>by have:=rowlt tB7 j hj;omega) l8 (by omega) (by omega) fun H9 l9 tB9 keep9 pre9=>?_
  have tA9:=(tA7.pre p8).keepNe (tB7.pre p8).g rfl (by have:=get_lt tB.g;omega) keep9
  have gC9:=keep9 _ _ hne.2.2.symm (pre_get p8 gC7)
  ((try simp (maxSteps:=3000000) (dsimp:=false) (disch:=first|omega|simp only[lnx];omega) only[↓ypre,ypost,↓reduceIte,reduceEqDiff,reduceAdd,reduceSub,reduceLeDiff,zz0,ynew,f1,f2,f5,f6,f7,f8,f9,f10,f11,wrap64_in]);try simp only[yback])
  refine InvQ_go (x.ps.length-(i+1)) (by omega) ⟨(i+1),(H6.length+1),false,(LA++[(kn,(seg (x.ps.getD i []) 0).take a)]),(H8.length+1),false,(LB++[(kn2,(seg (x.ps.getD i []) 1).take b')]),rfl,by omega,(by first|rfl|exact f1|(simp only[upd_apply];rfl)|(show I64 _=_;congr 1;omega)),(by first|rfl|exact f2|(simp only[upd_apply];rfl)|(show I64 _=_;congr 1;omega)),(by rw[ha];exact f5),(by rw[hb'];exact f6),(by first|rfl|exact f7|(simp only[upd_apply];rfl)|(show I64 _=_;congr 1;omega)),(by first|rfl|exact f8|(simp only[upd_apply];rfl)|(show I64 _=_;congr 1;omega)),(by first|rfl|exact f9|(simp only[upd_apply];rfl)|(show I64 _=_;congr 1;omega)),(by first|rfl|exact f10|(simp only[upd_apply];rfl)|(show I64 _=_;congr 1;omega)),(by first|rfl|exact f11|(simp only[upd_apply];rfl)|(show I64 _=_;congr 1;omega)),(pre9 _ tB.low (pp7.trans p8)),tA9,(by rw[List.map_append,hA,take_next (d:=[]) (by rw[lsF_len];exact hi'),lsF_get hi'];rfl),tB9,(by rw[List.map_append,hB,take_next (d:=[]) (by rw[lsF_len];exact hi'),lsF_get hi'];rfl),gC9,⟨by omega,by omega,by omega⟩⟩
 have ei:i=x.ps.length:=by omega
 subst ei
 rw[List.take_of_length_le (by rw[lsF_len];exact Nat.le_refl _)] at hA hB
 ((try simp (maxSteps:=3000000) (dsimp:=false) (disch:=first|omega|simp only[lnx];omega) only[↓ypre,ypost,↓reduceIte,reduceEqDiff,reduceAdd,reduceSub,reduceLeDiff,zz0,ynew,f1,f2,f5,f6,f7,f8,f9,f10,f11,rd1_of hbK,hvK.1.len,decide_eq_false hlt]);try simp only[yback])
 rw[hc'] at f7
 have eC:fmX x 2=trL (lsF x 2 c') c':=by
  show trL (lsF x 2 (x.n*x.k).toNat) (x.n*x.k).toNat=_
  rw[hc',Int.toNat_natCast]
 have lC:(fmX x 2).length=c':=by rw[eC,trL_len]
 have tC0:=nil0 gC (by omega)
 refine WC_loop_inv (fun m f K2=>∃ (k:Nat) (nC:Nat) (fC:Bool) (LC:List (Nat×List Int)),m=c'-k∧k≤c'∧f 1=.bool b∧f 2=.pointer (some ⟨h.length,0,none⟩)∧f 5=I64 (x.n*x.m)∧f 6=I64 (x.m*x.k)∧f 7=I64 c'∧f 8=sl nA LA.length∧f 9=sl nB LB.length∧f 10=sl nC LC.length∧f 12=I64 k∧(H2<+:K2)∧(TabL K2 H2.length nA fA LA)∧(TabL K2 H2.length nB fB LB)∧(TabL K2 H2.length nC fC LC)∧(LC.map Prod.snd=(fmX x 2).take k)∧(nA≠nC∧nB≠nC)) ?_ (c'-0) _ _ ⟨0,H4.length,true,[],rfl,by omega,(by first|rfl|exact f1|(simp[upd_apply];done)),(by first|rfl|exact f2|(simp[upd_apply];done)),(by first|rfl|exact f5|(simp[upd_apply];done)),(by first|rfl|exact f6|(simp[upd_apply];done)),(by first|rfl|exact f7|(simp[upd_apply];done)),(by first|rfl|exact f8|(simp[upd_apply];done)),(by first|rfl|exact f9|(simp[upd_apply];done)),(by first|rfl|exact f10|(simp[upd_apply];done)),(by first|rfl|simp[upd_apply]),pp,tA,tB,tC0,(by simp),⟨hne.2.1,hne.2.2⟩⟩
 rintro m f K2 ⟨k,nC,fC,LC,rfl,hk,f1,f2,f5,f6,f7,f8,f9,f10,f12,pp,tA,tB,tC,hC,hne⟩
 have hLC:LC.length=k:=by
  have:=congrArg List.length hC
  rw[List.length_map,List.length_take,lC] at this
  omega
 have hbK:=pre_get (p2.trans pp) hb1
 have hvK:=hv.pre ((p1.trans p2).trans pp)
 have k2:=pre_len pp
 by_cases hltk:(k:Int)<c'
 ·have hkc:k<c':=by omega
  ((try simp (maxSteps:=3000000) (dsimp:=false) (disch:=first|omega|simp only[lnx];omega) only[↓ypre,ypost,↓reduceIte,reduceEqDiff,reduceAdd,reduceSub,reduceLeDiff,zz0,ynew,f1,f2,f5,f6,f7,f8,f9,f10,f12,decide_eq_true hltk]);try simp only[yback])
  generalize hH6:AH.new K2 _=H6
  obtain⟨hb6,p6,n6⟩:=new_facts hH6
  have l0:Lst H6 K2.length (gen 0 fun j=>(seg (x.ps.getD j []) 2).getD k 0) true:=hb6
  refine WC_loop_inv (fun m f K3=>∃ (i:Nat) (kn:Nat) (fu:Bool),m=x.ps.length-i∧i≤x.ps.length∧f 1=.bool b∧f 2=.pointer (some ⟨h.length,0,none⟩)∧f 5=I64 (x.n*x.m)∧f 6=I64 (x.m*x.k)∧f 7=I64 c'∧f 8=sl nA LA.length∧f 9=sl nB LB.length∧f 10=sl nC LC.length∧f 12=I64 k∧f 13=sl kn (gen i fun j=>(seg (x.ps.getD j []) 2).getD k 0).length∧f 14=I64 i∧(K2<+:K3)∧(Lst K3 kn (gen i fun j=>(seg (x.ps.getD j []) 2).getD k 0) fu)∧(K2.length≤kn)) ?_ (x.ps.length-0) _ _ ⟨0,K2.length,true,rfl,by omega,(by first|rfl|exact f1|(simp[upd_apply];done)),(by first|rfl|exact f2|(simp[upd_apply];done)),(by first|rfl|exact f5|(simp[upd_apply];done)),(by first|rfl|exact f6|(simp[upd_apply];done)),(by first|rfl|exact f7|(simp[upd_apply];done)),(by first|rfl|exact f8|(simp[upd_apply];done)),(by first|rfl|exact f9|(simp[upd_apply];done)),(by first|rfl|exact f10|(simp[upd_apply];done)),(by first|rfl|exact f12|(simp[upd_apply];done)),(by first|rfl|simp[upd_apply]),(by first|rfl|simp[upd_apply]),p6,l0,Nat.le_refl _⟩
  rintro m f K3 ⟨i,kn,fu,rfl,hi,f1,f2,f5,f6,f7,f8,f9,f10,f12,f13,f14,p3x,lo,hkn⟩
  have hb3:=pre_get p3x hbK
  have hv3:=hvK.pre p3x
  have gl:=gen_len (N:=i) (g:=fun j=>(seg (x.ps.getD j []) 2).getD k 0)
  by_cases hlti:(i:Int)<x.ps.length
  ·have hi':i<x.ps.length:=by omega
   obtain⟨n5',off5,hix,hrn,hr1⟩:=hv3.1.at hi'
   have rdk:=hr1 (18+k) (by omega)
   rw[seg_two (by omega),←Nat.add_assoc] at rdk
   have sb:=((hv3.by hi').seg (i:=2) (by omega)).2 k (by omega)
   have ixa:=ixa_u (n:=n5') (off:=off5+18) (len:=9) (kk:=.i64) (j:=k) (by omega)
   ((try simp (maxSteps:=3000000) (dsimp:=false) (disch:=first|omega|simp only[lnx];omega) only[↓ypre,ypost,↓reduceIte,reduceEqDiff,reduceAdd,reduceSub,reduceLeDiff,zz0,ynew,f1,f2,f5,f6,f7,f8,f9,f10,f12,f13,f14,rd1_of hb3,hv3.1.len,decide_eq_true hlti,hix,ixa,rdk,wrap64_in]);try simp only[yback])
   refine lo.app3 (by omega) fun H7 l7 pre7 keep7 lo7=>?_
   rw[←gen_succ (g:=fun j=>(seg (x.ps.getD j []) 2).getD k 0)] at lo7
   ((try simp (maxSteps:=3000000) (dsimp:=false) (disch:=first|omega|simp only[lnx];omega) only[↓ypre,ypost,↓reduceIte,reduceEqDiff,reduceAdd,reduceSub,reduceLeDiff,zz0,ynew,f1,f2,f5,f6,f7,f8,f9,f10,f12,f13,f14,wrap64_in]);try simp only[yback])
   refine InvQ_go (x.ps.length-(i+1)) (by omega) ⟨(i+1),(K3.length+1),false,rfl,by omega,(by first|rfl|exact f1|(simp only[upd_apply];rfl)|(show I64 _=_;congr 1;omega)),(by first|rfl|exact f2|(simp only[upd_apply];rfl)|(show I64 _=_;congr 1;omega)),(by first|rfl|exact f5|(simp only[upd_apply];rfl)|(show I64 _=_;congr 1;omega)),(by first|rfl|exact f6|(simp only[upd_apply];rfl)|(show I64 _=_;congr 1;omega)),(by first|rfl|exact f7|(simp only[upd_apply];rfl)|(show I64 _=_;congr 1;omega)),(by first|rfl|exact f8|(simp only[upd_apply];rfl)|(show I64 _=_;congr 1;omega)),(by first|rfl|exact f9|(simp only[upd_apply];rfl)|(show I64 _=_;congr 1;omega)),(by first|rfl|exact f10|(simp only[upd_apply];rfl)|(show I64 _=_;congr 1;omega)),(by first|rfl|exact f12|(simp only[upd_apply];rfl)|(show I64 _=_;congr 1;omega)),(by rw[gen_succ];rfl),(by first|rfl|exact f14|(simp only[upd_apply];rfl)|(show I64 _=_;congr 1;omega)),(pre7 _ hkn p3x),lo7,(by have:=pre_len p3x;omega)⟩
  have ei:i=x.ps.length:=by omega
  subst ei
  have eR:(gen x.ps.length fun j=>(seg (x.ps.getD j []) 2).getD k 0)=(fmX x 2).getD k []:=by
   rw[eC,trL_get hkc,lsF_len]
   exact gen_congr fun j hj=>by rw[lsF_get hj,take_getD hkc]
  ((try simp (maxSteps:=3000000) (dsimp:=false) (disch:=first|omega|simp only[lnx];omega) only[↓ypre,ypost,↓reduceIte,reduceEqDiff,reduceAdd,reduceSub,reduceLeDiff,zz0,ynew,f1,f2,f5,f6,f7,f8,f9,f10,f12,f13,f14,rd1_of hb3,hv3.1.len,decide_eq_false hlti,sl_cells,sl_one]);try simp only[yback])
  have k3:=pre_len p3x
  have rowlt:∀ j (hj:j<LC.length),(LC[j]).1<K2.length:=fun j hj=>by
   obtain⟨fu,o⟩:=(tC.rows j hj).2
   exact o.lt
  refine (tC.pre p3x).app (by omega) (fun j hj=>by have:=rowlt j hj;omega) lo (by omega) (by omega) fun H8 l8 tC8 keep8 pre8=>?_
  have tA8:=(tA.pre p3x).keepNe (tC.pre p3x).g rfl hne.1 keep8
  have tB8:=(tB.pre p3x).keepNe (tC.pre p3x).g rfl hne.2 keep8
  have lA:=get_lt tA.g
  have lB:=get_lt tB.g
  ((try simp (maxSteps:=3000000) (dsimp:=false) (disch:=first|omega|simp only[lnx];omega) only[↓ypre,ypost,↓reduceIte,reduceEqDiff,reduceAdd,reduceSub,reduceLeDiff,zz0,ynew,f1,f2,f5,f6,f7,f8,f9,f10,f12,f13,f14,wrap64_in]);try simp only[yback])
  refine InvQ_go (c'-(k+1)) (by omega) ⟨(k+1),(K3.length+1),false,(LC++[(kn,gen x.ps.length fun j=>(seg (x.ps.getD j []) 2).getD k 0)]),rfl,by omega,(by first|rfl|exact f1|(simp only[upd_apply];rfl)|(show I64 _=_;congr 1;omega)),(by first|rfl|exact f2|(simp only[upd_apply];rfl)|(show I64 _=_;congr 1;omega)),(by first|rfl|exact f5|(simp only[upd_apply];rfl)|(show I64 _=_;congr 1;omega)),(by first|rfl|exact f6|(simp only[upd_apply];rfl)|(show I64 _=_;congr 1;omega)),(by first|rfl|exact f7|(simp only[upd_apply];rfl)|(show I64 _=_;congr 1;omega)),(by first|rfl|exact f8|(simp only[upd_apply];rfl)|(show I64 _=_;congr 1;omega)),(by first|rfl|exact f9|(simp only[upd_apply];rfl)|(show I64 _=_;congr 1;omega)),(by first|rfl|exact f10|(simp only[upd_apply];rfl)|(show I64 _=_;congr 1;omega)),(by first|rfl|exact f12|(simp only[upd_apply];rfl)|(show I64 _=_;congr 1;omega)),(pre8 _ tC.low (pp.trans p3x)),tA8,tB8,tC8,(by rw[List.map_append,hC,take_next (d:=[]) (by rw[lC];exact hkc),←eR];rfl),⟨by omega,by omega⟩⟩
 have ek:k=c':=by omega
 subst ek
 rw[List.take_of_length_le (by rw[lC];exact Nat.le_refl _)] at hC
 have rA:=tA.rowsR
 have rB:=tB.rowsR
 have rC:=tC.rowsR
 have eA:fmX x 0=lsF x 0 a:=by
  show lsF x 0 (x.n*x.m).toNat=_
  rw[ha,Int.toNat_natCast]
 have eB:fmX x 1=lsF x 1 b':=by
  show lsF x 1 (x.m*x.k).toNat=_
  rw[hb',Int.toNat_natCast]
 rw[hA,←eA] at rA
 rw[hB,←eB] at rB
 rw[hC] at rC
 have okA:lsOK x.p (x.n*x.m) (fmX x 0)=true:=fmX_ok hvK hx h0 (i:=0) (by omega)
 have okB:lsOK x.p (x.m*x.k) (fmX x 1)=true:=fmX_ok hvK hx h0 (i:=1) (by omega)
 have okC:lsOK x.p (x.ps.length:Int) (fmX x 2)=true:=fmX_ok hvK hx h0 (i:=2) (by omega)
 ((try simp (maxSteps:=3000000) (dsimp:=false) (disch:=first|omega|simp only[lnx];omega) only[↓ypre,ypost,↓reduceIte,reduceEqDiff,reduceAdd,reduceSub,reduceLeDiff,zz0,ynew,f1,f2,f5,f6,f7,f8,f9,f10,f12,decide_eq_false hltk,rd1_of hbK]);try simp only[yback])
 refine s_l07Of (b:=b) rA okA fun v1 w1 H10 p10 o1 ob1=>?_
 have hb10:=pre_get p10 hbK
 have hv10:=hvK.pre p10
 ((try simp (maxSteps:=3000000) (dsimp:=false) (disch:=first|omega|simp only[lnx];omega) only[↓ypre,ypost,↓reduceIte,reduceEqDiff,reduceAdd,reduceSub,reduceLeDiff,zz0,ynew,f1,f2,f5,f6,f7,f8,f9,f10,f12,rd1_of hb10]);try simp only[yback])
 refine⟨p10,?_⟩
 refine s_l07Of (b:=b) (rB.pre p10) okB fun v2 w2 H11 p11 o2 ob2=>?_
 have hb11:=pre_get p11 hb10
 have hv11:=hv10.pre p11
 ((try simp (maxSteps:=3000000) (dsimp:=false) (disch:=first|omega|simp only[lnx];omega) only[↓ypre,ypost,↓reduceIte,reduceEqDiff,reduceAdd,reduceSub,reduceLeDiff,zz0,ynew,f1,f2,f5,f6,f7,f8,f9,f10,f12,rd1_of hb11,hv11.1.len]);try simp only[yback])
 refine⟨p11,?_⟩
 refine s_l07Of (b:=b) ((rC.pre p10).pre p11) okC fun v3 w3 H12 p12 o3 ob3=>?_
 ((try simp (maxSteps:=3000000) (dsimp:=false) (disch:=first|omega|simp only[lnx];omega) only[↓ypre,ypost,↓reduceIte,reduceEqDiff,reduceAdd,reduceSub,reduceLeDiff,zz0,ynew,f1,f2,f5,f6,f7,f8,f9,f10,f12,prgV,o1.st.one,o1.out.one,o2.st.one,o2.out.one,o3.st.one,o3.out.one,o1.st.cells,o1.out.cells,o2.st.cells,o2.out.cells,o3.st.cells,o3.out.cells,fillL]);try simp only[yback])
 have q1:=pre_len p10
 have q2:=pre_len p11
 have q3:=pre_len p12
 have kh:=pre_len ((p1.trans p2).trans pp)
 have pN:∀ {bl:Blk},H12<+:AH.new H12 bl:=pre_new (List.prefix_refl _)
 exact hQ H12.length H10.length H11.length _ v1 w1 v2 w2 v3 w3 (((((p1.trans p2).trans pp).trans p10).trans p11).trans (p12.trans pN)) get_new_same (by omega)
  (((o1.inP ob1 q1).pre ((p11.trans p12).trans pN)).mono kh (Nat.le_refl _)) ((o2.inP ob2 q2).pre (p12.trans pN)) ((o3.inP ob3 q3).pre pN)
def cdX (x:Sch):Int:=if isX x=true then (if x.ps.length=0 then 5 else 0) else 1
theorem cdX_0 {x:Sch} (h:cdX x=0):isX x=true∧1≤x.ps.length:=by
 unfold cdX at h
 split at h
 ·rename_i h1
  split at h
  ·omega
  ·exact⟨h1,by omega⟩
 ·omega
theorem s_l07Code {v:Value} {x:Sch} {h:AH} {Q:Value→AH→Prop} (hv:Prods h v x.ps) (hl:SmallX x.ps) (hQ:∀ h',h<+:h'→Q (I64 (cdX x)) h'):WF S 261 [schV x v] h Q:=by
 refine WF_fn (fn:=c261) rfl rfl ?_
 dsimp only[c261,oO,oM,oS,oG,oK,oE,oL,oF,oX,oN]
 ((try simp (maxSteps:=3000000) (dsimp:=false) (disch:=first|omega|simp only[lnx];omega) only[↓ypre,ypost,↓reduceIte,reduceEqDiff,reduceAdd,reduceSub,reduceLeDiff,zz0,ynew,schV,hv.one]);try simp only[yback])
 generalize hH1:AH.new h _=H1
 obtain⟨hb1,p1,n1⟩:=new_facts hH1
 ((try simp (maxSteps:=3000000) (dsimp:=false) (disch:=first|omega|simp only[lnx];omega) only[↓ypre,ypost,↓reduceIte,reduceEqDiff,reduceAdd,reduceSub,reduceLeDiff,zz0,ynew,rdn_of hb1]);try simp only[yback])
 refine s_l01Is (hv.pre p1) hl fun H2 p2=>?_
 have hb2:=pre_get p2 hb1
 have hQ2:=hQ _ (p1.trans p2)
 unfold cdX at hQ2
 cases h1:isX x with
 | false=>
  rw[h1,if_neg (by decide)] at hQ2
  ((try simp (maxSteps:=3000000) (dsimp:=false) (disch:=first|omega|simp only[lnx];omega) only[↓ypre,ypost,↓reduceIte,reduceEqDiff,reduceAdd,reduceSub,reduceLeDiff,zz0,ynew]);try simp only[yback])
  exact hQ2
 | true=>
  rw[h1,if_pos rfl] at hQ2
  by_cases h2:x.ps.length=0
  ·rw[if_pos h2] at hQ2
   ((try simp (maxSteps:=3000000) (dsimp:=false) (disch:=first|omega|simp only[lnx];omega) only[↓ypre,ypost,↓reduceIte,reduceEqDiff,reduceAdd,reduceSub,reduceLeDiff,zz0,ynew,rd1_of hb2,(hv.pre (p1.trans p2)).1.len,decide_eq_true (show (x.ps.length:Int)=0 by omega)]);try simp only[yback])
   exact hQ2
  ·rw[if_neg h2] at hQ2
   ((try simp (maxSteps:=3000000) (dsimp:=false) (disch:=first|omega|simp only[lnx];omega) only[↓ypre,ypost,↓reduceIte,reduceEqDiff,reduceAdd,reduceSub,reduceLeDiff,zz0,ynew,rd1_of hb2,(hv.pre (p1.trans p2)).1.len,decide_eq_false (show ¬ (x.ps.length:Int)=0 by omega)]);try simp only[yback])
   exact hQ2
theorem i_productsCode {v:Value} {x:Sch} {h:AH} {Q:Value→AH→Prop} (hv:Prods h v x.ps) (hl:SmallX x.ps) (hQ:∀ h',h<+:h'→Q (I64 (cdX x)) h'):WF S 265 [schV x v] h Q:=by
 refine WF_fn (fn:=c265) rfl rfl ?_
 dsimp only[c265,oO,oM,oS,oG,oK,oE,oL,oF,oX,oN]
 ((try simp (maxSteps:=3000000) (dsimp:=false) (disch:=first|omega|simp only[lnx];omega) only[↓ypre,ypost,↓reduceIte,reduceEqDiff,reduceAdd,reduceSub,reduceLeDiff,zz0,ynew,schV,hv.one]);try simp only[yback])
 generalize hH1:AH.new h _=H1
 obtain⟨hb1,p1,n1⟩:=new_facts hH1
 ((try simp (maxSteps:=3000000) (dsimp:=false) (disch:=first|omega|simp only[lnx];omega) only[↓ypre,ypost,↓reduceIte,reduceEqDiff,reduceAdd,reduceSub,reduceLeDiff,zz0,ynew,rdn_of hb1]);try simp only[yback])
 refine i_IsScheme (hv.pre p1) hl fun H2 p2=>?_
 have hb2:=pre_get p2 hb1
 have hQ2:=hQ _ (p1.trans p2)
 unfold cdX at hQ2
 cases h1:isX x with
 | false=>
  rw[h1,if_neg (by decide)] at hQ2
  ((try simp (maxSteps:=3000000) (dsimp:=false) (disch:=first|omega|simp only[lnx];omega) only[↓ypre,ypost,↓reduceIte,reduceEqDiff,reduceAdd,reduceSub,reduceLeDiff,zz0,ynew]);try simp only[yback])
  exact hQ2
 | true=>
  rw[h1,if_pos rfl] at hQ2
  by_cases h2:x.ps.length=0
  ·rw[if_pos h2] at hQ2
   ((try simp (maxSteps:=3000000) (dsimp:=false) (disch:=first|omega|simp only[lnx];omega) only[↓ypre,ypost,↓reduceIte,reduceEqDiff,reduceAdd,reduceSub,reduceLeDiff,zz0,ynew,rd1_of hb2,(hv.pre (p1.trans p2)).1.len,decide_eq_true (show (x.ps.length:Int)=0 by omega)]);try simp only[yback])
   exact hQ2
  ·rw[if_neg h2] at hQ2
   ((try simp (maxSteps:=3000000) (dsimp:=false) (disch:=first|omega|simp only[lnx];omega) only[↓ypre,ypost,↓reduceIte,reduceEqDiff,reduceAdd,reduceSub,reduceLeDiff,zz0,ynew,rd1_of hb2,(hv.pre (p1.trans p2)).1.len,decide_eq_false (show ¬ (x.ps.length:Int)=0 by omega)]);try simp only[yback])
   exact hQ2
def stG (x:Sch) (b:Bool) (i:Nat):Int:=((pgX x b i).st.length:Nat)
def stR (x:Sch) (b:Bool):List Int×Int:=if cdX x=0 then (gen 3 (stG x b),0) else ([],cdX x)
theorem stR_small (x:Sch) (b:Bool):SmallS (stR x b).1:=by
 unfold stR SmallS
 split
 ·rw[gen_len]
  decide
 ·simp
structure Pr3 (h:AH) (nb:Nat) (x:Sch) (b:Bool) (v1 w1 v2 w2 v3 w3:Value):Prop where
 g:∃ fl,h.get nb=some ⟨prgC (pgX x b 0) v1 w1++prgC (pgX x b 1) v2 w2++prgC (pgX x b 2) v3 w3,70,false,fl⟩
 r1:PrgR h v1 w1 (pgX x b 0)
 r2:PrgR h v2 w2 (pgX x b 1)
 r3:PrgR h v3 w3 (pgX x b 2)
section
variable {h h':AH} {nb:Nat} {x:Sch} {b:Bool} {v1 w1 v2 w2 v3 w3:Value}
theorem Pr3.pre (o:Pr3 h nb x b v1 w1 v2 w2 v3 w3) (p:h<+:h'):Pr3 h' nb x b v1 w1 v2 w2 v3 w3:=
 ⟨by obtain⟨fl,g⟩:=o.g;exact⟨fl,pre_get p g⟩,o.r1.pre p,o.r2.pre p,o.r3.pre p⟩
theorem Pr3.at (o:Pr3 h nb x b v1 w1 v2 w2 v3 w3) {i:Nat} (hi:i<3):∃ y z,h.rd1 nb (i*4+2)=some y∧h.rdn nb (i*4) 4=some (prgC (pgX x b i) y z)∧PrgR h y z (pgX x b i):=by
 obtain⟨fl,g⟩:=o.g
 have hc:i=0∨i=1∨i=2:=by omega
 rcases hc with rfl|rfl|rfl
 ·exact⟨v1,w1,by rw[rd1_of g];rfl,by rw[rdn_of g];rfl,o.r1⟩
 ·exact⟨v2,w2,by rw[rd1_of g];rfl,by rw[rdn_of g];rfl,o.r2⟩
 ·exact⟨v3,w3,by rw[rd1_of g];rfl,by rw[rdn_of g];rfl,o.r3⟩
end
theorem ix4 {nb len i:Nat} {kk:IntKind} (hi:i<len):ixsV 4 (.slice (some ⟨nb,0,none⟩) len 4) (.int kk (i:Int))=some (.pointer (some ⟨nb,i*4,none⟩)):=by
 rw[ixsV_some,if_pos (by omega)]
 simp
theorem s_StepsOf {v:Value} {x:Sch} {b:Bool} {h:AH} {Q:Value→AH→Prop} (hv:Prods h v x.ps) (hl:SmallX x.ps)
  (hQ:∀ v' h',h<+:h'→OwnR h h' v' (stR x b).1→Q (.tuple #[v',I64 (stR x b).2]) h'):WF S 144 [schV x v,.bool b] h Q:=by
 refine WF_fn (fn:=c144) rfl rfl ?_
 dsimp only[c144,oO,oM,oS,oG,oK,oE,oL,oF,oX,oN]
 ((try simp (maxSteps:=3000000) (dsimp:=false) (disch:=first|omega|simp only[lnx];omega) only[↓ypre,ypost,↓reduceIte,reduceEqDiff,reduceAdd,reduceSub,reduceLeDiff,zz0,ynew,schV,hv.one]);try simp only[yback])
 generalize hH1:AH.new h _=H1
 obtain⟨hb1,p1,n1⟩:=new_facts hH1
 ((try simp (maxSteps:=3000000) (dsimp:=false) (disch:=first|omega|simp only[lnx];omega) only[↓ypre,ypost,↓reduceIte,reduceEqDiff,reduceAdd,reduceSub,reduceLeDiff,zz0,ynew,rdn_of hb1]);try simp only[yback])
 refine s_l07Code (x:=x) (hv.pre p1) hl fun H2 p2=>?_
 have hb2:=pre_get p2 hb1
 have p12:=p1.trans p2
 unfold stR at hQ
 by_cases hc:cdX x=0
 case neg=>
  rw[if_neg hc] at hQ
  ((try simp (maxSteps:=3000000) (dsimp:=false) (disch:=first|omega|simp only[lnx];omega) only[↓ypre,ypost,↓reduceIte,reduceEqDiff,reduceAdd,reduceSub,reduceLeDiff,zz0,ynew,decide_eq_true (show cdX x≠0 from hc)]);try simp only[yback])
  exact hQ _ _ p12 (.inl ⟨rfl,rfl⟩)
 rw[if_pos hc] at hQ
 obtain⟨hx,h0⟩:=cdX_0 hc
 ((try simp (maxSteps:=3000000) (dsimp:=false) (disch:=first|omega|simp only[lnx];omega) only[↓ypre,ypost,↓reduceIte,reduceEqDiff,reduceAdd,reduceSub,reduceLeDiff,zz0,ynew,decide_eq_false (show ¬ cdX x≠0 from fun y=>y hc),rdn_of hb2]);try simp only[yback])
 refine s_l07Programs (x:=x) (b:=b) (hv.pre p12) hx h0 fun nb q1 q2 H3 v1 w1 v2 w2 v3 w3 p3 g i0 i1 i2 i3=>?_
 have o:Pr3 H3 nb x b v1 w1 v2 w2 v3 w3:=⟨⟨_,g⟩,i1.rd,i2.rd,i3.rd⟩
 ((try simp (maxSteps:=3000000) (dsimp:=false) (disch:=first|omega|simp only[lnx];omega) only[↓ypre,ypost,↓reduceIte,reduceEqDiff,reduceAdd,reduceSub,reduceLeDiff,zz0,ynew]);try simp only[yback])
 generalize hH4:AH.new H3 _=H4
 obtain⟨hb4,p4,n4⟩:=new_facts hH4
 have l0:Lst H4 H3.length (gen 0 (stG x b)) true:=hb4
 refine WC_loop_inv (fun m f K1=>∃ (i:Nat) (kn:Nat) (fu:Bool),m=3-i∧i≤3∧f 7=.slice (some ⟨nb,0,none⟩) 3 4∧f 8=sl kn (gen i (stG x b)).length∧f 9=I64 i∧(H3<+:K1)∧(Lst K1 kn (gen i (stG x b)) fu)∧(H3.length≤kn)) ?_ (3-0) _ _ ⟨0,H3.length,true,rfl,by omega,(by first|rfl|simp[upd_apply]),(by first|rfl|simp[upd_apply]),(by first|rfl|simp[upd_apply]),p4,l0,Nat.le_refl _⟩
 rintro m f K1 ⟨i,kn,fu,rfl,hi,f7,f8,f9,pp,lo,hk⟩
 have gl:=gen_len (N:=i) (g:=stG x b)
 by_cases hlt:(i:Int)<3
 ·have hi':i<3:=by omega
  obtain⟨y,z,r1,r2,pr⟩:=(o.pre pp).at hi'
  ((try simp (maxSteps:=3000000) (dsimp:=false) (disch:=first|omega|simp only[lnx];omega) only[↓ypre,ypost,↓reduceIte,reduceEqDiff,reduceAdd,reduceSub,reduceLeDiff,zz0,ynew,f7,f8,f9,show lenV (.slice (some ⟨nb,0,none⟩) 3 4)=some (I64 3) from rfl,decide_eq_true hlt,ix4 hi',r1,pr.1.len,wrap64_in]);try simp only[yback])
  refine lo.app3 (by omega) fun H5 l5 pre5 keep5 lo5=>?_
  rw[show (((pgX x b i).st.length:Nat):Int)=stG x b i from rfl,←gen_succ] at lo5
  ((try simp (maxSteps:=3000000) (dsimp:=false) (disch:=first|omega|simp only[lnx];omega) only[↓ypre,ypost,↓reduceIte,reduceEqDiff,reduceAdd,reduceSub,reduceLeDiff,zz0,ynew,f7,f8,f9,wrap64_in]);try simp only[yback])
  refine InvQ_go (3-(i+1)) (by omega) ⟨(i+1),(K1.length+1),false,rfl,by omega,(by first|rfl|exact f7|(simp only[upd_apply];rfl)|(show I64 _=_;congr 1;omega)),(by rw[gen_succ];rfl),(by first|rfl|exact f9|(simp only[upd_apply];rfl)|(show I64 _=_;congr 1;omega)),(pre5 _ hk pp),lo5,(by have:=pre_len pp;omega)⟩
 have ei:i=3:=by omega
 subst ei
 ((try simp (maxSteps:=3000000) (dsimp:=false) (disch:=first|omega|simp only[lnx];omega) only[↓ypre,ypost,↓reduceIte,reduceEqDiff,reduceAdd,reduceSub,reduceLeDiff,zz0,ynew,f7,f8,f9,show lenV (.slice (some ⟨nb,0,none⟩) 3 4)=some (I64 3) from rfl,decide_eq_false hlt]);try simp only[yback])
 have kp:=pre_len (p12.trans p3)
 exact hQ _ _ ((p12.trans p3).trans pp) (lo.ownR (by omega))
theorem i_matrixOf {q:List Int} {n:Nat} {h:AH} {Q:Value→AH→Prop} (hq:By 9 q) (hn:1≤n∧n≤9) (hQ:∀ v' h',h<+:h'→OwnRows h h' v' [q.take n]→Q v' h'):WF S 310 [aggV .u8 q,I64 1,I64 n] h Q:=by
 refine WF_fn (fn:=c310) rfl rfl ?_
 dsimp only[c310,oO,oM,oS,oG,oK,oE,oL,oF,oX,oN]
 ((try simp (maxSteps:=3000000) (dsimp:=false) (disch:=first|omega|simp only[lnx];omega) only[↓ypre,ypost,↓reduceIte,reduceEqDiff,reduceAdd,reduceSub,reduceLeDiff,zz0,ynew,aggV,cel_all,cellsL_cel]);try simp only[yback])
 generalize hH1:AH.new h _=H1
 obtain⟨hb1,p1,n1⟩:=new_facts hH1
 generalize hH2:AH.new H1 _=H2
 obtain⟨hb2,p2,n2⟩:=new_facts hH2
 have l0:Lst H2 H1.length (q.take 0) true:=hb2
 have hq1:=hq.1
 ((try simp (maxSteps:=3000000) (dsimp:=false) (disch:=first|omega|simp only[lnx];omega) only[↓ypre,ypost,↓reduceIte,reduceEqDiff,reduceAdd,reduceSub,reduceLeDiff,zz0,ynew,Int.one_mul,wrap64_in]);try simp only[yback])
 refine WC_loop_inv (fun m f K1=>∃ (i:Nat) (k:Nat) (fu:Bool),m=n-i∧i≤n∧f 2=I64 n∧f 3=.pointer (some ⟨h.length,0,none⟩)∧f 7=sl k (q.take i).length∧f 12=I64 n∧f 13=I64 i∧(H1<+:K1)∧(Lst K1 k (q.take i) fu)∧(H1.length≤k)) ?_ (n-0) _ _ ⟨0,H1.length,true,rfl,by omega,(by first|rfl|simp[upd_apply]),(by first|rfl|simp[upd_apply]),(by first|rfl|simp[upd_apply]),(by first|rfl|simp[upd_apply]),(by first|rfl|simp[upd_apply]),p2,l0,Nat.le_refl _⟩
 rintro m f K1 ⟨i,k,fu,rfl,hi,f2,f3,f7,f12,f13,pp,lo,hk⟩
 have hb:=pre_get pp hb1
 by_cases hlt:(i:Int)<n
 ·have hi':i<n:=by omega
  have g1:=cel_get (k:=.u8) (q:=q) (j:=i) (by omega)
  have ixa:=ixa_u (n:=h.length) (off:=0) (len:=9) (kk:=.i64) (j:=i) (by omega)
  rw[Nat.zero_add] at ixa
  have b1:=hq.2 i (by omega)
  ((try simp (maxSteps:=3000000) (dsimp:=false) (disch:=first|omega|simp only[lnx];omega) only[↓ypre,ypost,↓reduceIte,reduceEqDiff,reduceAdd,reduceSub,reduceLeDiff,zz0,ynew,f2,f3,f7,f12,f13,decide_eq_true hlt,ixa,rd1_of hb,g1,wrap64_in]);try simp only[yback])
  refine lo.app3 (by rw[List.length_take];omega) fun H5 l5 pre5 keep5 lo5=>?_
  have et:q.take i++[q.getD i 0]=q.take (i+1):=(take_next (by omega)).symm
  ((try simp (maxSteps:=3000000) (dsimp:=false) (disch:=first|omega|simp only[lnx];omega) only[↓ypre,ypost,↓reduceIte,reduceEqDiff,reduceAdd,reduceSub,reduceLeDiff,zz0,ynew,f2,f3,f7,f12,f13,wrap64_in]);try simp only[yback])
  refine InvQ_go (n-(i+1)) (by omega) ⟨(i+1),(K1.length+1),false,rfl,by omega,(by first|rfl|exact f2|(simp only[upd_apply];rfl)|(show I64 _=_;congr 1;omega)),(by first|rfl|exact f3|(simp only[upd_apply];rfl)|(show I64 _=_;congr 1;omega)),(by rw[←et];rfl),(by first|rfl|exact f12|(simp only[upd_apply];rfl)|(show I64 _=_;congr 1;omega)),(by first|rfl|exact f13|(simp only[upd_apply];rfl)|(show I64 _=_;congr 1;omega)),(pre5 _ hk pp),(by rw[←et];exact lo5),(by have:=pre_len pp;omega)⟩
 have ei:i=n:=by omega
 subst ei
 ((try simp (maxSteps:=3000000) (dsimp:=false) (disch:=first|omega|simp only[lnx];omega) only[↓ypre,ypost,↓reduceIte,reduceEqDiff,reduceAdd,reduceSub,reduceLeDiff,zz0,ynew,f2,f3,f7,f12,f13,decide_eq_false hlt]);try simp only[yback])
 have ql:(q.take i).length=i:=by rw[List.length_take];omega
 refine i_parted (w:=i) (n:=1) lo.ints (by omega) (by omega) (by omega) fun v' H3 p3 o3=>?_
 ((try simp (maxSteps:=3000000) (dsimp:=false) (disch:=first|omega|simp only[lnx];omega) only[↓ypre,ypost,↓reduceIte,reduceEqDiff,reduceAdd,reduceSub,reduceLeDiff,zz0,ynew,f2,f3,f7,f12,f13]);try simp only[yback])
 have ep:parts (q.take i) i 1=[q.take i]:=by
  unfold parts
  show [(((q.take i).drop (0*i)).take i)]=_
  rw[Nat.zero_mul,List.drop_zero,List.take_take,Nat.min_self]
 rw[ep] at o3
 exact hQ _ _ ((p1.trans pp).trans p3) (o3.lo (by have:=pre_len (p1.trans pp);omega))
theorem OwnRows.one_row {h0 h:AH} {v:Value} {r:List Int} (o:OwnRows h0 h v [r]) (hr:r≠[]):∃ nb kr fu,ixsV 1 v (I64 0)=some (.pointer (some ⟨nb,0,none⟩))∧h.rd1 nb 0=some (sl kr r.length)∧h0.length≤kr∧OwnB h kr (r.map (Value.int .i64)) fu:=by
 rcases o with⟨_,e⟩|⟨n,e,full,cs,h1,rfl,h2,h3,h4,_⟩
 ·cases e
 ·have hl:cs.length=1:=by simpa using h3
  obtain⟨q1,_⟩:=h4 0 (by simp)
  have e0:cs.getD 0 undef=cs.getD 0 undef:=rfl
  rcases q1 with⟨_,e2⟩|⟨kb,e2,fu,g1,g2,g3⟩
  ·exact absurd e2 hr
  ·refine⟨n,kb,fu,?_,?_,g1,e2,g3⟩
   ·rw[hl]
    rfl
   ·rw[rd1_of h2]
    show cs[0]?=_
    have:cs[0]?=some (cs.getD 0 undef):=by
     rw[List.getD_eq_getElem?_getD,List.getElem?_eq_getElem (by omega)]
     rfl
    rw[this,g2]
    rfl
theorem i_lists {v:Value} {x:Sch} {i n:Nat} {h:AH} {Q:Value→AH→Prop} (hv:Prods h v x.ps) (hl:x.ps.length≤30) (hi:i<3) (hn:1≤n∧n≤9)
  (hQ:∀ v' h',h<+:h'→Rows h' v' (lsF x i n)→Q v' h'):WF S 289 [schV x v,I64 i,I64 n] h Q:=by
 refine WF_fn (fn:=c289) rfl rfl ?_
 dsimp only[c289,oO,oM,oS,oG,oK,oE,oL,oF,oX,oN]
 ((try simp (maxSteps:=3000000) (dsimp:=false) (disch:=first|omega|simp only[lnx];omega) only[↓ypre,ypost,↓reduceIte,reduceEqDiff,reduceAdd,reduceSub,reduceLeDiff,zz0,ynew,schV,hv.one]);try simp only[yback])
 generalize hH1:AH.new h _=H1
 obtain⟨hb1,p1,n1⟩:=new_facts hH1
 generalize hH2:AH.new H1 _=H2
 obtain⟨hb2,p2,n2⟩:=new_facts hH2
 ((try simp (maxSteps:=3000000) (dsimp:=false) (disch:=first|omega|simp only[lnx];omega) only[↓ypre,ypost,↓reduceIte,reduceEqDiff,reduceAdd,reduceSub,reduceLeDiff,zz0,ynew,rd1_of (pre_get p2 hb1),(hv.pre (p1.trans p2)).1.len]);try simp only[yback])
 have z27:=zeros27
 refine WC_loop_inv (fun m f K1=>∃ (j:Nat) (nb:Nat) (fl:Bool) (L:List (Nat×List Int)),m=x.ps.length-j∧j≤x.ps.length∧f 1=I64 i∧f 2=I64 n∧f 3=.pointer (some ⟨h.length,0,none⟩)∧f 7=sl nb L.length∧f 12=v∧f 13=I64 x.ps.length∧f 14=I64 j∧(TabS H1 K1 nb fl L)∧(L.map Prod.snd=(lsF x i n).take j)) ?_ (x.ps.length-0) _ _ ⟨0,H1.length,true,[],rfl,by omega,(by first|rfl|simp[upd_apply]),(by first|rfl|simp[upd_apply]),(by first|rfl|simp[upd_apply]),(by first|rfl|simp[upd_apply]),(by first|rfl|simp[upd_apply]),(by first|rfl|simp[upd_apply]),(by first|rfl|simp[upd_apply]),⟨p2,Nat.le_refl _,hb2,by simp,by simp⟩,(by simp)⟩
 rintro m f K1 ⟨j,nb,fl,L,rfl,hj,f1,f2,f3,f7,f12,f13,f14,st,hL⟩
 have hLl:L.length=j:=by
  have:=congrArg List.length hL
  rw[List.length_map,List.length_take,lsF_len] at this
  omega
 have lt:=st.lt
 have kh:=pre_len st.hp
 have hvK:=hv.pre (p1.trans st.hp)
 by_cases hlt:(j:Int)<x.ps.length
 ·have hj':j<x.ps.length:=by omega
  obtain⟨n5',off5,hix,hrn,hr1⟩:=hvK.1.at hj'
  have r27:=hrn 0 27 (by omega)
  have wi:=hvK.1.wid hj'
  have hby:=hvK.by hj'
  have tk:(x.ps.getD j []).take 27=x.ps.getD j []:=List.take_of_length_le (by omega)
  rw[List.drop_zero,tk,Nat.add_zero] at r27
  have eg:=lsF_get (x:=x) (i:=i) (n:=n) hj'
  generalize hq:x.ps.getD j []=q at *
  have w1:∀ (h1:AH) (e:TypeId),(h1.new ⟨[.int .u8 0,.int .u8 0,.int .u8 0,.int .u8 0,.int .u8 0,.int .u8 0,.int .u8 0,.int .u8 0,.int .u8 0,.int .u8 0,.int .u8 0,.int .u8 0,.int .u8 0,.int .u8 0,.int .u8 0,.int .u8 0,.int .u8 0,.int .u8 0,.int .u8 0,.int .u8 0,.int .u8 0,.int .u8 0,.int .u8 0,.int .u8 0,.int .u8 0,.int .u8 0,.int .u8 0],e,false,true⟩).wr h1.length 0 (cel .u8 q)=some (h1.new ⟨cel .u8 q,e,false,true⟩):=fun h1 e=>wr_all (by rw[cel_len,wi];rfl)
  ((try simp (maxSteps:=3000000) (dsimp:=false) (disch:=first|omega|simp only[lnx];omega) only[↓ypre,ypost,↓reduceIte,reduceEqDiff,reduceAdd,reduceSub,reduceLeDiff,zz0,ynew,f1,f2,f3,f7,f12,f13,f14,decide_eq_true hlt,hix,r27,cel_all,cellsL_cel,cel_len,wi,↓w1,cel_take,tk,wrap64_in]);try simp only[yback])
  generalize hH3:AH.new K1 _=H3
  obtain⟨hb3,p3,n3⟩:=new_facts hH3
  refine i_factors wi fun H4 p4=>?_
  have e1:idxnV 3 9 (aggV .u8 q) (I64 i)=some (.agg (cel .u8 (seg q i)).toArray):=by
   simp only[idxnV,aggV,toL,Int.toNat_natCast,cel_len,wi]
   rw[if_pos ⟨by omega,by omega,by omega⟩]
   simp only[cel_drop,cel_take]
   rfl
  ((try simp (maxSteps:=3000000) (dsimp:=false) (disch:=first|omega|simp only[lnx];omega) only[↓ypre,ypost,↓reduceIte,reduceEqDiff,reduceAdd,reduceSub,reduceLeDiff,zz0,ynew,f1,f2,f3,f7,f12,f13,f14,e1]);try simp only[yback])
  refine i_matrixOf (hby.seg hi) hn fun v5 H5 p5 o5=>?_
  have p35:=p3.trans (p4.trans p5)
  have k4:=pre_len p4
  have sgl:=(hby.seg hi).1
  obtain⟨nb5,kr,fr,ix0,rd0,hkr,ob⟩:=o5.one_row (by
   intro e
   have:=congrArg List.length e
   rw[List.length_take,sgl,List.length_nil] at this
   omega)
  ((try simp (maxSteps:=3000000) (dsimp:=false) (disch:=first|omega|simp only[lnx];omega) only[↓ypre,ypost,↓reduceIte,reduceEqDiff,reduceAdd,reduceSub,reduceLeDiff,zz0,ynew,f1,f2,f3,f7,f12,f13,f14,ix0,rd0,sl_cells,sl_one]);try simp only[yback])
  refine (st.pre p35).app2 ⟨by omega,by omega,fun q hq=>by have:=lt.2 q hq;omega⟩ ob (by omega) fun nb' H' st' l' e' own' pre'=>?_
  ((try simp (maxSteps:=3000000) (dsimp:=false) (disch:=first|omega|simp only[lnx];omega) only[↓ypre,ypost,↓reduceIte,reduceEqDiff,reduceAdd,reduceSub,reduceLeDiff,zz0,ynew,f1,f2,f3,f7,f12,f13,f14,wrap64_in]);try simp only[yback])
  refine InvQ_go (x.ps.length-(j+1)) (by omega) ⟨(j+1),nb',false,(L++[(kr,(seg q i).take n)]),rfl,by omega,(by first|rfl|exact f1|(simp only[upd_apply];rfl)|(show I64 _=_;congr 1;omega)),(by first|rfl|exact f2|(simp only[upd_apply];rfl)|(show I64 _=_;congr 1;omega)),(by first|rfl|exact f3|(simp only[upd_apply];rfl)|(show I64 _=_;congr 1;omega)),(by first|rfl|exact f7|(simp only[upd_apply];rfl)|(show I64 _=_;congr 1;omega)),(by first|rfl|exact f12|(simp only[upd_apply];rfl)|(show I64 _=_;congr 1;omega)),(by first|rfl|exact f13|(simp only[upd_apply];rfl)|(show I64 _=_;congr 1;omega)),(by first|rfl|exact f14|(simp only[upd_apply];rfl)|(show I64 _=_;congr 1;omega)),st',(by rw[List.map_append,hL,take_next (d:=[]) (by rw[lsF_len];exact hj'),eg];rfl)⟩
 have ej:j=x.ps.length:=by omega
 subst ej
 rw[List.take_of_length_le (by rw[lsF_len];exact Nat.le_refl _)] at hL
 ((try simp (maxSteps:=3000000) (dsimp:=false) (disch:=first|omega|simp only[lnx];omega) only[↓ypre,ypost,↓reduceIte,reduceEqDiff,reduceAdd,reduceSub,reduceLeDiff,zz0,ynew,f1,f2,f3,f7,f12,f13,f14,decide_eq_false hlt]);try simp only[yback])
 have o:=st.own
 rw[hL] at o
 exact hQ _ _ (p1.trans st.hp) o.rows
theorem xres_nil {f:Fr} {h:AH}:xres f h []=some (.tuple #[]):=rfl
theorem InE.move {k:IntKind} {w a b:Nat} {h h':AH} {v:Value} {L:List (List Int)} (o:InE k w a b h v L) (hk:∀ m bl,a≤m→m<b→h.get m=some bl→h'.get m=some bl):InE k w a b h' v L:=by
 rcases o with o|⟨m,e,full,h1,rfl,h2,h3⟩
 ·exact .inl o
 ·exact .inr ⟨m,e,full,h1,rfl,hk _ _ h1.1 h1.2 h2,h3⟩
theorem InP.move {a b:Nat} {h h':AH} {v w:Value} {x:Prg} (o:InP a b h v w x) (hk:∀ m bl,a≤m→m<b→h.get m=some bl→h'.get m=some bl):InP a b h' v w x:=by
 obtain⟨c,h1,h2,h3,h4⟩:=o
 exact⟨c,h1,h2,h3.move fun m bl q1 q2 g=>hk m bl q1 (by omega) g,h4.move fun m bl q1 q2 g=>hk m bl (by omega) q2 g⟩
theorem i_made {u:Value} {p n xn xm xk:Int} {xv:Value} {b:Bool} {rows:List (List Int)} {ms mo mx nb k:Nat} {eS eX eO:TypeId} {fl:Bool} {c:List Value} {h:AH} {Q:Value→AH→Prop} (hu:Rows h u rows) (hok:lsOK p n rows=true)
  (gS:h.get ms=some ⟨[.bool b],eS,false,true⟩) (gX:h.get mx=some ⟨[I64 p,I64 xn,I64 xm,I64 xk,xv],eX,false,true⟩) (gO:h.get mo=some ⟨[.slice (some ⟨nb,0,none⟩) k 4],eO,false,true⟩) (gB:h.get nb=some ⟨c,70,false,fl⟩) (hc:c.length=k*4) (hk:k≤3) (hne:mo≠nb)
  (hQ:∀ (val:Value) (nb':Nat) (v' w':Value) (h':AH),h.length≤nb'→nb'<h'.length→h'.get nb'=some ⟨c++prgC (pgO p n rows b) v' w',70,false,false⟩→h'.get mo=some ⟨[.slice (some ⟨nb',0,none⟩) (k+1) 4],eO,false,true⟩→InP h.length nb' h' v' w' (pgO p n rows b)→(∀ m bl,m≠nb→m≠mo→h.get m=some bl→h'.get m=some bl)→(∀ h0:AH,h0.length≤nb→h0.length≤mo→h0<+:h→h0<+:h')→Q val h'):WF S 288 [I64 n,u,.pointer (some ⟨ms,0,none⟩),.pointer (some ⟨mo,0,none⟩),.pointer (some ⟨mx,0,none⟩)] h Q:=by
 refine WF_fn (fn:=c288) rfl rfl ?_
 dsimp only[c288,oO,oM,oS,oG,oK,oE,oL,oF,oX,oN]
 have hlen:=hok
 have ltO:=get_lt gO
 have ltB:=get_lt gB
 have tail:∀ (P:Prg) (v' w':Value) (H:AH),h<+:H→∃ H2:AH,appV (70) 4 64 (.slice (some ⟨nb,0,none⟩) k 4) (.slice (some ⟨H.length,0,none⟩) 1 4) (H.new ⟨[I64 P.p,I64 P.n,v',w'],70,false,true⟩)=some (.slice (some ⟨H.length+1,0,none⟩) (k+1) 4,H2) ∧
   H2.length=H.length+2∧H2.get (H.length+1)=some ⟨c++prgC P v' w',70,false,false⟩∧(∀ m bl,m≠nb→H.get m=some bl→H2.get m=some bl)∧(∀ h0:AH,h0.length≤nb→h0<+:H→h0<+:H2):=by
  intro P v' w' H pH
  have hr:(H.new ⟨[I64 P.p,I64 P.n,v',w'],70,false,true⟩).rdn H.length 0 4=some [I64 P.p,I64 P.n,v',w']:=by
   rw[rdn_of get_new_same]
   rfl
  have hkk:(H.new ⟨[I64 P.p,I64 P.n,v',w'],70,false,true⟩).get nb=some ⟨c,70,false,fl⟩:=get_new_any (pre_get pH gB)
  refine⟨((H.new ⟨[I64 P.p,I64 P.n,v',w'],70,false,true⟩).kill nb).new ⟨c++[I64 P.p,I64 P.n,v',w'],70,false,false⟩,?_,?_,?_,?_,?_⟩
  ·rw[app_ownW hkk hc hr (by omega),len_new]
  ·rw[len_new,len_kill,len_new]
  ·rw[get_new_eq (by rw[len_kill,len_new])]
   rfl
  ·intro m bl hm g
   exact get_new_any (by rw[get_kill_ne (fun e=>hm e.symm)];exact get_new_any g)
  ·intro h0 hh q
   exact pre_new (pre_kill (pre_new q) hh)
 unfold pgO at hQ
 cases b with
 | true=>
  rw[if_pos rfl] at hQ
  ((try simp (maxSteps:=3000000) (dsimp:=false) (disch:=first|omega|simp only[lnx];omega) only[↓ypre,ypost,↓reduceIte,reduceEqDiff,reduceAdd,reduceSub,reduceLeDiff,zz0,ynew,rd1_of gS,rd1_of gO,rd1_of gX]);try simp only[yback])
  refine i_sharedProgram hu hok fun v' w' H' pH o ob=>?_
  obtain⟨H2,e2,l2,g2,k2,pre2⟩:=tail (shP p n rows) v' w' H' pH
  have gO2:=k2 _ _ hne (pre_get pH gO)
  have lh:=pre_len pH
  have lt2:=get_lt gO2
  ((try simp (maxSteps:=3000000) (dsimp:=false) (disch:=first|omega|simp only[lnx];omega) only[↓ypre,ypost,↓reduceIte,reduceEqDiff,reduceAdd,reduceSub,reduceLeDiff,zz0,ynew,prgV,o.st.one,o.st.cells,o.out.one,o.out.cells,fillL]);try simp only[yback])
  refine⟨pH,?_⟩
  ((try simp (maxSteps:=3000000) (dsimp:=false) (disch:=first|omega|simp only[lnx];omega) only[↓ypre,ypost,↓reduceIte,reduceEqDiff,reduceAdd,reduceSub,reduceLeDiff,zz0,ynew,e2,wr_of gO2,xres_nil]);try simp only[yback])
  refine hQ _ (H'.length+1) v' w' _ (by omega) (by rw[len_put];omega) (by rw[get_put_ne (by omega)];exact g2) (get_put_same lt2) (((o.inP ob lh).mono (Nat.le_refl _) (by omega)).move fun m bl q1 q2 g=>?_) (fun m bl q1 q2 g=>by rw[get_put_ne (fun e=>q2 e.symm)];exact k2 m bl q1 (pre_get pH g)) (fun h0 q1 q2 q=>pre_put (pre2 h0 q1 (q.trans pH)) q2)
  rw[get_put_ne (by omega)]
  exact k2 m bl (by omega) g
 | false=>
  rw[if_neg (by decide)] at hQ
  obtain⟨hp,hn,hl,hmm⟩:=lsOK_iff.1 hok
  ((try simp (maxSteps:=3000000) (dsimp:=false) (disch:=first|omega|simp only[lnx];omega) only[↓ypre,ypost,↓reduceIte,reduceEqDiff,reduceAdd,reduceSub,reduceLeDiff,zz0,ynew,rd1_of gS,rd1_of gO,rd1_of gX]);try simp only[yback])
  have o0:Way2 h h.length (.slice none 0 0) (.slice none 0 0) ⟨p,n,[],[]⟩:=⟨⟨fun r hr=>by simp at hr,.inl ⟨rfl,rfl⟩⟩,⟨fun r hr=>by simp at hr,.inl ⟨rfl,rfl⟩⟩⟩
  rw[show Value.agg #[I64 p,I64 n,.slice none 0 0,.slice none 0 0]=prgV ⟨p,n,[],[]⟩ (.slice none 0 0) (.slice none 0 0) from rfl]
  refine i_finished hp hn o0 (Nat.le_refl _) hu.stays (fun i hi=>⟨(isMat_iff.1 hmm i hi).2,by have:=(isMat_iff.1 hmm i hi).1;omega⟩) (by omega) (by simp) (by simp) fun v' w' H' sy o ob=>?_
  have pH:h<+:H':=sy.pre _ (Nat.le_refl _) (List.prefix_refl _)
  have ob:=ob (by omega)
  obtain⟨H2,e2,l2,g2,k2,pre2⟩:=tail (finP ⟨p,n,[],[]⟩ rows rows.length) v' w' H' pH
  have gO2:=k2 _ _ hne (pre_get pH gO)
  have lh:=pre_len pH
  have lt2:=get_lt gO2
  ((try simp (maxSteps:=3000000) (dsimp:=false) (disch:=first|omega|simp only[lnx];omega) only[↓ypre,ypost,↓reduceIte,reduceEqDiff,reduceAdd,reduceSub,reduceLeDiff,zz0,ynew,prgV,o.st.one,o.st.cells,o.out.one,o.out.cells,fillL]);try simp only[yback])
  refine⟨pH,?_⟩
  ((try simp (maxSteps:=3000000) (dsimp:=false) (disch:=first|omega|simp only[lnx];omega) only[↓ypre,ypost,↓reduceIte,reduceEqDiff,reduceAdd,reduceSub,reduceLeDiff,zz0,ynew,e2,wr_of gO2,xres_nil]);try simp only[yback])
  refine hQ _ (H'.length+1) v' w' _ (by omega) (by rw[len_put];omega) (by rw[get_put_ne (by omega)];exact g2) (get_put_same lt2) (((o.inP ob lh).mono (Nat.le_refl _) (by omega)).move fun m bl q1 q2 g=>?_) (fun m bl q1 q2 g=>by rw[get_put_ne (fun e=>q2 e.symm)];exact k2 m bl q1 (pre_get pH g)) (fun h0 q1 q2 q=>pre_put (pre2 h0 q1 (q.trans pH)) q2)
  rw[get_put_ne (by omega)]
  exact k2 m bl (by omega) g
theorem i_programsOf {v:Value} {x:Sch} {b:Bool} {h:AH} {Q:Value→AH→Prop} (hv:Prods h v x.ps) (hx:isX x=true) (h0:1≤x.ps.length)
  (hQ:∀ (nb c1 c2:Nat) (h':AH) (v1 w1 v2 w2 v3 w3:Value),h<+:h'→(∃ fl,h'.get nb=some ⟨prgC (pgX x b 0) v1 w1++prgC (pgX x b 1) v2 w2++prgC (pgX x b 2) v3 w3,70,false,fl⟩)→h.length≤c1→InP h.length c1 h' v1 w1 (pgX x b 0)→InP c1 c2 h' v2 w2 (pgX x b 1)→InP c2 nb h' v3 w3 (pgX x b 2)→Q (.slice (some ⟨nb,0,none⟩) 3 4) h'):WF S 170 [schV x v,.bool b] h Q:=by
 refine WF_fn (fn:=c170) rfl rfl ?_
 dsimp only[c170,oO,oM,oS,oG,oK,oE,oL,oF,oX,oN]
 obtain⟨z,hp,hl,ho⟩:=isX_facts hx
 have zn:=z.nm
 have zm:=z.mk2
 have zk:=z.nk
 ((try simp (maxSteps:=3000000) (dsimp:=false) (disch:=first|omega|simp only[lnx];omega) only[↓ypre,ypost,↓reduceIte,reduceEqDiff,reduceAdd,reduceSub,reduceLeDiff,zz0,ynew,schV,hv.one]);try simp only[yback])
 generalize hH1:AH.new h _=H1
 obtain⟨hb1,p1,n1⟩:=new_facts hH1
 generalize hH2:AH.new H1 _=H2
 obtain⟨hb2,p2,n2⟩:=new_facts hH2
 ((try simp (maxSteps:=3000000) (dsimp:=false) (disch:=first|omega|simp only[lnx];omega) only[↓ypre,ypost,↓reduceIte,reduceEqDiff,reduceAdd,reduceSub,reduceLeDiff,zz0,ynew,rdn_of (pre_get p2 hb1)]);try simp only[yback])
 refine i_placesOf (x:=x) hv.one z fun H3 p3=>?_
 ((try simp (maxSteps:=3000000) (dsimp:=false) (disch:=first|omega|simp only[lnx];omega) only[↓ypre,ypost,↓reduceIte,reduceEqDiff,reduceAdd,reduceSub,reduceLeDiff,zz0]);try simp only[yback])
 generalize hH4:AH.new H3 _=H4
 obtain⟨hb4,p4,n4⟩:=new_facts hH4
 generalize hH5:AH.new H4 _=H5
 obtain⟨hb5,p5,n5⟩:=new_facts hH5
 ((try simp (maxSteps:=3000000) (dsimp:=false) (disch:=first|omega|simp only[lnx];omega) only[↓ypre,ypost,↓reduceIte,reduceEqDiff,reduceAdd,reduceSub,reduceLeDiff,zz0,wr_of hb5]);try simp only[yback])
 generalize hHP:AH.put H5 _ _=HP
 have lP:HP.length=H5.length:=by rw[←hHP,len_put]
 rw[←lP]
 obtain⟨e5,g5⟩:∃ e5,HP.get H4.length=some ⟨[I64 (x.n*x.m),I64 (x.m*x.k),I64 (x.n*x.k)],e5,false,true⟩:=⟨_,by rw[←hHP];exact get_put_same (get_lt hb5)⟩
 have g4:HP.get H3.length=some ⟨[],70,false,true⟩:=by rw[←hHP,get_put_ne (by omega)];exact pre_get p5 hb4
 have pP:H3<+:HP:=by rw[←hHP];exact pre_put (p4.trans p5) (by omega)
 obtain⟨a,ha⟩:∃ a:Nat,x.n*x.m=a:=⟨(x.n*x.m).toNat,by omega⟩
 obtain⟨b',hb'⟩:∃ b':Nat,x.m*x.k=b':=⟨(x.m*x.k).toNat,by omega⟩
 obtain⟨c',hc'⟩:∃ c':Nat,x.n*x.k=c':=⟨(x.n*x.k).toNat,by omega⟩
 have eA:fmX x 0=lsF x 0 a:=by
  show lsF x 0 (x.n*x.m).toNat=_
  rw[ha,Int.toNat_natCast]
 have eB:fmX x 1=lsF x 1 b':=by
  show lsF x 1 (x.m*x.k).toNat=_
  rw[hb',Int.toNat_natCast]
 have eC:fmX x 2=trL (lsF x 2 c') c':=by
  show trL (lsF x 2 (x.n*x.k).toNat) (x.n*x.k).toNat=_
  rw[hc',Int.toNat_natCast]
 have okA:lsOK x.p (x.n*x.m) (fmX x 0)=true:=fmX_ok hv hx h0 (i:=0) (by omega)
 have okB:lsOK x.p (x.m*x.k) (fmX x 1)=true:=fmX_ok hv hx h0 (i:=1) (by omega)
 have okC:lsOK x.p (x.ps.length:Int) (fmX x 2)=true:=fmX_ok hv hx h0 (i:=2) (by omega)
 rw[ha] at g5 okA
 rw[hb'] at g5 okB
 rw[hc'] at g5
 rw[eA] at okA
 rw[eB] at okB
 have ia0:ixaV 3 1 (.pointer (some ⟨H4.length,0,none⟩)) (I64 0)=some (.pointer (some ⟨H4.length,0,none⟩)):=by
  have:=ixa_u (n:=H4.length) (off:=0) (len:=3) (kk:=.i64) (j:=0) (by omega)
  simpa using this
 have ia1:ixaV 3 1 (.pointer (some ⟨H4.length,0,none⟩)) (I64 1)=some (.pointer (some ⟨H4.length,1,none⟩)):=by
  have:=ixa_u (n:=H4.length) (off:=0) (len:=3) (kk:=.i64) (j:=1) (by omega)
  simpa using this
 have ia2:ixaV 3 1 (.pointer (some ⟨H4.length,0,none⟩)) (I64 2)=some (.pointer (some ⟨H4.length,2,none⟩)):=by
  have:=ixa_u (n:=H4.length) (off:=0) (len:=3) (kk:=.i64) (j:=2) (by omega)
  simpa using this
 ((try simp (maxSteps:=3000000) (dsimp:=false) (disch:=first|omega|simp only[lnx];omega) only[↓ypre,ypost,↓reduceIte,reduceEqDiff,reduceAdd,reduceSub,reduceLeDiff,zz0,ynew]);try simp only[yback])
 generalize hH6:AH.new HP _=H6
 obtain⟨hb6,p6,n6⟩:=new_facts hH6
 have p13:=((p1.trans p2).trans p3).trans (pP.trans p6)
 have x6:=pre_get (p2.trans (p3.trans (pP.trans p6))) hb1
 have s6:=pre_get (p3.trans (pP.trans p6)) hb2
 have g56:=pre_get p6 g5
 have g46:=pre_get p6 g4
 have hv6:=hv.pre p13
 have k3:=pre_len p3
 ((try simp (maxSteps:=3000000) (dsimp:=false) (disch:=first|omega|simp only[lnx];omega) only[↓ypre,ypost,↓reduceIte,reduceEqDiff,reduceAdd,reduceSub,reduceLeDiff,zz0,ynew,ia0,rd1_of g56,rdn_of x6]);try simp only[yback])
 refine i_lists (x:=x) (i:=0) (n:=a) hv6 hl (by omega) (by omega) fun u1 H7 p7 r1=>?_
 ((try simp (maxSteps:=3000000) (dsimp:=false) (disch:=first|omega|simp only[lnx];omega) only[↓ypre,ypost,↓reduceIte,reduceEqDiff,reduceAdd,reduceSub,reduceLeDiff,zz0,ynew,WK_func]);try simp only[yback])
 have k7:=pre_len p7
 have l3:=get_lt hb4
 have nP:=pre_len pP
 have pP3:H3<+:H6:=pP.trans p6
 refine⟨p7,?_⟩
 refine i_made (p:=x.p) (n:=a) (rows:=lsF x 0 a) (k:=0) (c:=[]) (ms:=H1.length) (mx:=h.length) (mo:=HP.length) (nb:=H3.length) (b:=b) r1 okA (pre_get p7 s6) (pre_get p7 x6) (pre_get p7 hb6) (pre_get p7 g46) rfl (by omega) (by omega) fun val1 nb1 v1 w1 H8 ln8 lt8 g8 gO8 i8 keep8 pre8=>?_
 have q38:H3<+:H8:=pre8 H3 (Nat.le_refl _) (by omega) (pP3.trans p7)
 have g58:=keep8 _ _ (by omega) (by omega) (pre_get p7 g56)
 have x3:=pre_get (p2.trans p3) hb1
 have s3:=pre_get p3 hb2
 have x8:=pre_get q38 x3
 have hv8:=hv6.pre (h':=H6) (List.prefix_refl _)
 have p3h:=(p1.trans p2).trans p3
 ((try simp (maxSteps:=3000000) (dsimp:=false) (disch:=first|omega|simp only[lnx];omega) only[↓ypre,ypost,↓reduceIte,reduceEqDiff,reduceAdd,reduceSub,reduceLeDiff,zz0,ynew,ia1,rd1_of g58,rdn_of x8]);try simp only[yback])
 refine i_lists (x:=x) (i:=1) (n:=b') (hv.pre (p3h.trans q38)) hl (by omega) (by omega) fun u2 H9 p9 r2=>?_
 ((try simp (maxSteps:=3000000) (dsimp:=false) (disch:=first|omega|simp only[lnx];omega) only[↓ypre,ypost,↓reduceIte,reduceEqDiff,reduceAdd,reduceSub,reduceLeDiff,zz0,ynew,WK_func]);try simp only[yback])
 refine⟨p9,?_⟩
 have k9:=pre_len p9
 have h3lt:=pre_len p3h
 have x9:=pre_get p9 x8
 have s9:=pre_get (q38.trans p9) s3
 have ltx:=get_lt hb1
 have lts:=get_lt hb2
 have ka:=pre_len p1
 have kb:=pre_len p2
 refine i_made (p:=x.p) (n:=b') (rows:=lsF x 1 b') (k:=1) (ms:=H1.length) (mx:=h.length) (mo:=HP.length) (nb:=nb1) (b:=b) r2 okB s9 x9 (pre_get p9 gO8) (pre_get p9 g8) rfl (by omega) (by omega) fun val2 nb2 v2 w2 H10 ln10 lt10 g10 gO10 i10 keep10 pre10=>?_
 have q310:H3<+:H10:=pre10 H3 (by omega) (by omega) (q38.trans p9)
 have g510:=keep10 _ _ (by omega) (by omega) (pre_get p9 g58)
 have x10:=pre_get q310 x3
 have i8':=(i8.pre p9).move (h':=H10) fun m bl e1 e2 g=>keep10 m bl (by omega) (by omega) g
 ((try simp (maxSteps:=3000000) (dsimp:=false) (disch:=first|omega|simp only[lnx];omega) only[↓ypre,ypost,↓reduceIte,reduceEqDiff,reduceAdd,reduceSub,reduceLeDiff,zz0,ynew,rd1_of x10,rdn_of x10,ia2,rd1_of g510,(hv.pre (p3h.trans q310)).1.len]);try simp only[yback])
 refine i_lists (x:=x) (i:=2) (n:=c') (hv.pre (p3h.trans q310)) hl (by omega) (by omega) fun u3 H11 p11 r3=>?_
 ((try simp (maxSteps:=3000000) (dsimp:=false) (disch:=first|omega|simp only[lnx];omega) only[↓ypre,ypost,↓reduceIte,reduceEqDiff,reduceAdd,reduceSub,reduceLeDiff,zz0,ynew]);try simp only[yback])
 refine⟨p11,?_⟩
 refine i_transposed (rows:=lsF x 2 c') (w:=c') r3 (by rw[lsF_len];omega) (by rw[lsF_len];omega) (fun i hi=>?_) (by omega) fun u4 H12 p12 r4=>?_
 ·rw[lsF_len] at hi
  rw[lsF_get hi,List.length_take,((hv.by hi).seg (by omega)).1]
  omega
 rw[←eC] at r4
 have p1012:=p11.trans p12
 have k12:=pre_len p1012
 refine⟨p12,?_⟩
 ((try simp (maxSteps:=3000000) (dsimp:=false) (disch:=first|omega|simp only[lnx];omega) only[↓ypre,ypost,↓reduceIte,reduceEqDiff,reduceAdd,reduceSub,reduceLeDiff,zz0,ynew,WK_func]);try simp only[yback])
 refine i_made (p:=x.p) (n:=(x.ps.length:Int)) (rows:=fmX x 2) (k:=2) (ms:=H1.length) (mx:=h.length) (mo:=HP.length) (nb:=nb2) (b:=b) r4.rows okC (pre_get (q310.trans p1012) s3) (pre_get p1012 x10) (pre_get p1012 gO10) (pre_get p1012 g10) rfl (by omega) (by omega) fun val3 nb3 v3 w3 H13 ln13 lt13 g13 gO13 i13 keep13 pre13=>?_
 have q313:H3<+:H13:=pre13 H3 (by omega) (by omega) (q310.trans p1012)
 have i8'':=(i8'.pre p1012).move (h':=H13) fun m bl e1 e2 g=>keep13 m bl (by omega) (by omega) g
 have i10':=(i10.pre p1012).move (h':=H13) fun m bl e1 e2 g=>keep13 m bl (by omega) (by omega) g
 ((try simp (maxSteps:=3000000) (dsimp:=false) (disch:=first|omega|simp only[lnx];omega) only[↓ypre,ypost,↓reduceIte,reduceEqDiff,reduceAdd,reduceSub,reduceLeDiff,zz0,ynew,rd1_of gO13]);try simp only[yback])
 have E0:pgO x.p (a:Int) (lsF x 0 a) b=pgX x b 0:=by
  rw[←ha,←eA]
  rfl
 have E1:pgO x.p (b':Int) (lsF x 1 b') b=pgX x b 1:=by
  rw[←hb',←eB]
  rfl
 have E2:pgO x.p (x.ps.length:Int) (fmX x 2) b=pgX x b 2:=rfl
 rw[E0,E1,E2,List.nil_append] at g13
 rw[E0] at i8''
 rw[E1] at i10'
 rw[E2] at i13
 exact hQ nb3 nb1 nb2 _ v1 w1 v2 w2 v3 w3 (p3h.trans q313) ⟨_,g13⟩ (by omega) (i8''.mono (by omega) (Nat.le_refl _)) (i10'.mono (by omega) (Nat.le_refl _)) (i13.mono (by omega) (Nat.le_refl _))
theorem i_StepsOf {v:Value} {x:Sch} {b:Bool} {h:AH} {Q:Value→AH→Prop} (hv:Prods h v x.ps) (hl:SmallX x.ps)
  (hQ:∀ v' h',h<+:h'→OwnR h h' v' (stR x b).1→Q (.tuple #[v',I64 (stR x b).2]) h'):WF S 143 [schV x v,.bool b] h Q:=by
 refine WF_fn (fn:=c143) rfl rfl ?_
 dsimp only[c143,oO,oM,oS,oG,oK,oE,oL,oF,oX,oN]
 ((try simp (maxSteps:=3000000) (dsimp:=false) (disch:=first|omega|simp only[lnx];omega) only[↓ypre,ypost,↓reduceIte,reduceEqDiff,reduceAdd,reduceSub,reduceLeDiff,zz0,ynew,schV,hv.one]);try simp only[yback])
 generalize hH1:AH.new h _=H1
 obtain⟨hb1,p1,n1⟩:=new_facts hH1
 ((try simp (maxSteps:=3000000) (dsimp:=false) (disch:=first|omega|simp only[lnx];omega) only[↓ypre,ypost,↓reduceIte,reduceEqDiff,reduceAdd,reduceSub,reduceLeDiff,zz0,ynew,rdn_of hb1]);try simp only[yback])
 refine i_productsCode (x:=x) (hv.pre p1) hl fun H2 p2=>?_
 have hb2:=pre_get p2 hb1
 have p12:=p1.trans p2
 unfold stR at hQ
 by_cases hc:cdX x=0
 case neg=>
  rw[if_neg hc] at hQ
  ((try simp (maxSteps:=3000000) (dsimp:=false) (disch:=first|omega|simp only[lnx];omega) only[↓ypre,ypost,↓reduceIte,reduceEqDiff,reduceAdd,reduceSub,reduceLeDiff,zz0,ynew,decide_eq_true (show cdX x≠0 from hc)]);try simp only[yback])
  exact hQ _ _ p12 (.inl ⟨rfl,rfl⟩)
 rw[if_pos hc] at hQ
 obtain⟨hx,h0⟩:=cdX_0 hc
 ((try simp (maxSteps:=3000000) (dsimp:=false) (disch:=first|omega|simp only[lnx];omega) only[↓ypre,ypost,↓reduceIte,reduceEqDiff,reduceAdd,reduceSub,reduceLeDiff,zz0,ynew,decide_eq_false (show ¬ cdX x≠0 from fun y=>y hc)]);try simp only[yback])
 generalize hH4:AH.new H2 _=H4
 obtain⟨hb4,p4,n4⟩:=new_facts hH4
 ((try simp (maxSteps:=3000000) (dsimp:=false) (disch:=first|omega|simp only[lnx];omega) only[↓ypre,ypost,↓reduceIte,reduceEqDiff,reduceAdd,reduceSub,reduceLeDiff,zz0,ynew,rdn_of (pre_get p4 hb2)]);try simp only[yback])
 refine i_programsOf (x:=x) (b:=b) (hv.pre (p12.trans p4)) hx h0 fun nb q1 q2 H3 v1 w1 v2 w2 v3 w3 p3 g i0 i1 i2 i3=>?_
 have ab:∀ {a b:Nat} {v w:Value} {y:Prg},InP a b H3 v w y→a≤b:=fun o=>by
  obtain⟨c,e1,e2,_⟩:=o
  omega
 have a1:=ab i1
 have a2:=ab i2
 have a3:=ab i3
 have ltn:nb<H3.length:=by
  obtain⟨fl,g⟩:=g
  exact get_lt g
 have l4:=pre_len p3
 have O:∀ K:AH,(∀ m bl,H4.length≤m→m<H3.length→H3.get m=some bl→K.get m=some bl)→Pr3 K nb x b v1 w1 v2 w2 v3 w3:=fun K hK=>⟨by
  obtain⟨fl,g⟩:=g
  exact⟨fl,hK _ _ (by omega) ltn g⟩,(i1.move fun m bl e1 e2 g=>hK m bl e1 (by omega) g).rd,(i2.move fun m bl e1 e2 g=>hK m bl (by omega) (by omega) g).rd,(i3.move fun m bl e1 e2 g=>hK m bl (by omega) (by omega) g).rd⟩
 have l0:Lst H3 H2.length (gen 0 (stG x b)) true:=pre_get p3 hb4
 ((try simp (maxSteps:=3000000) (dsimp:=false) (disch:=first|omega|simp only[lnx];omega) only[↓ypre,ypost,↓reduceIte,reduceEqDiff,reduceAdd,reduceSub,reduceLeDiff,zz0,ynew,show lenV (.slice (some ⟨nb,0,none⟩) 3 4)=some (I64 3) from rfl]);try simp only[yback])
 refine WC_loop_inv (fun m f K1=>∃ (i:Nat) (kn:Nat) (fu:Bool),m=3-i∧i≤3∧f 7=sl kn (gen i (stG x b)).length∧f 18=.slice (some ⟨nb,0,none⟩) 3 4∧f 19=I64 3∧f 20=I64 i∧(H2<+:K1)∧(∀ m bl,H4.length≤m→m<H3.length→H3.get m=some bl→K1.get m=some bl)∧(H3.length≤K1.length)∧(Lst K1 kn (gen i (stG x b)) fu)∧(kn=H2.length∨H3.length≤kn)) ?_ (3-0) _ _ ⟨0,H2.length,true,rfl,by omega,(by first|rfl|simp[upd_apply]),(by first|rfl|simp[upd_apply]),(by first|rfl|simp[upd_apply]),(by first|rfl|simp[upd_apply]),p4.trans p3,(fun _ _ _ _ g=>g),Nat.le_refl _,l0,.inl rfl⟩
 rintro m f K1 ⟨i,kn,fu,rfl,hi,f7,f18,f19,f20,pp,po,kl,lo,hk⟩
 have gl:=gen_len (N:=i) (g:=stG x b)
 by_cases hlt:(i:Int)<3
 ·have hi':i<3:=by omega
  obtain⟨y,z,r1,r2,pr⟩:=(O _ po).at hi'
  unfold prgC at r2
  ((try simp (maxSteps:=3000000) (dsimp:=false) (disch:=first|omega|simp only[lnx];omega) only[↓ypre,ypost,↓reduceIte,reduceEqDiff,reduceAdd,reduceSub,reduceLeDiff,zz0,ynew,f7,f18,f19,f20,decide_eq_true hlt,ix4 hi',r2,pr.1.one,pr.2.one]);try simp only[yback])
  generalize hH5:AH.new K1 _=H5
  obtain⟨hb5,p5,n5⟩:=new_facts hH5
  ((try simp (maxSteps:=3000000) (dsimp:=false) (disch:=first|omega|simp only[lnx];omega) only[↓ypre,ypost,↓reduceIte,reduceEqDiff,reduceAdd,reduceSub,reduceLeDiff,zz0,ynew,f7,f18,f19,f20,rd1_of hb5,(pr.pre p5).1.len,wrap64_in]);try simp only[yback])
  refine (lo.pre p5).app3 (by omega) fun H6 l6 pre6 keep6 lo6=>?_
  rw[show (((pgX x b i).st.length:Nat):Int)=stG x b i from rfl,←gen_succ] at lo6
  ((try simp (maxSteps:=3000000) (dsimp:=false) (disch:=first|omega|simp only[lnx];omega) only[↓ypre,ypost,↓reduceIte,reduceEqDiff,reduceAdd,reduceSub,reduceLeDiff,zz0,ynew,f7,f18,f19,f20,wrap64_in]);try simp only[yback])
  refine InvQ_go (3-(i+1)) (by omega) ⟨(i+1),(H5.length+1),false,rfl,by omega,(by rw[gen_succ];rfl),(by first|rfl|exact f18|(simp only[upd_apply];rfl)|(show I64 _=_;congr 1;omega)),(by first|rfl|exact f19|(simp only[upd_apply];rfl)|(show I64 _=_;congr 1;omega)),(by first|rfl|exact f20|(simp only[upd_apply];rfl)|(show I64 _=_;congr 1;omega)),(pre6 _ (by omega) (pp.trans p5)),(fun m bl e1 e2 g=>keep6 m bl (by omega) (pre_get p5 (po m bl e1 e2 g))),(by omega),lo6,(by omega)⟩
 have ei:i=3:=by omega
 subst ei
 ((try simp (maxSteps:=3000000) (dsimp:=false) (disch:=first|omega|simp only[lnx];omega) only[↓ypre,ypost,↓reduceIte,reduceEqDiff,reduceAdd,reduceSub,reduceLeDiff,zz0,ynew,f7,f18,f19,f20,decide_eq_false hlt]);try simp only[yback])
 have kp:=pre_len p12
 exact hQ _ _ (p12.trans pp) (lo.ownR (by omega))
end Go.Proofs.Ytapafdpnmakekaa.X

set_option linter.unusedVariables false
set_option linter.unusedSimpArgs false
set_option maxRecDepth 20000
set_option maxHeartbeats 4000000
namespace Go.Proofs.Ytapafdpnmakekaa.X
open Go Go.RowKit
def StV (p n:Int) (st:List (List Int)):Prop:=∀ i,i<st.length→okStep p (n+(i:Nat)) (st.getD i [])=true
def OuV (p m:Int) (out:List (List Int)):Prop:=∀ i,i<out.length→∃ a b,out.getD i []=[a,b]∧0≤a∧a<m∧0≤b∧b<p∧¬ (b=0∧a≠0)
theorem OuV.mono {p m m':Int} {out:List (List Int)} (o:OuV p m out) (h:m≤m'):OuV p m' out:=fun i hi=>by
 obtain⟨a,b,e,h1,h2,h3⟩:=o i hi
 exact⟨a,b,e,h1,by omega,h3⟩
theorem StV.app {p n:Int} {st:List (List Int)} {q:List Int} (o:StV p n st) (hq:okStep p (n+(st.length:Nat)) q=true):StV p n (st++[q]):=fun i hi=>by
 rw[List.length_append,List.length_singleton] at hi
 by_cases e:i=st.length
 ·subst e
  rw[getD_app_r (Nat.le_refl _),Nat.sub_self]
  exact hq
 ·rw[getD_app_l (by omega)]
  exact o i (by omega)
theorem OuV.app {p m a b:Int} {out:List (List Int)} (o:OuV p m out) (h:0≤a∧a<m∧0≤b∧b<p∧¬ (b=0∧a≠0)):OuV p m (out++[[a,b]]):=fun i hi=>by
 rw[List.length_append,List.length_singleton] at hi
 by_cases e:i=out.length
 ·subst e
  rw[getD_app_r (Nat.le_refl _),Nat.sub_self]
  exact⟨a,b,rfl,h⟩
 ·rw[getD_app_l (by omega)]
  exact o i (by omega)
structure RSV (p n:Int) (st0:List (List Int)) (row:List Int) (k:Nat) (s:RS):Prop where
 sv:StV p n s.st
 ge:st0.length≤s.st.length
 le:s.st.length≤st0.length+cntB (fun i=>decide (row.getD i 0≠0)) k
 fac:0≤s.fac∧s.fac<p
 vf:s.val<0↔s.fac=0
 v1:-1≤s.val∧s.val<n+s.st.length
 v2:s.val<k∨(row.length:Int)≤s.val
theorem rowSt_valid {p n:Int} {st0:List (List Int)} {row:List Int} (hp:isP p=true) (hr:allIn p row=true) (hn:1≤n) (hW:(row.length:Int)≤n+st0.length) (hs:StV p n st0):∀ {k:Nat},k≤row.length→RSV p n st0 row k (rowSt p n st0 row k)
 | 0,_=>by
  have:=isP_in hp
  unfold rowSt
  refine⟨hs,Nat.le_refl _,by simp[cntB],by simp only;omega,by simp,by simp only;omega,by simp⟩
 | k+1,hk=>by
  have ih:=rowSt_valid hp hr hn hW hs (k:=k) (by omega)
  have hrk:=allIn_iff.1 hr k (by omega)
  unfold rowSt
  simp only
  generalize rowSt p n st0 row k=s at *
  obtain⟨sv,ge,le,fac,vf,v1,v2⟩:=ih
  have ec:cntB (fun i=>decide (row.getD i 0≠0)) (k+1)=cntB (fun i=>decide (row.getD i 0≠0)) k+(if decide (row.getD k 0≠0)=true then 1 else 0):=rfl
  by_cases h0:row.getD k 0=0
  ·rw[if_pos h0]
   exact⟨sv,ge,by rw[ec];omega,fac,vf,v1,by omega⟩
  rw[if_neg h0]
  rw[if_pos (decide_eq_true h0)] at ec
  by_cases h1:s.val<0
  ·rw[if_pos h1]
   refine⟨sv,ge,by rw[ec];show s.st.length≤_;omega,by simp only;omega,by simp only;omega,by simp only;omega,by simp only;omega⟩
  ·rw[if_neg h1]
   have hf:s.fac≠0:=fun e=>h1 (vf.2 e)
   obtain⟨w1,w2,_⟩:=invP_is hp (n:=s.fac) (by omega)
   have nz:=mul_nz hp (a:=row.getD k 0) (r:=invP p s.fac) (by omega) ⟨w1,w2⟩
   have hok:okStep p (n+(s.st.length:Nat)) [s.val,(k:Int),(row.getD k 0*invP p s.fac).tmod p]=true:=by
    rw[okStep_3,decide_eq_true_eq]
    omega
   refine⟨sv.app hok,by simp;omega,by rw[ec];simp only[List.length_append,List.length_singleton];omega,fac,by simp only[List.length_append,List.length_singleton];omega,by simp only[List.length_append,List.length_singleton];omega,?_⟩
   right
   simp only
   omega
structure FV (p n:Int) (x:Prg):Prop where
 ep:x.p=p
 en:x.n=n
 sv:StV p n x.st
 ov:OuV p (n+x.st.length) x.out
theorem finP_valid {p n:Int} {x:Prg} {rows:List (List Int)} (hp:isP p=true) (hr:∀ i,i<rows.length→allIn p (rows.getD i [])=true∧((rows.getD i []).length:Int)≤n+x.st.length) (hn:1≤n) (hx:FV p n x):∀ {i:Nat},i≤rows.length →
  FV p n (finP x rows i)∧x.st.length≤(finP x rows i).st.length∧(finP x rows i).st.length≤x.st.length+sumN (fun k=>nzR (rows.getD k [])) i
 | 0,_=>⟨hx,Nat.le_refl _,by simp[finP,sumN]⟩
 | i+1,hi=>by
  obtain⟨⟨e1,e2,sv,ov⟩,g1,g2⟩:=finP_valid hp hr hn hx (i:=i) (by omega)
  obtain⟨r1,r2⟩:=hr i (by omega)
  have v:=rowSt_valid (st0:=(finP x rows i).st) (row:=rows.getD i []) hp r1 hn (by omega) sv (k:=(rows.getD i []).length) (Nat.le_refl _)
  have es:finP x rows (i+1)=rowP (finP x rows i) (rows.getD i []):=rfl
  rw[es]
  unfold rowP
  rw[e1,e2]
  simp only
  generalize rowSt p n (finP x rows i).st (rows.getD i []) (rows.getD i []).length=s at *
  obtain⟨v1,v2,v3,v4,v5,v6,v7⟩:=v
  refine⟨⟨rfl,rfl,v1,?_⟩,by show x.st.length≤s.st.length;omega,?_⟩
  ·refine (ov.mono (by show n+_≤n+(s.st.length:Int);omega)).app ?_
   have hmax:max s.val 0=if s.val<0 then 0 else s.val:=by
    split<;>omega
   rw[hmax]
   by_cases h:s.val<0
   ·rw[if_pos h]
    show 0≤(0:Int)∧(0:Int)<n+(s.st.length:Int)∧_
    omega
   ·rw[if_neg h]
    show 0≤s.val∧s.val<n+(s.st.length:Int)∧_
    omega
  ·have e3:sumN (fun k=>nzR (rows.getD k [])) (i+1)=sumN (fun k=>nzR (rows.getD k [])) i+nzR (rows.getD i []):=rfl
   have e4:nzR (rows.getD i [])=cntB (fun j=>decide ((rows.getD i []).getD j 0≠0)) (rows.getD i []).length:=rfl
   rw[e3,e4]
   show s.st.length≤_
   omega
theorem FV.isPrg {p n:Int} {x:Prg} (o:FV p n x) (hp:isP p=true) (hn:1≤n∧n≤30) (hs:x.st.length≤900) (ho:1≤x.out.length∧x.out.length≤30):isPrg x=true:=by
 obtain⟨rfl,rfl,sv,ov⟩:=o
 refine isPrg_all ?_ sv fun i hi=>?_
 ·unfold headP
  rw[hp,Bool.true_and]
  exact decide_eq_true ⟨hn.1,hn.2,hs,ho.1,ho.2⟩
 ·obtain⟨a,b,e,h⟩:=ov i hi
  rw[e,okOut_2,decide_eq_true_eq]
  exact h
theorem finP_isPrg {p n:Int} {rows:List (List Int)} (h:lsOK p n rows=true):isPrg (finP ⟨p,n,[],[]⟩ rows rows.length)=true:=by
 obtain⟨hp,hn,hl,hm⟩:=lsOK_iff.1 h
 have nz:=(ShI.start h).nz
 simp only[List.length_nil,Nat.zero_add] at nz
 obtain⟨v,g1,g2⟩:=finP_valid (x:=⟨p,n,[],[]⟩) (rows:=rows) hp (fun i hi=>⟨(isMat_iff.1 hm i hi).2,by have:=(isMat_iff.1 hm i hi).1;simp only[List.length_nil];omega⟩) hn.1 ⟨rfl,rfl,fun i hi=>by simp at hi,fun i hi=>by simp at hi⟩ (i:=rows.length) (Nat.le_refl _)
 have hout:=(finP_facts (x:=⟨p,n,[],[]⟩) (rows:=rows) (N:=30) hp (fun i hi=>⟨(isMat_iff.1 hm i hi).2,by have:=(isMat_iff.1 hm i hi).1;omega⟩) hn (i:=rows.length) (Nat.le_refl _)).2.2.2
 simp only[List.length_nil,Nat.zero_add] at hout g2
 have e:sumN (fun k=>nzR (rows.getD k [])) rows.length=nzT rows:=rfl
 exact v.isPrg hp hn (by omega) (by omega)
theorem shF_valid {p:Int} {N:Nat} {rows:List (List Int)} (hp:isP p=true) (hT:1≤rows.length):∀ (f:Nat) (s:SS),ShI p N rows s→StV p (N:Int) s.st→StV p (N:Int) (shF p f s).st
 | 0,s,_,hs=>hs
 | f+1,s,i,hs=>by
  unfold shF
  by_cases h:2≤(bst p s.T).m
  ·rw[if_pos h]
   have b:=bst_ok hp i.gt (by rw[i.len];exact hT) h
   refine shF_valid hp hT f _ (i.go hp hT h).1 (hs.app ?_)
   rw[okStep_3,decide_eq_true_eq]
   omega
  ·rw[if_neg h]
   exact hs
theorem shP_isPrg {p n:Int} {rows:List (List Int)} (h:lsOK p n rows=true):isPrg (shP p n rows)=true:=by
 obtain⟨hp,hn,hl,hm⟩:=lsOK_iff.1 h
 have si:=shS_facts h
 have hN:((n.toNat:Nat):Int)=n:=by omega
 have sv:StV p ((n.toNat:Nat):Int) (shS p rows).st:=shF_valid hp (by omega) (nzT rows) ⟨rows,[]⟩ (ShI.start h) (fun i hi=>by simp at hi)
 rw[hN] at sv
 have nz:=si.nz
 have len:=si.len
 have rr:∀ i,i<(shS p rows).T.length→allIn p ((shS p rows).T.getD i [])=true∧(((shS p rows).T.getD i []).length:Int)≤n+(shS p rows).st.length:=fun i hi=>by
  obtain⟨g1,g2⟩:=si.gt i hi
  exact⟨allIn_iff.2 fun j hj=>g2 j (by omega),by omega⟩
 obtain⟨v,g1,g2⟩:=finP_valid (x:=⟨p,n,(shS p rows).st,[]⟩) (rows:=(shS p rows).T) hp rr hn.1 ⟨rfl,rfl,sv,fun i hi=>by simp at hi⟩ (i:=(shS p rows).T.length) (Nat.le_refl _)
 have hout:=(finP_facts (x:=⟨p,n,(shS p rows).st,[]⟩) (rows:=(shS p rows).T) (N:=10000) hp (fun i hi=>⟨(rr i hi).1,by have:=(rr i hi).2;omega⟩) hn (i:=(shS p rows).T.length) (Nat.le_refl _)).2.2.2
 simp only[List.length_nil,Nat.zero_add] at hout g2
 have e:sumN (fun k=>nzR ((shS p rows).T.getD k [])) (shS p rows).T.length=nzT (shS p rows).T:=rfl
 exact v.isPrg hp hn (by omega) (by omega)
theorem pgX_isPrg {h:AH} {v:Value} {x:Sch} {b:Bool} (hv:Prods h v x.ps) (hx:isX x=true) (h0:1≤x.ps.length) {i:Nat} (hi:i<3):isPrg (pgX x b i)=true:=by
 have ok:=fmX_ok hv hx h0 hi
 unfold pgX pgO
 cases b with
 | true=>exact shP_isPrg ok
 | false=>exact finP_isPrg ok
end Go.Proofs.Ytapafdpnmakekaa.X

set_option linter.unusedVariables false
set_option linter.unusedSimpArgs false
set_option maxRecDepth 20000
set_option maxHeartbeats 4000000
namespace Go.Proofs.Ytapafdpnmakekaa.X
open Go Go.RowKit
open Nat (reduceEqDiff reduceAdd reduceSub reduceLeDiff)
theorem s_l01Matrix {v:Value} {rows:List (List Int)} {p n cols:Int} {h:AH} {Q:Value→AH→Prop} (hv:Rows h v rows) (hm:SmallM rows) (hp:2≤p∧p≤5)
  (hQ:Q (.bool (isMat p cols rows&&decide ((rows.length:Int)=n))) h):WF S 214 [I64 p,v,I64 n,I64 cols] h Q:=by
 refine WF_fn (fn:=c214) rfl rfl ?_
 dsimp only[c214,oO,oM,oS,oG,oK,oE,oL,oF,oX,oN]
 obtain⟨hm1,hm2⟩:=hm
 ((try simp (maxSteps:=3000000) (dsimp:=false) (disch:=first|omega|simp only[lnx];omega) only[↓ypre,ypost,↓reduceIte,reduceEqDiff,reduceAdd,reduceSub,reduceLeDiff,zz0,ynew,hv.len]);try simp only[yback])
 by_cases h1:(rows.length:Int)=n
 case neg=>
  ((try simp (maxSteps:=3000000) (dsimp:=false) (disch:=first|omega|simp only[lnx];omega) only[↓ypre,ypost,↓reduceIte,reduceEqDiff,reduceAdd,reduceSub,reduceLeDiff,zz0,ynew,decide_eq_true (show (rows.length:Int)≠n from h1)]);try simp only[yback])
  rw[decide_eq_false h1,Bool.and_false] at hQ
  exact hQ
 rw[decide_eq_true h1,Bool.and_true] at hQ
 ((try simp (maxSteps:=3000000) (dsimp:=false) (disch:=first|omega|simp only[lnx];omega) only[↓ypre,ypost,↓reduceIte,reduceEqDiff,reduceAdd,reduceSub,reduceLeDiff,zz0,ynew,decide_eq_false (show ¬ (rows.length:Int)≠n from fun y=>y h1)]);try simp only[yback])
 refine WC_loop_inv (fun m f K1=>∃ (i:Nat),m=rows.length-i∧i≤rows.length∧f 0=I64 p∧f 1=v∧f 3=I64 cols∧f 9=I64 i∧(K1=h)∧(∀ j,j<i→((rows.getD j []).length:Int)=cols∧allIn p (rows.getD j [])=true)) ?_ (rows.length-0) _ _ ⟨0,rfl,by omega,(by first|rfl|simp[upd_apply]),(by first|rfl|simp[upd_apply]),(by first|rfl|simp[upd_apply]),(by first|rfl|simp[upd_apply]),rfl,(by omega)⟩
 rintro m f K1 ⟨i,rfl,hi,f0,f1,f3,f9,hK,hj⟩
 subst hK
 by_cases hlt:(i:Int)<rows.length
 ·have hi':i<rows.length:=by omega
  obtain⟨n0,off0,x0,hix0,hrd0,i0⟩:=hv.row hi'
  have bl:=hm2.1 i hi'
  by_cases h2:((rows.getD i []).length:Int)=cols
  case neg=>
   have d2:=decide_eq_true (show ((rows.getD i []).length:Int)≠cols from h2)
   ((try simp (maxSteps:=3000000) (dsimp:=false) (disch:=first|omega|simp only[lnx];omega) only[↓ypre,ypost,↓reduceIte,reduceEqDiff,reduceAdd,reduceSub,reduceLeDiff,zz0,ynew,f0,f1,f3,f9,hv.len,decide_eq_true hlt,hix0,hrd0,i0.len,d2]);try simp only[yback])
   rw[isMat_no hi' (fun h=>h2 h.1)] at hQ
   exact hQ
  have d2:=decide_eq_false (show ¬ ((rows.getD i []).length:Int)≠cols from fun y=>y h2)
  ((try simp (maxSteps:=3000000) (dsimp:=false) (disch:=first|omega|simp only[lnx];omega) only[↓ypre,ypost,↓reduceIte,reduceEqDiff,reduceAdd,reduceSub,reduceLeDiff,zz0,ynew,f0,f1,f3,f9,hv.len,decide_eq_true hlt,hix0,hrd0,i0.len,d2]);try simp only[yback])
  refine WC_loop_inv (fun m f K2=>∃ (k:Nat),m=((rows.getD i []).length)-k∧k≤((rows.getD i []).length)∧f 0=I64 p∧f 1=v∧f 3=I64 cols∧f 9=I64 i∧f 10=I64 k∧(K2=K1)∧(∀ j,j<k→0≤(rows.getD i []).getD j 0∧(rows.getD i []).getD j 0<p)) ?_ (((rows.getD i []).length)-0) _ _ ⟨0,rfl,by omega,(by first|rfl|exact f0|(simp[upd_apply];done)),(by first|rfl|exact f1|(simp[upd_apply];done)),(by first|rfl|exact f3|(simp[upd_apply];done)),(by first|rfl|exact f9|(simp[upd_apply];done)),(by first|rfl|simp[upd_apply]),rfl,(by omega)⟩
  rintro m f K2 ⟨k,rfl,hk,f0,f1,f3,f9,f10,hK2,ha⟩
  subst hK2
  by_cases hlk:(k:Int)<(rows.getD i []).length
  ·obtain⟨n1,off1,hix1,hrd1⟩:=i0.cell (j:=k) (by omega)
   ((try simp (maxSteps:=3000000) (dsimp:=false) (disch:=first|omega|simp only[lnx];omega) only[↓ypre,ypost,↓reduceIte,reduceEqDiff,reduceAdd,reduceSub,reduceLeDiff,zz0,ynew,f0,f1,f3,f9,f10,hix0,hrd0,i0.len,decide_eq_true hlk,hix1,hrd1,wrap64_in]);try simp only[yback])
   refine s_l01In ?_
   by_cases h5:0≤(rows.getD i []).getD k 0∧(rows.getD i []).getD k 0≤p-1
   ·((try simp (maxSteps:=3000000) (dsimp:=false) (disch:=first|omega|simp only[lnx];omega) only[↓ypre,ypost,↓reduceIte,reduceEqDiff,reduceAdd,reduceSub,reduceLeDiff,zz0,ynew,f0,f1,f3,f9,f10,decide_eq_true h5,wrap64_in]);try simp only[yback])
    have ha':∀ j,j<k+1→0≤(rows.getD i []).getD j 0∧(rows.getD i []).getD j 0<p:=fun j hj'=>by
     rcases Nat.lt_succ_iff_lt_or_eq.1 hj' with q|rfl
     ·exact ha j q
     ·omega
    refine InvQ_go (((rows.getD i []).length)-(k+1)) (by omega) ⟨(k+1),rfl,by omega,(by first|rfl|exact f0|(simp only[upd_apply];rfl)|(show I64 _=_;congr 1;omega)),(by first|rfl|exact f1|(simp only[upd_apply];rfl)|(show I64 _=_;congr 1;omega)),(by first|rfl|exact f3|(simp only[upd_apply];rfl)|(show I64 _=_;congr 1;omega)),(by first|rfl|exact f9|(simp only[upd_apply];rfl)|(show I64 _=_;congr 1;omega)),(by first|rfl|exact f10|(simp only[upd_apply];rfl)|(show I64 _=_;congr 1;omega)),rfl,ha'⟩
   ·((try simp (maxSteps:=3000000) (dsimp:=false) (disch:=first|omega|simp only[lnx];omega) only[↓ypre,ypost,↓reduceIte,reduceEqDiff,reduceAdd,reduceSub,reduceLeDiff,zz0,ynew,f0,f1,f3,f9,f10,decide_eq_false h5]);try simp only[yback])
    rw[isMat_no hi' (fun h=>h5 (by have:=allIn_iff.1 h.2 k (by omega);omega))] at hQ
    exact hQ
  have ek:k=(rows.getD i []).length:=by omega
  subst ek
  ((try simp (maxSteps:=3000000) (dsimp:=false) (disch:=first|omega|simp only[lnx];omega) only[↓ypre,ypost,↓reduceIte,reduceEqDiff,reduceAdd,reduceSub,reduceLeDiff,zz0,ynew,f0,f1,f3,f9,f10,hix0,hrd0,i0.len,decide_eq_false hlk,wrap64_in]);try simp only[yback])
  have hj2:∀ j,j<i+1→((rows.getD j []).length:Int)=cols∧allIn p (rows.getD j [])=true:=fun j hj'=>by
   rcases Nat.lt_succ_iff_lt_or_eq.1 hj' with q|rfl
   ·exact hj j q
   ·exact⟨h2,allIn_iff.2 ha⟩
  refine InvQ_go (rows.length-(i+1)) (by omega) ⟨(i+1),rfl,by omega,(by first|rfl|exact f0|(simp only[upd_apply];rfl)|(show I64 _=_;congr 1;omega)),(by first|rfl|exact f1|(simp only[upd_apply];rfl)|(show I64 _=_;congr 1;omega)),(by first|rfl|exact f3|(simp only[upd_apply];rfl)|(show I64 _=_;congr 1;omega)),(by first|rfl|exact f9|(simp only[upd_apply];rfl)|(show I64 _=_;congr 1;omega)),rfl,hj2⟩
 have ei:i=rows.length:=by omega
 subst ei
 ((try simp (maxSteps:=3000000) (dsimp:=false) (disch:=first|omega|simp only[lnx];omega) only[↓ypre,ypost,↓reduceIte,reduceEqDiff,reduceAdd,reduceSub,reduceLeDiff,zz0,ynew,f0,f1,f3,f9,hv.len,decide_eq_false hlt]);try simp only[yback])
 rw[isMat_iff.2 hj] at hQ
 exact hQ
def dot (q ns:List Int):Nat→Int
 | 0=>0
 | j+1=>dot q ns j+q.getD j 0*ns.getD j 0
@[simp] theorem dot_0 {q ns:List Int}:dot q ns 0=0:=rfl
theorem dot_in {q ns:List Int} {p:Int} (hq:By 9 q) (hn:allIn p ns=true) (hp:2≤p∧p≤5):∀ {j:Nat},j≤ns.length→j≤9→0≤dot q ns j∧dot q ns j≤j*1275
 | 0,_,_=>by simp[dot]
 | j+1,h1,h2=>by
  have ih:=dot_in hq hn hp (j:=j) (by omega) (by omega)
  have b1:=hq.2 j (by omega)
  have b2:=allIn_iff.1 hn j (by omega)
  have m1:=Int.mul_nonneg b1.1 b2.1
  have m2:q.getD j 0*ns.getD j 0≤255*5:=Int.le_trans (Int.mul_le_mul_of_nonneg_right (show q.getD j 0≤255 by omega) b2.1) (Int.mul_le_mul_of_nonneg_left (by omega) (by decide))
  simp only[dot]
  omega
theorem i_atF {p:Int} {q ns:List Int} {v:Value} {h:AH} {Q:Value→AH→Prop} (hq:By 9 q) (hv:Ints h v ns) (hl:ns.length≤9) (hn:allIn p ns=true) (hp:2≤p∧p≤5)
  (hQ:∀ h',h<+:h'→Q (I64 ((dot q ns ns.length).tmod p)) h'):WF S 286 [I64 p,aggV .u8 q,v] h Q:=by
 refine WF_fn (fn:=c286) rfl rfl ?_
 dsimp only[c286,oO,oM,oS,oG,oK,oE,oL,oF,oX,oN]
 ((try simp (maxSteps:=3000000) (dsimp:=false) (disch:=first|omega|simp only[lnx];omega) only[↓ypre,ypost,↓reduceIte,reduceEqDiff,reduceAdd,reduceSub,reduceLeDiff,zz0,ynew,aggV,cel_all,cellsL_cel]);try simp only[yback])
 generalize hH1:AH.new h _=H1
 obtain⟨hb1,p1,n1⟩:=new_facts hH1
 have hq1:=hq.1
 have hv1:=hv.pre p1
 ((try simp (maxSteps:=3000000) (dsimp:=false) (disch:=first|omega|simp only[lnx];omega) only[↓ypre,ypost,↓reduceIte,reduceEqDiff,reduceAdd,reduceSub,reduceLeDiff,zz0,ynew,hv.len]);try simp only[yback])
 refine WC_loop_inv (fun m f K1=>∃ (i:Nat),m=ns.length-i∧i≤ns.length∧f 0=I64 p∧f 4=.pointer (some ⟨h.length,0,none⟩)∧f 7=I64 (dot q ns i)∧f 10=v∧f 11=I64 ns.length∧f 12=I64 i∧K1=H1) ?_ (ns.length-0) _ _ ⟨0,rfl,by omega,(by first|rfl|simp[upd_apply]),(by first|rfl|simp[upd_apply]),(by first|rfl|simp[upd_apply]),(by first|rfl|simp[upd_apply]),(by first|rfl|simp[upd_apply]),(by first|rfl|simp[upd_apply]),rfl⟩
 rintro m f K1 ⟨i,rfl,hi,f0,f4,f7,f10,f11,f12,rfl⟩
 by_cases hlt:(i:Int)<ns.length
 ·have hi':i<ns.length:=by omega
  obtain⟨n1',off1,hix1,hrd1⟩:=hv1.cell hi'
  have g1:=cel_get (k:=.u8) (q:=q) (j:=i) (by omega)
  have ixa:=ixa_u (n:=h.length) (off:=0) (len:=9) (kk:=.i64) (j:=i) (by omega)
  rw[Nat.zero_add] at ixa
  have b0:=dot_in hq hn hp (j:=i) (by omega) (by omega)
  have b1:=dot_in hq hn hp (j:=i+1) (by omega) (by omega)
  have b2:=hq.2 i (by omega)
  have b3:=allIn_iff.1 hn i hi'
  simp only[dot] at b1
  have b4:0≤q.getD i 0*ns.getD i 0:=Int.mul_nonneg b2.1 b3.1
  ((try simp (maxSteps:=3000000) (dsimp:=false) (disch:=first|omega|simp only[lnx];omega) only[↓ypre,ypost,↓reduceIte,reduceEqDiff,reduceAdd,reduceSub,reduceLeDiff,zz0,ynew,f0,f4,f7,f10,f11,f12,decide_eq_true hlt,hix1,hrd1,ixa,rd1_of hb1,g1,wrap64_in]);try simp only[yback])
  refine InvQ_go (ns.length-(i+1)) (by omega) ⟨(i+1),rfl,by omega,(by first|rfl|exact f0|(simp only[upd_apply];rfl)|(show I64 _=_;congr 1;omega)),(by first|rfl|exact f4|(simp only[upd_apply];rfl)|(show I64 _=_;congr 1;omega)),(by first|rfl|exact f7|(simp only[upd_apply];rfl)|(show I64 _=_;congr 1;omega)),(by first|rfl|exact f10|(simp only[upd_apply];rfl)|(show I64 _=_;congr 1;omega)),(by first|rfl|exact f11|(simp only[upd_apply];rfl)|(show I64 _=_;congr 1;omega)),(by first|rfl|exact f12|(simp only[upd_apply];rfl)|(show I64 _=_;congr 1;omega)),rfl⟩
 have ei:i=ns.length:=by omega
 subst ei
 ((try simp (maxSteps:=3000000) (dsimp:=false) (disch:=first|omega|simp only[lnx];omega) only[↓ypre,ypost,↓reduceIte,reduceEqDiff,reduceAdd,reduceSub,reduceLeDiff,zz0,ynew,f0,f4,f7,f10,f11,f12,decide_eq_false hlt]);try simp only[yback])
 ((try simp (maxSteps:=3000000) (dsimp:=false) (disch:=first|omega|simp only[lnx];omega) only[↓ypre,ypost,↓reduceIte,reduceEqDiff,reduceAdd,reduceSub,reduceLeDiff,zz0,ynew,f0,f4,f7,f10,f11,f12,bin_rem (show p≠0 by omega)]);try simp only[yback])
 exact hQ _ p1
theorem allIn_flat {w:Nat} {p:Int} {L:List (List Int)} (hm:isMat p w L=true):allIn p L.flatten=true:=by
 simp only[allIn,List.all_eq_true,List.mem_flatten]
 rintro x ⟨r,hr,hx⟩
 simp only[isMat,List.all_eq_true,Bool.and_eq_true] at hm
 have:=(hm r hr).2
 simp only[allIn,List.all_eq_true] at this
 exact this x hx
theorem isMat_wid {w:Nat} {p:Int} {L:List (List Int)} (hm:isMat p w L=true):Wid w L:=wid_of fun i hi=>by
 have:=(isMat_iff.1 hm i hi).1
 omega
end Go.Proofs.Ytapafdpnmakekaa.X

set_option linter.unusedVariables false
set_option linter.unusedSimpArgs false
set_option maxRecDepth 20000
set_option maxHeartbeats 4000000
namespace Go.Proofs.Ytapafdpnmakekaa.X
open Go Go.RowKit
def Vf (p:Int) (st:List (List Int)) (ns:List Int):List Int:=valS p st ns st.length
theorem Vf_len {p:Int} {st:List (List Int)} {ns:List Int}:(Vf p st ns).length=ns.length+st.length:=valS_len
theorem valS_app {p:Int} {st t:List (List Int)} {ns:List Int}:∀ {i:Nat},i≤st.length→valS p (st++t) ns i=valS p st ns i
 | 0,_=>rfl
 | i+1,h=>by
  simp only[valS]
  rw[valS_app (i:=i) (by omega),getD_app_l (by omega)]
theorem Vf_snoc {p:Int} {st:List (List Int)} {ns:List Int} {a b:Nat} {d:Int}:Vf p (st++[[(a:Int),(b:Int),d]]) ns=Vf p st ns++[((Vf p st ns).getD a 0+d*(Vf p st ns).getD b 0).tmod p]:=by
 unfold Vf
 rw[List.length_append,List.length_singleton]
 simp only[valS]
 rw[valS_app (Nat.le_refl _),getD_app_r (Nat.le_refl _),Nat.sub_self]
 rfl
theorem dot_congr {q ns ms:List Int}:∀ {k:Nat},(∀ i,i<k→ns.getD i 0=ms.getD i 0)→dot q ns k=dot q ms k
 | 0,_=>rfl
 | k+1,h=>by
  simp only[dot]
  rw[dot_congr (k:=k) fun i hi=>h i (by omega),h k (by omega)]
theorem rowSt_val {p n:Int} {st0:List (List Int)} {row ns:List Int} (hp:isP p=true) (hr:allIn p row=true) (hn:1≤n) (hnl:(ns.length:Int)=n) (hW:(row.length:Int)≤n+st0.length) (hs:StV p n st0):∀ {k:Nat},k≤row.length →
  (∀ i,i<(Vf p st0 ns).length→(Vf p (rowSt p n st0 row k).st ns).getD i 0=(Vf p st0 ns).getD i 0)∧p∣(rowSt p n st0 row k).fac*(Vf p (rowSt p n st0 row k).st ns).getD (rowSt p n st0 row k).val.toNat 0-dot row (Vf p st0 ns) k
 | 0,_=>by
  refine⟨fun i _=>rfl,?_⟩
  simp[rowSt]
 | k+1,hk=>by
  have ih:=rowSt_val (ns:=ns) hp hr hn hnl hW hs (k:=k) (by omega)
  have v:=rowSt_valid hp hr hn hW hs (k:=k) (by omega)
  have hrk:=allIn_iff.1 hr k (by omega)
  have ed:dot row (Vf p st0 ns) (k+1)=dot row (Vf p st0 ns) k+row.getD k 0*(Vf p st0 ns).getD k 0:=rfl
  have l0:=Vf_len (p:=p) (st:=st0) (ns:=ns)
  rw[ed]
  unfold rowSt
  simp only
  generalize rowSt p n st0 row k=s at *
  obtain⟨i1,i2⟩:=ih
  obtain⟨sv,ge,le,fac,vf,v1,v2⟩:=v
  have l1:=Vf_len (p:=p) (st:=s.st) (ns:=ns)
  by_cases h0:row.getD k 0=0
  ·rw[if_pos h0]
   refine⟨i1,?_⟩
   rw[h0,Int.zero_mul,Int.add_zero]
   exact i2
  rw[if_neg h0]
  by_cases h1:s.val<0
  ·rw[if_pos h1]
   refine⟨i1,?_⟩
   rw[vf.1 h1,Int.zero_mul] at i2
   simp only[Int.toNat_natCast]
   rw[i1 k (by omega)]
   obtain⟨q,hq⟩:=i2
   exact⟨q,by omega⟩
  rw[if_neg h1]
  have hf:s.fac≠0:=fun e=>h1 (vf.2 e)
  obtain⟨w1,w2,w3,_⟩:=invP_is hp (n:=s.fac) (by omega)
  obtain⟨A,hA⟩:∃ A:Nat,s.val=A:=⟨s.val.toNat,by omega⟩
  rw[hA,Int.toNat_natCast] at i2
  have eV:Vf p (s.st++[[s.val,(k:Int),(row.getD k 0*invP p s.fac).tmod p]]) ns=Vf p s.st ns++[((Vf p s.st ns).getD A 0+(row.getD k 0*invP p s.fac).tmod p*(Vf p s.st ns).getD k 0).tmod p]:=by
   rw[hA]
   exact Vf_snoc
  simp only
  rw[eV]
  refine⟨fun i hi=>by rw[getD_app_l (by omega)];exact i1 i hi,?_⟩
  have ei:(n+((s.st.length:Int)+1)-1).toNat=(Vf p s.st ns).length:=by omega
  rw[ei,getD_app_r (Nat.le_refl _),Nat.sub_self,i1 k (by omega)]
  show p∣s.fac*((Vf p s.st ns).getD A 0+(row.getD k 0*invP p s.fac).tmod p*(Vf p st0 ns).getD k 0).tmod p-_
  obtain⟨q1,e1⟩:=i2
  obtain⟨q2,e2⟩:=tmod_dvd ((Vf p s.st ns).getD A 0+(row.getD k 0*invP p s.fac).tmod p*(Vf p st0 ns).getD k 0) p
  obtain⟨q3,e3⟩:=tmod_dvd (row.getD k 0*invP p s.fac) p
  obtain⟨q4,e4⟩:=inv_dvd (show IsInv p s.fac (invP p s.fac) from invP_is hp (by omega))
  generalize ((Vf p s.st ns).getD A 0+(row.getD k 0*invP p s.fac).tmod p*(Vf p st0 ns).getD k 0).tmod p=x at *
  generalize (row.getD k 0*invP p s.fac).tmod p=f at *
  generalize (Vf p s.st ns).getD A 0=a at *
  generalize (Vf p st0 ns).getD k 0=b at *
  generalize row.getD k 0=r at *
  generalize invP p s.fac=w at *
  exact⟨q1-s.fac*q2-s.fac*b*q3+r*b*q4,by grind⟩
theorem getD_in {p:Int} {ns:List Int} (hp:1≤p) (h:allIn p ns=true) (j:Nat):0≤ns.getD j 0∧ns.getD j 0<p:=by
 by_cases hj:j<ns.length
 ·exact allIn_iff.1 h j hj
 ·rw[List.getD_eq_getElem?_getD,List.getElem?_eq_none (by omega)]
  simp
  omega
theorem valS_nn {p n:Int} {st:List (List Int)} {ns:List Int} (hp:1≤p) (hs:StV p n st) (hn:allIn p ns=true):∀ {i:Nat},i≤st.length→allIn p (valS p st ns i)=true
 | 0,_=>hn
 | i+1,hi=>by
  have ih:=valS_nn hp hs hn (i:=i) (by omega)
  have h1:=hs i (by omega)
  unfold okStep at h1
  rw[decide_eq_true_eq] at h1
  simp only[valS]
  refine allIn_app ih (tmod_nn ?_ (by omega))
  have a:=getD_in hp ih (nq (st.getD i []) 0)
  have b:=getD_in hp ih (nq (st.getD i []) 1)
  have:=Int.mul_nonneg (show 0≤(st.getD i []).getD 2 0 by omega) b.1
  omega
theorem Vf_in {p n:Int} {st:List (List Int)} {ns:List Int} (hp:1≤p) (hs:StV p n st) (hn:allIn p ns=true):allIn p (Vf p st ns)=true:=valS_nn hp hs hn (Nat.le_refl _)
theorem dot_nn {p:Int} {q ns:List Int} (hp:1≤p) (hq:allIn p q=true) (hn:allIn p ns=true):∀ {k:Nat},0≤dot q ns k
 | 0=>Int.le_refl _
 | k+1=>by
  have ih:=dot_nn hp hq hn (k:=k)
  have:=Int.mul_nonneg (getD_in hp hq k).1 (getD_in hp hn k).1
  simp only[dot]
  omega
structure OutV (p:Int) (T:List (List Int)) (V0 V:List Int) (out:List (List Int)) (i:Nat):Prop where
 len:out.length=i
 pre:∀ a,a<V0.length→V.getD a 0=V0.getD a 0
 val:∀ j,j<i→nq (out.getD j []) 0<V.length∧0≤(out.getD j []).getD 1 0∧p∣(out.getD j []).getD 1 0*V.getD (nq (out.getD j []) 0) 0-dot (T.getD j []) V0 (T.getD j []).length
theorem finP_val {p n:Int} {st0:List (List Int)} {T:List (List Int)} {ns:List Int} (hp:isP p=true) (hn:1≤n) (hnl:(ns.length:Int)=n) (hs:StV p n st0)
  (hr:∀ i,i<T.length→allIn p (T.getD i [])=true∧((T.getD i []).length:Int)≤n+st0.length):∀ {i:Nat},i≤T.length→OutV p T (Vf p st0 ns) (Vf p (finP ⟨p,n,st0,[]⟩ T i).st ns) (finP ⟨p,n,st0,[]⟩ T i).out i
 | 0,_=>⟨rfl,fun _ _=>rfl,fun j hj=>by omega⟩
 | i+1,hi=>by
  have ih:=finP_val hp hn hnl hs hr (i:=i) (by omega)
  obtain⟨⟨e1,e2,sv,ov⟩,g1,g2⟩:=finP_valid (x:=⟨p,n,st0,[]⟩) (rows:=T) hp hr hn ⟨rfl,rfl,hs,fun i hi=>by simp at hi⟩ (i:=i) (by omega)
  obtain⟨r1,r2⟩:=hr i (by omega)
  simp only at g1
  have v:=rowSt_valid (st0:=(finP ⟨p,n,st0,[]⟩ T i).st) (row:=T.getD i []) hp r1 hn (by omega) sv (k:=(T.getD i []).length) (Nat.le_refl _)
  obtain⟨w1,w2⟩:=rowSt_val (st0:=(finP ⟨p,n,st0,[]⟩ T i).st) (row:=T.getD i []) (ns:=ns) hp r1 hn hnl (by omega) sv (k:=(T.getD i []).length) (Nat.le_refl _)
  have es:finP ⟨p,n,st0,[]⟩ T (i+1)=rowP (finP ⟨p,n,st0,[]⟩ T i) (T.getD i []):=rfl
  rw[es]
  unfold rowP
  rw[e1,e2]
  simp only
  obtain⟨len,pre,val⟩:=ih
  have L0:=Vf_len (p:=p) (st:=st0) (ns:=ns)
  have L1:=Vf_len (p:=p) (st:=(finP ⟨p,n,st0,[]⟩ T i).st) (ns:=ns)
  have ec:dot (T.getD i []) (Vf p (finP ⟨p,n,st0,[]⟩ T i).st ns) (T.getD i []).length=dot (T.getD i []) (Vf p st0 ns) (T.getD i []).length:=dot_congr fun a ha=>pre a (by omega)
  rw[ec] at w2
  generalize rowSt p n (finP ⟨p,n,st0,[]⟩ T i).st (T.getD i []) (T.getD i []).length=s at *
  obtain⟨v1,v2,v3,v4,v5,v6,v7⟩:=v
  have L2:=Vf_len (p:=p) (st:=s.st) (ns:=ns)
  generalize (finP ⟨p,n,st0,[]⟩ T i).out=out at *
  refine⟨by simp[len],fun a ha=>(w1 a (by omega)).trans (pre a ha),fun j hj=>?_⟩
  by_cases ej:j<i
  ·obtain⟨q1,q2,q3⟩:=val j ej
   rw[getD_app_l (by omega)]
   refine⟨by omega,q2,?_⟩
   rw[w1 _ q1]
   exact q3
  ·have:j=i:=by omega
   subst this
   rw[getD_app_r (by omega),len,Nat.sub_self]
   have hm:(max s.val 0).toNat=s.val.toNat:=by omega
   show (max s.val 0).toNat<_∧0≤s.fac∧p∣s.fac*(Vf p s.st ns).getD (max s.val 0).toNat 0-_
   rw[hm]
   refine⟨?_,v4.1,w2⟩
   rw[L2]
   omega
theorem outS_get {p:Int} {out:List (List Int)} {vs:List Int} {j:Nat}:∀ {i:Nat},j<i→(outS p out vs i).getD j 0=((out.getD j []).getD 1 0*vs.getD (nq (out.getD j []) 0) 0).tmod p
 | 0,h=>by omega
 | i+1,h=>by
  simp only[outS]
  by_cases e:j=i
  ·subst e
   rw[getD_app_r (by rw[outS_len];exact Nat.le_refl _),outS_len,Nat.sub_self]
   rfl
  ·rw[getD_app_l (by rw[outS_len];omega),outS_get (by omega)]
theorem runP_fin {p n:Int} {st0:List (List Int)} {T:List (List Int)} {ns:List Int} (hp:isP p=true) (hn:1≤n) (hnl:(ns.length:Int)=n) (hal:allIn p ns=true) (hs:StV p n st0)
  (hr:∀ i,i<T.length→allIn p (T.getD i [])=true∧((T.getD i []).length:Int)≤n+st0.length) {j:Nat} (hj:j<T.length) :
  (runP (finP ⟨p,n,st0,[]⟩ T T.length) ns).getD j 0=(dot (T.getD j []) (Vf p st0 ns) (T.getD j []).length).tmod p:=by
 have hp5:=isP_in hp
 have ov:=finP_val hp hn hnl hs hr (i:=T.length) (Nat.le_refl _)
 obtain⟨⟨e1,e2,sv,_⟩,g1,g2⟩:=finP_valid (x:=⟨p,n,st0,[]⟩) (rows:=T) hp hr hn ⟨rfl,rfl,hs,fun i hi=>by simp at hi⟩ (i:=T.length) (Nat.le_refl _)
 obtain⟨q1,q2,q3⟩:=ov.val j hj
 unfold runP
 rw[e1,outS_get (by rw[ov.len];exact hj)]
 show (_*(Vf p (finP ⟨p,n,st0,[]⟩ T T.length).st ns).getD _ 0).tmod p=_
 have vin:=getD_in (show 1≤p by omega) (Vf_in (by omega) sv hal) (nq ((finP ⟨p,n,st0,[]⟩ T T.length).out.getD j []) 0)
 have a:=tmod_nn (J:=p) (Int.mul_nonneg q2 vin.1) (by omega)
 have b:=tmod_nn (J:=p) (dot_nn (show 1≤p by omega) (hr j hj).1 (Vf_in (show 1≤p by omega) hs hal) (k:=(T.getD j []).length)) (by omega)
 obtain⟨k1,h1⟩:=q3
 obtain⟨k2,h2⟩:=tmod_dvd (((finP ⟨p,n,st0,[]⟩ T T.length).out.getD j []).getD 1 0*(Vf p (finP ⟨p,n,st0,[]⟩ T T.length).st ns).getD (nq ((finP ⟨p,n,st0,[]⟩ T T.length).out.getD j []) 0) 0) p
 obtain⟨k3,h3⟩:=tmod_dvd (dot (T.getD j []) (Vf p st0 ns) (T.getD j []).length) p
 exact dvd_eq ⟨k1-k2+k3,by grind⟩ a b
theorem dot_set {q ns:List Int} {a:Nat} {x:Int} (ha:a<q.length):∀ {k:Nat},dot (q.set a x) ns k=dot q ns k+(if a<k then (x-q.getD a 0)*ns.getD a 0 else 0)
 | 0=>by simp[dot]
 | k+1=>by
  simp only[dot]
  rw[dot_set ha (k:=k),set_getD ha]
  by_cases e:k=a
  ·subst e
   rw[if_pos rfl,if_neg (Nat.lt_irrefl _),if_pos (by omega)]
   grind
  ·rw[if_neg e]
   by_cases h:a<k
   ·rw[if_pos h,if_pos (by omega)]
    omega
   ·rw[if_neg h,if_neg (by omega)]
    omega
theorem dot_app {q ns:List Int} {x v:Int} (hl:q.length=ns.length):dot (q++[x]) (ns++[v]) (q.length+1)=dot q ns q.length+x*v:=by
 have key:∀ {k:Nat},k≤q.length→dot (q++[x]) (ns++[v]) k=dot q ns k:=by
  intro k
  induction k with
  | zero=>intro _;rfl
  | succ k ih=>
   intro hk
   simp only[dot]
   rw[ih (by omega),getD_app_l (by omega),getD_app_l (by omega)]
 simp only[dot]
 rw[key (Nat.le_refl _),getD_app_r (Nat.le_refl _),Nat.sub_self,hl,getD_app_r (Nat.le_refl _),Nat.sub_self]
 rfl
theorem mv_dot {p:Int} {l j r:Nat} {row V:List Int} {v:Int} (hl:l<row.length) (hj:j<row.length) (hlj:l≠j) (hV:row.length=V.length) (hv:p∣V.getD l 0+r*V.getD j 0-v) :
  p∣dot (mvRow p l j r row) (V++[v]) (row.length+1)-dot row V row.length:=by
 unfold mvRow
 by_cases hm:mvOK p l j r row=true
 ·rw[if_pos hm]
  have e:((row.set l 0).set j 0).length=row.length:=by simp
  have da:=dot_app (q:=(row.set l 0).set j 0) (ns:=V) (x:=row.getD l 0) (v:=v) (by rw[e,hV])
  rw[e] at da
  rw[da,dot_set (by simp;exact hj),dot_set hl,if_pos hj,if_pos hl,set_getD hl,if_neg (fun q=>hlj q.symm)]
  unfold mvOK at hm
  rw[Bool.and_eq_true,decide_eq_true_eq,decide_eq_true_eq] at hm
  obtain⟨k1,h1⟩:=hv
  obtain⟨k2,h2⟩:=tmod_dvd (row.getD l 0*r) p
  rw[←hm.2] at h2
  generalize row.getD l 0=a at *
  generalize row.getD j 0=b at *
  generalize V.getD l 0=x at *
  generalize V.getD j 0=y at *
  exact⟨k2*y-a*k1,by grind⟩
 ·rw[if_neg hm,dot_app hV]
  exact⟨0,by grind⟩
structure ShV (p:Int) (rows:List (List Int)) (ns:List Int) (s:SS):Prop where
 val:∀ i,i<rows.length→p∣dot (s.T.getD i []) (Vf p s.st ns) (s.T.getD i []).length-dot (rows.getD i []) ns (rows.getD i []).length
theorem shF_val {p:Int} {N:Nat} {rows:List (List Int)} {ns:List Int} (hp:isP p=true) (hT:1≤rows.length) (hN:ns.length=N):∀ (f:Nat) (s:SS),ShI p N rows s→ShV p rows ns s→ShV p rows ns (shF p f s)
 | 0,s,_,hs=>hs
 | f+1,s,i,hs=>by
  unfold shF
  by_cases h:2≤(bst p s.T).m
  ·rw[if_pos h]
   have b:=bst_ok hp i.gt (by rw[i.len];exact hT) h
   refine shF_val hp hT hN f _ (i.go hp hT h).1 ⟨fun k hk=>?_⟩
   have hk':k<s.T.length:=by rw[i.len];exact hk
   have wl:=(i.gt k hk').1
   have Vl:=Vf_len (p:=p) (st:=s.st) (ns:=ns)
   have eT:(stepS p s).T.getD k []=mvRow p (bst p s.T).l (bst p s.T).j (bst p s.T).r (s.T.getD k []):=mvT_get hk'
   have eS:(stepS p s).st=s.st++[[((bst p s.T).l:Int),((bst p s.T).j:Int),((bst p s.T).r:Int)]]:=rfl
   rw[eT,eS,Vf_snoc,mvRow_len]
   have md:=mv_dot (p:=p) (row:=s.T.getD k []) (V:=Vf p s.st ns) (l:=(bst p s.T).l) (j:=(bst p s.T).j) (r:=(bst p s.T).r) (by omega) (by omega) (by omega) (by omega) (tmod_dvd ((Vf p s.st ns).getD (bst p s.T).l 0+((bst p s.T).r:Int)*(Vf p s.st ns).getD (bst p s.T).j 0) p)
   obtain⟨k1,h1⟩:=md
   obtain⟨k2,h2⟩:=hs.val k hk
   exact⟨k1+k2,by grind⟩
  ·rw[if_neg h]
   exact hs
theorem runP_pgO {p n:Int} {rows:List (List Int)} {ns:List Int} {b:Bool} (ok:lsOK p n rows=true) (hnl:(ns.length:Int)=n) (hal:allIn p ns=true) {j:Nat} (hj:j<rows.length) :
  (runP (pgO p n rows b) ns).getD j 0=(dot (rows.getD j []) ns (rows.getD j []).length).tmod p:=by
 obtain⟨hp,hn,hl,hm⟩:=lsOK_iff.1 ok
 have hp5:=isP_in hp
 unfold pgO
 cases b with
 | false=>
  rw[if_neg (by decide)]
  exact runP_fin hp hn.1 hnl hal (fun i hi=>by simp at hi) (fun i hi=>⟨(isMat_iff.1 hm i hi).2,by have:=(isMat_iff.1 hm i hi).1;simp only[List.length_nil];omega⟩) hj
 | true=>
  rw[if_pos rfl]
  have si:=shS_facts ok
  have sv:StV p ((n.toNat:Nat):Int) (shS p rows).st:=shF_valid hp (by omega) (nzT rows) ⟨rows,[]⟩ (ShI.start ok) (fun i hi=>by simp at hi)
  have hN:((n.toNat:Nat):Int)=n:=by omega
  rw[hN] at sv
  have vv:ShV p rows ns (shS p rows):=shF_val hp (by omega) (by omega) (nzT rows) ⟨rows,[]⟩ (ShI.start ok) ⟨fun i hi=>⟨0,by show dot (rows.getD i []) ns (rows.getD i []).length-dot (rows.getD i []) ns (rows.getD i []).length=p*0;omega⟩⟩
  have rr:∀ i,i<(shS p rows).T.length→allIn p ((shS p rows).T.getD i [])=true∧(((shS p rows).T.getD i []).length:Int)≤n+(shS p rows).st.length:=fun i hi=>by
   obtain⟨g1,g2⟩:=si.gt i hi
   exact⟨allIn_iff.2 fun j hj=>g2 j (by omega),by omega⟩
  have hj':j<(shS p rows).T.length:=by rw[si.len];exact hj
  have e:=runP_fin hp hn.1 hnl hal sv rr hj'
  show (runP (finP ⟨p,n,(shS p rows).st,[]⟩ (shS p rows).T (shS p rows).T.length) ns).getD j 0=_
  rw[e]
  have a:=tmod_nn (J:=p) (dot_nn (show 1≤p by omega) (rr j hj').1 (Vf_in (show 1≤p by omega) sv hal) (k:=((shS p rows).T.getD j []).length)) (by omega)
  have c:=tmod_nn (J:=p) (dot_nn (show 1≤p by omega) (isMat_iff.1 hm j hj).2 hal (k:=(rows.getD j []).length)) (by omega)
  obtain⟨k1,h1⟩:=vv.val j hj
  obtain⟨k2,h2⟩:=tmod_dvd (dot ((shS p rows).T.getD j []) (Vf p (shS p rows).st ns) ((shS p rows).T.getD j []).length) p
  obtain⟨k3,h3⟩:=tmod_dvd (dot (rows.getD j []) ns (rows.getD j []).length) p
  exact dvd_eq ⟨k1-k2+k3,by grind⟩ a c
theorem cg_md (x p:Int):Cg p (x.tmod p) x:=by
 have h:=Int.tmod_add_tdiv_mul x p
 exact⟨-(x.tdiv p),by rw[Int.mul_neg,Int.mul_comm p];omega⟩
theorem val_lin {p:Int} {st:List (List Int)} {ns:List Int} {N:Nat} (hN:ns.length=N) {u:Nat→List Int} (hu:∀ k,(u k).length=N) (hd:∀ k j,k<N→j<N→(u k).getD j 0=dl j k) :
  ∀ i j,Cg p ((valS p st ns i).getD j 0) (sm N fun k=>(valS p st (u k) i).getD j 0*ns.getD k 0)
 | 0,j=>by
  by_cases hj:j<N
  ·refine Cg.of ?_
   have e:sm N (fun k=>(valS p st (u k) 0).getD j 0*ns.getD k 0)=sm N (fun k=>if k=j then ns.getD k 0 else 0):=sm_ext fun k hk=>by
    show (u k).getD j 0*_=_
    rw[hd k j hk hj]
    unfold dl
    by_cases h:j=k
    ·subst h;simp
    ·rw[if_neg h,if_neg (Ne.symm h),Int.zero_mul]
   rw[e,sm_delta (f:=fun k=>ns.getD k 0) hj]
   rfl
  ·refine Cg.of ?_
   rw[sm_zero' fun k hk=>?_]
   ·show ns.getD j 0=0
    rw[List.getD_eq_getElem?_getD,List.getElem?_eq_none (by omega)]
    rfl
   ·show (u k).getD j 0*_=0
    rw[List.getD_eq_getElem?_getD,List.getElem?_eq_none (by rw[hu];omega),Option.getD_none,Int.zero_mul]
 | i+1,j=>by
  have ih:=val_lin (p:=p) (st:=st) hN hu hd i
  have la:(valS p st ns i).length=N+i:=by rw[valS_len,hN]
  have lb:∀ k,(valS p st (u k) i).length=N+i:=fun k=>by rw[valS_len,hu]
  have g:∀ (l:List Int) (x:Int) (n:Nat),l.length=n→(l++[x]).getD j 0=if j<n then l.getD j 0 else if j=n then x else 0:=fun l x n hl=>by
   subst hl
   by_cases h:j<l.length
   ·rw[if_pos h,List.getD_eq_getElem?_getD,List.getElem?_append_left h,←List.getD_eq_getElem?_getD]
   ·rw[if_neg h,List.getD_eq_getElem?_getD,List.getElem?_append_right (by omega)]
    by_cases e:j=l.length
    ·simp[e]
    ·rw[if_neg e,List.getElem?_eq_none (by simp;omega)]
     rfl
  simp only[valS]
  rw[g _ _ _ la]
  have e:sm N (fun k=>(valS p st (u k) i++[((valS p st (u k) i).getD (nq (st.getD i []) 0) 0+(st.getD i []).getD 2 0*(valS p st (u k) i).getD (nq (st.getD i []) 1) 0).tmod p]).getD j 0*ns.getD k 0)
    = sm N (fun k=>(if j<N+i then (valS p st (u k) i).getD j 0 else if j=N+i then ((valS p st (u k) i).getD (nq (st.getD i []) 0) 0+(st.getD i []).getD 2 0*(valS p st (u k) i).getD (nq (st.getD i []) 1) 0).tmod p else 0)*ns.getD k 0):=
   sm_ext fun k hk=>by rw[g _ _ _ (lb k)]
  rw[e]
  by_cases h1:j<N+i
  ·simp only[if_pos h1]
   exact ih j
  ·simp only[if_neg h1]
   by_cases h2:j=N+i
   ·simp only[if_pos h2]
    refine (cg_md _ _).trans (((ih _).add (Cg.rfl'.mul (ih _))).trans ?_)
    rw[←sm_mul,←sm_add]
    refine Cg.sm fun k hk=>?_
    refine (Cg.of ?_).trans (Cg.mul (cg_md _ _).symm Cg.rfl')
    grind
   ·simp only[if_neg h2]
    refine Cg.of ?_
    rw[sm_zero' fun k hk=>Int.zero_mul _]
theorem run_lin {x:Prg} {ns:List Int} {N:Nat} (hN:ns.length=N) {u:Nat→List Int} (hu:∀ k,(u k).length=N) (hd:∀ k j,k<N→j<N→(u k).getD j 0=dl j k) {i:Nat} (hi:i<x.out.length) :
  Cg x.p ((runP x ns).getD i 0) (sm N fun k=>(runP x (u k)).getD i 0*ns.getD k 0):=by
 have o:∀ (vs:List Int) (m:Nat),i<m→(outS x.p x.out vs m).getD i 0=((x.out.getD i []).getD 1 0*vs.getD (nq (x.out.getD i []) 0) 0).tmod x.p:=by
  intro vs m hm
  induction m with
  | zero=>omega
  | succ m ih=>
   simp only[outS]
   by_cases h:i<m
   ·rw[List.getD_eq_getElem?_getD,List.getElem?_append_left (by rw[outS_len];exact h),←List.getD_eq_getElem?_getD,ih h]
   ·have:i=m:=by omega
    subst this
    rw[List.getD_eq_getElem?_getD,List.getElem?_append_right (by rw[outS_len];exact Nat.le_refl _),outS_len,Nat.sub_self]
    rfl
 unfold runP
 rw[o _ _ hi]
 refine (cg_md _ _).trans ((Cg.rfl'.mul (val_lin hN hu hd x.st.length _)).trans ?_)
 rw[←sm_mul]
 refine Cg.sm fun k hk=>?_
 rw[o _ _ hi]
 refine (Cg.of ?_).trans (Cg.mul (cg_md _ _).symm Cg.rfl')
 grind
theorem unN_dl {N k j:Nat} (hk:k<N) (hj:j<N):(unN N k).getD j 0=dl j k:=by
 unfold unN dl
 rw[List.getD_eq_getElem?_getD]
 by_cases h:j=k
 ·subst h
  rw[List.getElem?_set_self (by simp;omega),if_pos rfl]
  rfl
 ·rw[List.getElem?_set_ne (Ne.symm h),if_neg h,List.getElem?_replicate,if_pos hj]
  rfl
def totF (p:Int) (fs ns:List Int):Nat→Int
 | 0=>0
 | k+1=>(totF p fs ns k+fs.getD k 0*ns.getD k 0).tmod p
theorem totF_cg {p:Int} {fs ns:List Int}:∀ k,Cg p (totF p fs ns k) (sm k fun j=>fs.getD j 0*ns.getD j 0)
 | 0=>Cg.rfl'
 | k+1=>(cg_md _ _).trans ((totF_cg k).add Cg.rfl')
theorem cg_eq {p a b:Int} (ha:0≤a∧a<p) (hb:0≤b∧b<p) (h:Cg p a b):a=b:=by
 obtain⟨k,hk⟩:=h
 have:k=0:=by
  by_cases h0:0<k
  ·have:=Int.mul_le_mul_of_nonneg_left (show 1≤k by omega) (show 0≤p by omega)
   omega
  ·by_cases h1:k<0
   ·have:=Int.mul_le_mul_of_nonneg_left (show k ≤ -1 by omega) (show 0≤p by omega)
    omega
   ·omega
 subst this
 omega
theorem totF_run {x:Prg} {ns:List Int} (hN:(ns.length:Int)=x.n) {i:Nat} (hi:i<x.out.length) (hb:∀ k,k≤ns.length→0≤totF x.p ((fmL x).getD i []) ns k∧totF x.p ((fmL x).getD i []) ns k<x.p) (hr:0≤(runP x ns).getD i 0∧(runP x ns).getD i 0<x.p) :
  totF x.p ((fmL x).getD i []) ns ns.length=(runP x ns).getD i 0:=by
 have hn:x.n.toNat=ns.length:=by omega
 refine cg_eq (hb _ (Nat.le_refl _)) hr ((totF_cg _).trans (Cg.symm ?_))
 refine (run_lin (N:=ns.length) rfl (u:=fun k=>unN ns.length k) (fun k=>unN_len) (fun k j hk hj=>unN_dl hk hj) hi).trans (Cg.of (sm_ext fun k hk=>?_))
 rw[fmL_get hi,gen_get (by omega),hn]
 rfl
section
variable (x:Prg)
def nSt (i:Nat) (r:Nat):Nat:=nq (x.st.getD i []) r
def nOut (i:Nat):Nat:=nq (x.out.getD i []) 0
def uO:Nat→List Bool
 | 0=>List.replicate (x.n.toNat+x.st.length) false
 | i+1=>if (x.out.getD i []).getD 1 0=0 then uO i else (uO i).set (nOut x i) true
def uS:Nat→List Bool
 | 0=>uO x x.out.length
 | m+1=>if (uS m).getD (x.n.toNat+(x.st.length-1-m)) false=true then ((uS m).set (nSt x (x.st.length-1-m) 0) true).set (nSt x (x.st.length-1-m) 1) true else uS m
def kp (j:Nat):Bool:=decide (j<x.n.toNat)||(uS x x.st.length).getD j false
end
variable {x:Prg}
theorem pgO_isPrg {p n:Int} {rows:List (List Int)} {b:Bool} (h:lsOK p n rows=true):isPrg (pgO p n rows b)=true:=by
 unfold pgO
 cases b with
 | true=>exact shP_isPrg h
 | false=>exact finP_isPrg h
theorem pgO_n {p n:Int} {rows:List (List Int)} {b:Bool} (h:lsOK p n rows=true):(pgO p n rows b).n=n∧(pgO p n rows b).p=p∧(pgO p n rows b).out.length=rows.length:=by
 obtain⟨hp,hn,hl,hm⟩:=lsOK_iff.1 h
 unfold pgO
 cases b with
 | true=>
  rw[if_pos rfl]
  have si:=shS_facts h
  have f:=finP_facts (x:=⟨p,n,(shS p rows).st,[]⟩) (rows:=(shS p rows).T) (N:=10000) hp (fun i hi=>by
   obtain⟨g1,g2⟩:=si.gt i hi
   have nz:=si.nz
   exact⟨allIn_iff.2 fun j hj=>g2 j (by omega),by omega⟩) hn (i:=(shS p rows).T.length) (Nat.le_refl _)
  have:=si.len
  simp only[List.length_nil] at f
  refine⟨f.2.1,f.1,?_⟩
  show (finP ⟨p,n,(shS p rows).st,[]⟩ (shS p rows).T (shS p rows).T.length).out.length=_
  omega
 | false=>
  rw[if_neg (by decide)]
  have f:=finP_facts (x:=⟨p,n,[],[]⟩) (rows:=rows) (N:=30) hp (fun i hi=>⟨(isMat_iff.1 hm i hi).2,by have:=(isMat_iff.1 hm i hi).1;omega⟩) hn (i:=rows.length) (Nat.le_refl _)
  simp only[List.length_nil] at f
  exact⟨f.2.1,f.1,by omega⟩
section
variable {x:Prg}
end
end Go.Proofs.Ytapafdpnmakekaa.X

set_option linter.unusedVariables false
set_option linter.unusedSimpArgs false
set_option maxRecDepth 20000
set_option maxHeartbeats 4000000
namespace Go.Proofs.Ytapafdpnmakekaa.X
open Go Go.RowKit
open Nat (reduceEqDiff reduceAdd reduceSub reduceLeDiff)
theorem WayX.blk_e {e:TypeId} {k:IntKind} {w lo kb:Nat} {h:AH} {ex:List Nat} {sv:Value} {L:List (List Int)} (o:WayX e k w h lo ex sv L) (hb:blkOf sv=some kb):∃ b,h.get kb=some b∧b.e=e:=by
 obtain⟨hw,⟨rfl,_⟩|⟨kb',full,rfl,h2,h3,h4⟩⟩:=o
 ·cases hb
 ·cases hb
  exact⟨_,h4,rfl⟩
theorem WayX.ne {e:TypeId} {k:IntKind} {w lo kb m:Nat} {h:AH} {ex:List Nat} {sv:Value} {L:List (List Int)} {b:Blk} (o:WayX e k w h lo ex sv L) (hk:kb=h.length∨blkOf sv=some kb) (g:h.get m=some b) (hb:b.e≠e):m≠kb:=by
 rintro rfl
 rcases hk with rfl|hk
 ·exact absurd (get_lt g) (Nat.lt_irrefl _)
 ·obtain⟨b',g',e'⟩:=o.blk_e hk
  rw[g] at g'
  cases g'
  exact hb e'
theorem WayX.kpk {e e':TypeId} {k k':IntKind} {w w' lo lo' kb:Nat} {h h':AH} {ex:List Nat} {sv so:Value} {L L':List (List Int)} (o':WayX e' k' w' h lo' [] so L') (d:Kp kb h h') (o:WayX e k w h lo ex sv L) (hk:kb=h.length∨blkOf sv=some kb) (he:e'≠e):WayX e' k' w' h' lo' [] so L':=
 o'.keep fun m c f _ _ g=>d.get (o.ne hk g he) g
theorem WayX.kpn {e:TypeId} {k:IntKind} {w lo n:Nat} {h h':AH} {ex:List Nat} {sv:Value} {L:List (List Int)} (o:WayX e k w h lo ex sv L) (d:Kp n h h') (hn:n<lo):WayX e k w h' lo ex sv L:=
 o.keep fun m c f _ hl g=>d.get (by omega) g
theorem WayX.copy {e:TypeId} {k:IntKind} {w lo bytes:Nat} {sv:Value} {L:List (List Int)} {H:AH} (o:WayX e k w H lo [] sv L) (hw0:0<w) (hl:(L.length:Int)*bytes≤140737488355328) (hn:(L.length:Int)<1048576)
  {Q:Value→AH→Prop} (hQ:∀ (sv':Value) (H':AH),H<+:H'→WayX e k w H' H.length [] sv' L→Q sv' H') :
  OQ (appV e w bytes (.slice (some ⟨H.length,0,none⟩) 0 w) sv (H.new ⟨[],e,false,true⟩)) Q:=by
 have p1:H<+:H.new ⟨[],e,false,true⟩:=pre_new (List.prefix_refl _)
 have hk:(H.new ⟨[],e,false,true⟩).get H.length=some ⟨[],e,false,true⟩:=get_new_same
 by_cases h0:L=[]
 ·subst h0
  have e1:appV e w bytes (.slice (some ⟨H.length,0,none⟩) 0 w) sv (H.new ⟨[],e,false,true⟩)=some (.slice (some ⟨H.length,0,none⟩) 0 w,H.new ⟨[],e,false,true⟩):=by
   obtain⟨hw,⟨rfl,_⟩|⟨kb,fu,rfl,h2,h3,h4⟩⟩:=o
   ·simp[appV,xop,ev]
   ·have:=pre_get p1 h4
    simp[appV,xop,ev,AH.rdn,this]
  rw[e1,OQ_some]
  exact hQ _ _ p1 ⟨fun q hq=>by simp at hq,.inr ⟨H.length,true,rfl,Nat.le_refl _,by simp,hk⟩⟩
 ·have hl0:0<L.length:=List.length_pos_iff.2 h0
  obtain⟨hw,⟨rfl,h⟩|⟨kb,fu,rfl,h2,h3,h4⟩⟩:=o
  ·exact absurd h h0
  ·have g:=pre_get p1 h4
   have fl:=flat_len hw
   have hr:(H.new ⟨[],e,false,true⟩).rdn kb 0 (L.length*w)=some (cel k L.flatten):=by
    rw[rdn_of g]
    simp only
    rw[if_pos (by rw[cel_len,fl];omega),List.drop_zero,List.take_of_length_le (by rw[cel_len,fl];exact Nat.le_refl _)]
   rw[app_zeroW hk hr hl0 (by omega),OQ_some]
   refine hQ _ _ (pre_new (pre_kill p1 (Nat.le_refl _))) ⟨hw,.inr ⟨H.length+1,false,?_,by omega,by simp,?_⟩⟩
   ·rw[len_new]
   ·rw[get_new_eq (by rw[len_kill,len_new])]
structure PrgB (x:Prg):Prop where
 p:0≤x.p∧x.p≤1000
 n:-1000≤x.n∧x.n≤1000
 st:x.st.length≤10000
 out:x.out.length≤10000
theorem s_l07Program {h0 h:AH} {n:Nat} {Q:Value→AH→Prop} (s:Src h0 h n)
  (hQ:∀ (x:Prg) (v w:Value) (h':AH),Kp n h h'→Src h0 h' n→ProgD h.length h' v w x→PrgB x→Q (prgV x v w) h'):WF S 209 [srcP n] h Q:=by
 refine WF_fn (fn:=c209) rfl rfl ?_
 dsimp only[c209,oO,oM,oS,oG,oK,oE,oL,oF,oX,oN]
 have lt:=s.lt
 have l0:=pre_len s.p
 ((try simp (maxSteps:=3000000) (dsimp:=false) (disch:=first|omega|simp only[lnx];omega) only[↓ypre,ypost,↓reduceIte,reduceEqDiff,reduceAdd,reduceSub,reduceLeDiff,zz0,ynew]);try simp only[yback])
 generalize hH1:AH.new h _=H1
 obtain⟨hb1,p1,n1⟩:=new_facts hH1
 refine s_l07Draw (s.kp p1) fun p m rows v H2 hp hm k2 s2 md=>?_
 have g1:=k2.get (by omega) hb1
 have lg1:=get_lt g1
 have sm:SmallM rows:=smallM_of2 (A:=10) (B:=100) md.len md.row (by omega)
 refine WO_cut (fun f:Fr=>f 0=srcP n∧f 2=.pointer (some ⟨h.length,0,none⟩)∧f 12=.tuple #[I64 p,I64 m,v]∧True) ⟨(by first|rfl|simp[upd_apply]),(by first|rfl|simp[upd_apply]),(by first|rfl|simp[upd_apply]),trivial⟩ ?_
 rintro f ⟨f0,f2,f12,-⟩
 ((try simp (maxSteps:=3000000) (dsimp:=false) (disch:=first|omega|simp only[lnx];omega) only[↓ypre,ypost,↓reduceIte,reduceEqDiff,reduceAdd,reduceSub,reduceLeDiff,zz0,ynew,f0,f2,f12]);try simp only[yback])
 refine s_l07Lists md.kn.now sm ?_
 by_cases hls:¬ lsC p m rows=0
 ·((try simp (maxSteps:=3000000) (dsimp:=false) (disch:=first|omega|simp only[lnx];omega) only[↓ypre,ypost,↓reduceIte,reduceEqDiff,reduceAdd,reduceSub,reduceLeDiff,zz0,ynew,f0,f2,f12,decide_eq_true hls,wr_of g1,splice_eq,rdn_put_same]);try simp only[yback])
  exact hQ ⟨p,m,[],[]⟩ (.slice none 0 0) (.slice none 0 0) _ (((Kp.of p1).trans k2).putb (Nat.le_refl _)) (s2.putb (by omega) (by omega)) ProgD.none ⟨⟨hp.1,by show p≤1000;omega⟩,⟨by show -1000≤m;omega,by show m≤1000;omega⟩,by simp,by simp⟩
 have hls:=Decidable.not_not.1 hls
 ((try simp (maxSteps:=3000000) (dsimp:=false) (disch:=first|omega|simp only[lnx];omega) only[↓ypre,ypost,↓reduceIte,reduceEqDiff,reduceAdd,reduceSub,reduceLeDiff,zz0,ynew,f0,f2,f12,decide_eq_false (show ¬ lsC p m rows≠0 from fun h=>h hls)]);try simp only[yback])
 refine s_l01Next s2 fun r H3 k3 l3 s3 _ _=>?_
 have g1:=k3.get (by omega) g1
 have md:=md.kp k3 (by omega)
 ((try simp (maxSteps:=3000000) (dsimp:=false) (disch:=first|omega|simp only[lnx];omega) only[↓ypre,ypost,↓reduceIte,reduceEqDiff,reduceAdd,reduceSub,reduceLeDiff,zz0,ynew,f0,f2,f12]);try simp only[yback])
 have hok:lsOK p m rows=true:=by
  unfold lsC at hls
  split at hls
  ·assumption
  ·omega
 refine s_l07Of (b:=decide (r=0)) md.kn.now hok fun v2 w2 H4 p4 wy od=>?_
 have g1:=pre_get p4 g1
 have s4:=s3.kp p4
 have kk4:Kp n h H4:=(((Kp.of p1).trans k2).trans k3).trans (Kp.of p4)
 have os:=wy.st.one
 have oo:=wy.out.one
 generalize hX:pgO p m rows (decide (r=0))=X at *
 ((try simp (maxSteps:=3000000) (dsimp:=false) (disch:=first|omega|simp only[lnx];omega) only[↓ypre,ypost,↓reduceIte,reduceEqDiff,reduceAdd,reduceSub,reduceLeDiff,zz0,ynew,f0,f2,f12,prgV,os,oo]);try simp only[yback])
 generalize hH5:AH.new H4 _=H5
 obtain⟨g6,p5,n5⟩:=new_facts hH5
 have l34:=p4.length_le
 have k2l:=k2.len
 have k3l:=k3.len
 refine s_l01Next (s4.kp p5) fun N H6 k6 l6 s6 hN _=>?_
 have hN:=hN (by omega)
 obtain⟨N,rfl⟩:∃ N':Nat,N=N':=⟨N.toNat,by omega⟩
 have n6:=s6.lt
 have g1:=k6.get (by omega) (pre_get p5 g1)
 have g6:=k6.get (by omega) g6
 have st0:=((wy.st.pre p5).kpn k6 (by omega)).mlo (lo':=h.length) (by omega)
 have ou0:=((wy.out.pre p5).kpn k6 (by omega)).mlo (lo':=h.length) (by omega)
 have kk6:=(kk4.trans (Kp.of p5)).trans k6
 have hXs:X.st.length≤900∧X.out.length≤30∧1≤X.n∧X.n≤30∧X.n=m∧X.p=p∧2≤p∧p≤5:=by
  have f:=isPrg_facts (pgO_isPrg (b:=decide (r=0)) hok)
  obtain⟨e1,e2,e3⟩:=pgO_n (b:=decide (r=0)) hok
  rw[hX] at f e1 e2 e3
  have a1:=f.p
  have a2:=f.n
  have a3:=f.st
  have a4:=f.out
  omega
 refine WO_cut (fun f:Fr=>f 0=srcP n∧f 2=.pointer (some ⟨h.length,0,none⟩)∧f 3=I64 p∧f 6=.pointer (some ⟨H4.length,0,none⟩)∧f 32=I64 N∧True) ⟨(by first|rfl|exact f0|simp[upd_apply,f0]),(by first|rfl|exact f2|simp[upd_apply,f2]),(by first|rfl|simp[upd_apply]),(by first|rfl|simp[upd_apply]),(by first|rfl|simp[upd_apply]),trivial⟩ ?_
 rintro f ⟨f0,f2,f3,f6,f32,-⟩
 ((try simp (maxSteps:=3000000) (dsimp:=false) (disch:=first|omega|simp only[lnx];omega) only[↓ypre,ypost,↓reduceIte,reduceEqDiff,reduceAdd,reduceSub,reduceLeDiff,zz0,ynew,f0,f2,f3,f6,f32]);try simp only[yback])
 refine WC_loop_inv (fun m f K1=>∃ (i:Nat) (L:List (List Int)) (O:List (List Int)) (sv:Value) (so:Value),m=N-i∧i≤N∧f 0=srcP n∧f 2=.pointer (some ⟨h.length,0,none⟩)∧f 3=I64 p∧f 6=.pointer (some ⟨H4.length,0,none⟩)∧f 7=I64 ((N-i:Nat):Int)∧(Kp n h K1)∧(Src h0 K1 n)∧(K1.get h.length=some ⟨[I64 0,I64 0,.slice none 0 0,.slice none 0 0],70,false,true⟩)∧(K1.get H4.length=some ⟨[I64 X.p,I64 X.n,sv,so],70,false,true⟩)∧(WayX (181) .i64 3 K1 h.length [] sv L)∧(WayX (183) .i64 2 K1 h.length [] so O)∧(L.length≤900+i)∧(O.length≤30+i)) ?_ (N-0) _ _ ⟨0,X.st,X.out,v2,w2,rfl,by omega,(by first|rfl|exact f0|(simp[upd_apply];done)),(by first|rfl|exact f2|(simp[upd_apply];done)),(by first|rfl|exact f3|(simp[upd_apply];done)),(by first|rfl|exact f6|(simp[upd_apply];done)),(by first|rfl|simp[upd_apply]),kk6,s6,g1,g6,st0,ou0,(by omega),(by omega)⟩
 rintro m f K1 ⟨i,L,O,sv,so,rfl,hi,f0,f2,f3,f6,f7,kk,ss,g1,g6,ws,wo,lS,lO⟩
 have kl:=kk.len
 have ns:=ss.lt
 have g6l:=get_lt g6
 by_cases hlt:(0:Int)<((N-i:Nat):Int)
 ·((try simp (maxSteps:=3000000) (dsimp:=false) (disch:=first|omega|simp only[lnx];omega) only[↓ypre,ypost,↓reduceIte,reduceEqDiff,reduceAdd,reduceSub,reduceLeDiff,zz0,ynew,f0,f2,f3,f6,f7,decide_eq_true hlt,rd1_of g6,ws.len,wrap64_in]);try simp only[yback])
  refine s_l01Next ss fun r1 H7 k7 l7 s7 hr1 _=>?_
  refine WO_cut (fun f:Fr=>f 0=srcP n∧f 2=.pointer (some ⟨h.length,0,none⟩)∧f 3=I64 p∧f 6=.pointer (some ⟨H4.length,0,none⟩)∧f 7=I64 ((N-i:Nat):Int)∧f 8=I64 (X.n+L.length)∧f 45=I64 r1∧True) ⟨(by first|rfl|exact f0|simp[upd_apply,f0]),(by first|rfl|exact f2|simp[upd_apply,f2]),(by first|rfl|exact f3|simp[upd_apply,f3]),(by first|rfl|exact f6|simp[upd_apply,f6]),(by first|rfl|exact f7|simp[upd_apply,f7]),(by first|rfl|simp[upd_apply]),(by first|rfl|simp[upd_apply]),trivial⟩ ?_
  rintro f ⟨f0,f2,f3,f6,f7,f8,f45,-⟩
  ((try simp (maxSteps:=3000000) (dsimp:=false) (disch:=first|omega|simp only[lnx];omega) only[↓ypre,ypost,↓reduceIte,reduceEqDiff,reduceAdd,reduceSub,reduceLeDiff,zz0,ynew,f0,f2,f3,f6,f7,f8,f45]);try simp only[yback])
  refine s_l01Next s7 fun r2 H8 k8 l8 s8 hr2 _=>?_
  refine WO_cut (fun f:Fr=>f 0=srcP n∧f 2=.pointer (some ⟨h.length,0,none⟩)∧f 3=I64 p∧f 6=.pointer (some ⟨H4.length,0,none⟩)∧f 7=I64 ((N-i:Nat):Int)∧f 8=I64 (X.n+L.length)∧f 45=I64 r1∧f 48=I64 r2∧True) ⟨(by first|rfl|exact f0|simp[upd_apply,f0]),(by first|rfl|exact f2|simp[upd_apply,f2]),(by first|rfl|exact f3|simp[upd_apply,f3]),(by first|rfl|exact f6|simp[upd_apply,f6]),(by first|rfl|exact f7|simp[upd_apply,f7]),(by first|rfl|exact f8|simp[upd_apply,f8]),(by first|rfl|exact f45|simp[upd_apply,f45]),(by first|rfl|simp[upd_apply]),trivial⟩ ?_
  rintro f ⟨f0,f2,f3,f6,f7,f8,f45,f48,-⟩
  ((try simp (maxSteps:=3000000) (dsimp:=false) (disch:=first|omega|simp only[lnx];omega) only[↓ypre,ypost,↓reduceIte,reduceEqDiff,reduceAdd,reduceSub,reduceLeDiff,zz0,ynew,f0,f2,f3,f6,f7,f8,f45,f48,wrap64_in]);try simp only[yback])
  refine s_l01Next s8 fun r3 H9 k9 l9 s9 hr3 _=>?_
  have hr3:=hr3 (by omega)
  refine WO_cut (fun f:Fr=>f 0=srcP n∧f 2=.pointer (some ⟨h.length,0,none⟩)∧f 3=I64 p∧f 6=.pointer (some ⟨H4.length,0,none⟩)∧f 7=I64 ((N-i:Nat):Int)∧f 8=I64 (X.n+L.length)∧f 45=I64 r1∧f 48=I64 r2∧f 52=I64 r3∧True) ⟨(by first|rfl|exact f0|simp[upd_apply,f0]),(by first|rfl|exact f2|simp[upd_apply,f2]),(by first|rfl|exact f3|simp[upd_apply,f3]),(by first|rfl|exact f6|simp[upd_apply,f6]),(by first|rfl|exact f7|simp[upd_apply,f7]),(by first|rfl|exact f8|simp[upd_apply,f8]),(by first|rfl|exact f45|simp[upd_apply,f45]),(by first|rfl|exact f48|simp[upd_apply,f48]),(by first|rfl|simp[upd_apply]),trivial⟩ ?_
  rintro f ⟨f0,f2,f3,f6,f7,f8,f45,f48,f52,-⟩
  have k789:=(k7.trans k8).trans k9
  have g1:=k789.get (by omega) g1
  have g6:=k789.get (by omega) g6
  have ws:=ws.kpn k789 (by omega)
  have wo:=wo.kpn k789 (by omega)
  have kk9:=kk.trans k789
  ((try simp (maxSteps:=3000000) (dsimp:=false) (disch:=first|omega|simp only[lnx];omega) only[↓ypre,ypost,↓reduceIte,reduceEqDiff,reduceAdd,reduceSub,reduceLeDiff,zz0,ynew,f0,f2,f3,f6,f7,f8,f45,f48,f52,wrap64_in]);try simp only[yback])
  generalize hHA:AH.new H9 _=HA
  obtain⟨gA,pA,nA⟩:=new_facts hHA
  have sA:=s9.kp pA
  have g1:=pre_get pA g1
  have g6:=pre_get pA g6
  have ws:=ws.pre pA
  have wo:=wo.pre pA
  have kkA:=kk9.trans (Kp.of pA)
  have nn:=s9.lt
  have g6l:=get_lt g6
  have kkl:=kkA.len
  by_cases hne:r1=r2
  ·((try simp (maxSteps:=3000000) (dsimp:=false) (disch:=first|omega|simp only[lnx];omega) only[↓ypre,ypost,↓reduceIte,reduceEqDiff,reduceAdd,reduceSub,reduceLeDiff,zz0,ynew,f0,f2,f3,f6,f7,f8,f45,f48,f52,decide_eq_false (show ¬ r1≠r2 from fun h=>h hne),wrap64_in]);try simp only[yback])
   refine InvQ_go (N-(i+1)) (by omega) ⟨(i+1),L,O,sv,so,rfl,by omega,(by first|rfl|exact f0|(simp only[upd_apply];rfl)|(show I64 _=_;congr 1;omega)),(by first|rfl|exact f2|(simp only[upd_apply];rfl)|(show I64 _=_;congr 1;omega)),(by first|rfl|exact f3|(simp only[upd_apply];rfl)|(show I64 _=_;congr 1;omega)),(by first|rfl|exact f6|(simp only[upd_apply];rfl)|(show I64 _=_;congr 1;omega)),(by first|rfl|exact f7|(simp only[upd_apply];rfl)|(show I64 _=_;congr 1;omega)),kkA,sA,g1,g6,ws,wo,(by omega),(by omega)⟩
  ((try simp (maxSteps:=3000000) (dsimp:=false) (disch:=first|omega|simp only[lnx];omega) only[↓ypre,ypost,↓reduceIte,reduceEqDiff,reduceAdd,reduceSub,reduceLeDiff,zz0,ynew,f0,f2,f3,f6,f7,f8,f45,f48,f52,decide_eq_true (show r1≠r2 from hne),rd1_of g6,rdn_of gA,fillL,zrep]);try simp only[yback])
  refine ws.app_kp (q:=[r1,r2,1+r3]) rfl (by omega) (by omega) (by omega) fun sv2 HB kb lB lkb hkb kB wsB=>?_
  have woB:=wo.kpk kB ws hkb (by decide)
  have n61:=ws.ne hkb g1 (by simp)
  have n66:=ws.ne hkb g6 (by simp)
  have g1:=kB.get n61 g1
  have g6:=kB.get n66 g6
  have sB:=sA.over kB (by omega) (by have:=pre_len s.p;omega)
  have kkB:=kkA.over kB (by omega)
  have wsB:=wsB.mlo (lo':=h.length) (by omega)
  ((try simp (maxSteps:=3000000) (dsimp:=false) (disch:=first|omega|simp only[lnx];omega) only[↓ypre,ypost,↓reduceIte,reduceEqDiff,reduceAdd,reduceSub,reduceLeDiff,zz0,ynew,f0,f2,f3,f6,f7,f8,f45,f48,f52,wsB.one,wsB.cells,wr_of g6,splice_eq]);try simp only[yback])
  generalize hHC:AH.put HB _ _=HC
  obtain⟨qC,lC,oC,uC⟩:=put_facts hHC
  have g6l:=get_lt g6
  have gC6:=oC g6l
  have ne16:h.length≠H4.length:=by omega
  have gC1:=qC h.length _ ne16 g1
  have sC:=sB.put hHC (by omega) (by have:=pre_len s.p;omega)
  have kkC:=uC n h kkB (by omega)
  have wsC:WayX (181) .i64 3 HC h.length [] sv2 (L++[[r1,r2,1+r3]]):=hHC▸wsB.put_ty g6 (by simp)
  have woC:WayX (183) .i64 2 HC h.length [] so O:=hHC▸woB.put_ty g6 (by simp)
  have lL2:(L++[[r1,r2,1+r3]]).length=L.length+1:=by simp
  refine s_l01Next sC fun r4 HD kD lD sD _ _=>?_
  have gD1:=kD.get (by omega) gC1
  have gD6:=kD.get (by omega) gC6
  have wsD:=wsC.kpn kD (by omega)
  have woD:=woC.kpn kD (by omega)
  have kkD:=kkC.trans kD
  refine WO_cut (fun f:Fr=>f 0=srcP n∧f 2=.pointer (some ⟨h.length,0,none⟩)∧f 3=I64 p∧f 6=.pointer (some ⟨H4.length,0,none⟩)∧f 7=I64 ((N-i:Nat):Int)∧f 8=I64 (X.n+L.length)∧f 67=I64 r4∧True) ⟨(by first|rfl|exact f0|simp[upd_apply,f0]),(by first|rfl|exact f2|simp[upd_apply,f2]),(by first|rfl|exact f3|simp[upd_apply,f3]),(by first|rfl|exact f6|simp[upd_apply,f6]),(by first|rfl|exact f7|simp[upd_apply,f7]),(by first|rfl|exact f8|simp[upd_apply,f8]),(by first|rfl|simp[upd_apply]),trivial⟩ ?_
  rintro f ⟨f0,f2,f3,f6,f7,f8,f67,-⟩
  by_cases hr4:¬ r4=0
  ·((try simp (maxSteps:=3000000) (dsimp:=false) (disch:=first|omega|simp only[lnx];omega) only[↓ypre,ypost,↓reduceIte,reduceEqDiff,reduceAdd,reduceSub,reduceLeDiff,zz0,ynew,f0,f2,f3,f6,f7,f8,f67,decide_eq_false hr4,wrap64_in]);try simp only[yback])
   refine InvQ_go (N-(i+1)) (by omega) ⟨(i+1),(L++[[r1,r2,1+r3]]),O,sv2,so,rfl,by omega,(by first|rfl|exact f0|(simp only[upd_apply];rfl)|(show I64 _=_;congr 1;omega)),(by first|rfl|exact f2|(simp only[upd_apply];rfl)|(show I64 _=_;congr 1;omega)),(by first|rfl|exact f3|(simp only[upd_apply];rfl)|(show I64 _=_;congr 1;omega)),(by first|rfl|exact f6|(simp only[upd_apply];rfl)|(show I64 _=_;congr 1;omega)),(by first|rfl|exact f7|(simp only[upd_apply];rfl)|(show I64 _=_;congr 1;omega)),kkD,sD,gD1,gD6,wsD,woD,(by omega),(by omega)⟩
  have hr4:=Decidable.not_not.1 hr4
  have g6l:=get_lt gD6
  ((try simp (maxSteps:=3000000) (dsimp:=false) (disch:=first|omega|simp only[lnx];omega) only[↓ypre,ypost,↓reduceIte,reduceEqDiff,reduceAdd,reduceSub,reduceLeDiff,zz0,ynew,f0,f2,f3,f6,f7,f8,f67,decide_eq_true hr4,rd1_of gD6,fillL,zrep]);try simp only[yback])
  refine woD.copy (by omega) (by omega) (by omega) fun so2 HE pE woE=>?_
  have gE1:=pre_get pE gD1
  have gE6:=pre_get pE gD6
  have wsE:=wsD.pre pE
  have sE:=sD.kp pE
  have kkE:=kkD.trans (Kp.of pE)
  have kkEl:=kkE.len
  ((try simp (maxSteps:=3000000) (dsimp:=false) (disch:=first|omega|simp only[lnx];omega) only[↓ypre,ypost,↓reduceIte,reduceEqDiff,reduceAdd,reduceSub,reduceLeDiff,zz0,ynew,f0,f2,f3,f6,f7,f8,f67,fillL,zrep]);try simp only[yback])
  refine woE.app_kp (q:=[X.n+L.length,1]) rfl (by omega) (by omega) (pre_len pE) fun so3 HF kc lF lkc hkc kF woF=>?_
  have wsF:=wsE.kpk kF woE hkc (by decide)
  have n1:=woE.ne hkc gE1 (by simp)
  have n6':=woE.ne hkc gE6 (by simp)
  have gF1:=kF.get n1 gE1
  have gF6:=kF.get n6' gE6
  have kkDl:=kkD.len
  have sF:=sE.over kF (by omega) (by have:=pre_len s.p;omega)
  have kkF:=kkE.over kF (by omega)
  have woF:=woF.mlo (lo':=h.length) (by omega)
  have g6l:=get_lt gF6
  ((try simp (maxSteps:=3000000) (dsimp:=false) (disch:=first|omega|simp only[lnx];omega) only[↓ypre,ypost,↓reduceIte,reduceEqDiff,reduceAdd,reduceSub,reduceLeDiff,zz0,ynew,f0,f2,f3,f6,f7,f8,f67,woF.one,woF.cells,wr_of gF6,splice_eq,wrap64_in]);try simp only[yback])
  generalize hHG:AH.put HF _ _=HG
  obtain⟨qG,lG,oG,uG⟩:=put_facts hHG
  have gG6:=oG g6l
  have gG1:=qG h.length _ ne16 gF1
  have sG:=sF.put hHG (by omega) (by have:=pre_len s.p;omega)
  have kkG:=uG n h kkF (by omega)
  have wsG:WayX (181) .i64 3 HG h.length [] sv2 (L++[[r1,r2,1+r3]]):=hHG▸wsF.put_ty gF6 (by simp)
  have woG:WayX (183) .i64 2 HG h.length [] so3 (O++[[X.n+L.length,1]]):=hHG▸woF.put_ty gF6 (by simp)
  refine InvQ_go (N-(i+1)) (by omega) ⟨(i+1),(L++[[r1,r2,1+r3]]),(O++[[X.n+L.length,1]]),sv2,so3,rfl,by omega,(by first|rfl|exact f0|(simp only[upd_apply];rfl)|(show I64 _=_;congr 1;omega)),(by first|rfl|exact f2|(simp only[upd_apply];rfl)|(show I64 _=_;congr 1;omega)),(by first|rfl|exact f3|(simp only[upd_apply];rfl)|(show I64 _=_;congr 1;omega)),(by first|rfl|exact f6|(simp only[upd_apply];rfl)|(show I64 _=_;congr 1;omega)),(by first|rfl|exact f7|(simp only[upd_apply];rfl)|(show I64 _=_;congr 1;omega)),kkG,sG,gG1,gG6,wsG,woG,(by omega),(by rw[List.length_append];simp;omega)⟩
 ((try simp (maxSteps:=3000000) (dsimp:=false) (disch:=first|omega|simp only[lnx];omega) only[↓ypre,ypost,↓reduceIte,reduceEqDiff,reduceAdd,reduceSub,reduceLeDiff,zz0,ynew,f0,f2,f3,f6,f7,decide_eq_false hlt]);try simp only[yback])
 refine s_l01Next ss fun r5 H7 k7 l7 s7 _ _=>?_
 have g1:=k7.get (by omega) g1
 have g6:=k7.get (by omega) g6
 have ws:=ws.kpn k7 (by omega)
 have wo:=wo.kpn k7 (by omega)
 have kk:=kk.trans k7
 have kl:=kk.len
 have n7:=s7.lt
 have ne16:h.length≠H4.length:=by omega
 have fin:∀ (n':Int) (L' O':List (List Int)) (sv' so':Value) (b b':Blk) (H' HZ:AH),Kp n h H'→Src h0 H' n→H'.get h.length=some b'→b'.e=70→H'.put h.length b=HZ →
   WayX (181) .i64 3 H' h.length [] sv' L'→WayX (183) .i64 2 H' h.length [] so' O' → -1000≤n'∧n'≤1000→L'.length≤10000→O'.length≤10000→Q (prgV ⟨X.p,n',L',O'⟩ sv' so') HZ:=by
  intro n' L' O' sv' so' b b' H' HZ kk ss g gb hZ ws wo hn hL hO
  subst hZ
  refine hQ ⟨X.p,n',L',O'⟩ sv' so' _ (kk.putb (Nat.le_refl _)) (ss.putb (by omega) (by omega)) (fun h' l g'=>⟨(ws.put_ty g (by rw[gb];decide)).kN h' l g',(wo.put_ty g (by rw[gb];decide)).kN h' l g'⟩) ⟨?_,hn,hL,hO⟩
  show 0≤X.p∧X.p≤1000
  omega
 have fin2:∀ (n':Int) (L' O':List (List Int)) (sv' so':Value) (b b' c c':Blk) (H' HZ:AH),(H'.put h.length b).put H4.length c=HZ→Kp n h H'→Src h0 H' n→H'.get h.length=some b'→b'.e=70→H'.get H4.length=some c'→c'.e=70 →
   WayX (181) .i64 3 H' h.length [] sv' L'→WayX (183) .i64 2 H' h.length [] so' O' → -1000≤n'∧n'≤1000→L'.length≤10000→O'.length≤10000→Q (prgV ⟨X.p,n',L',O'⟩ sv' so') HZ:=by
  intro n' L' O' sv' so' b b' c c' H' HZ hZ kk ss g gb g' gc ws wo hn hL hO
  subst hZ
  have g2:(H'.put h.length b).get H4.length=some c':=by rw[get_put_ne ne16];exact g'
  refine hQ ⟨X.p,n',L',O'⟩ sv' so' _ ((kk.putb (Nat.le_refl _)).putb (by omega)) ((ss.putb (by omega) (by omega)).putb (by omega) (by omega)) (fun h' l g'=>⟨((ws.put_ty g (by rw[gb];decide)).put_ty g2 (by rw[gc];decide)).kN h' l g',((wo.put_ty g (by rw[gb];decide)).put_ty g2 (by rw[gc];decide)).kN h' l g'⟩) ⟨?_,hn,hL,hO⟩
  show 0≤X.p∧X.p≤1000
  omega
 refine WO_cut (fun f:Fr=>f 0=srcP n∧f 2=.pointer (some ⟨h.length,0,none⟩)∧f 3=I64 p∧f 6=.pointer (some ⟨H4.length,0,none⟩)∧f 79=I64 r5∧True) ⟨(by first|rfl|exact f0|simp[upd_apply,f0]),(by first|rfl|exact f2|simp[upd_apply,f2]),(by first|rfl|exact f3|simp[upd_apply,f3]),(by first|rfl|exact f6|simp[upd_apply,f6]),(by first|rfl|simp[upd_apply]),trivial⟩ ?_
 rintro f ⟨f0,f2,f3,f6,f79,-⟩
 have oS:=ws.one
 have oO:=wo.one
 have g6l:=get_lt g6
 by_cases c0:r5=0
 ·((try simp (maxSteps:=3000000) (dsimp:=false) (disch:=first|omega|simp only[lnx];omega) only[↓ypre,ypost,↓reduceIte,reduceEqDiff,reduceAdd,reduceSub,reduceLeDiff,zz0,ynew,f0,f2,f3,f6,f79,decide_eq_true c0,rd1_of g6,wrap64_in,fillL,zrep]);try simp only[yback])
  generalize hH8:AH.new H7 _=H8
  obtain⟨g8,p8,n8⟩:=new_facts hH8
  have kv:=kp_new (n:=n) (ns:=[0,31,X.n-1]) hH8 (by omega)
  refine s_l01Pick (s7.kp p8) kv (by simp) (by simp) fun j H9 k9 l9 s9 hj=>?_
  have by2:=pick_in (l:=[0,31,X.n-1]) (a:=0) (b:=31) (by simp;omega) hj
  generalize ([0,31,X.n-1]:List Int).getD j 0=y at by2
  have g1:=k9.get (by omega) (pre_get p8 g1)
  have g6:=k9.get (by omega) (pre_get p8 g6)
  have ws:=(ws.pre p8).kpn k9 (by omega)
  have wo:=(wo.pre p8).kpn k9 (by omega)
  have kk:=(kk.trans (Kp.of p8)).trans k9
  have g6l:=get_lt g6
  refine WO_cut (fun f:Fr=>f 0=srcP n∧f 2=.pointer (some ⟨h.length,0,none⟩)∧f 6=.pointer (some ⟨H4.length,0,none⟩)∧f 87=I64 y∧True) ⟨(by first|rfl|exact f0|simp[upd_apply,f0]),(by first|rfl|exact f2|simp[upd_apply,f2]),(by first|rfl|exact f6|simp[upd_apply,f6]),(by first|rfl|simp[upd_apply]),trivial⟩ ?_
  rintro f ⟨f0,f2,f6,f87,-⟩
  ((try simp (maxSteps:=3000000) (dsimp:=false) (disch:=first|omega|simp only[lnx];omega) only[↓ypre,ypost,↓reduceIte,reduceEqDiff,reduceAdd,reduceSub,reduceLeDiff,zz0,ynew,f0,f2,f6,f87,wr_of g6,wr_of g1,splice_eq,oS,oO]);try simp only[yback])
  generalize hHZ:AH.put _ _ _=HZ
  exact fin2 y L O sv so _ _ _ _ H9 HZ hHZ kk s9 g1 rfl g6 rfl ws wo (by omega) (by omega) (by omega)
 by_cases c1:r5=1
 ·((try simp (maxSteps:=3000000) (dsimp:=false) (disch:=first|omega|simp only[lnx];omega) only[↓ypre,ypost,↓reduceIte,reduceEqDiff,reduceAdd,reduceSub,reduceLeDiff,zz0,ynew,f0,f2,f3,f6,f79,decide_eq_false c0,decide_eq_true c1,fillL,zrep]);try simp only[yback])
  generalize hH8:AH.new H7 _=H8
  obtain⟨g8,p8,n8⟩:=new_facts hH8
  generalize hH8b:AH.new H8 _=H8b
  obtain⟨g8b,p8b,n8b⟩:=new_facts hH8b
  have kv:=kp_new (n:=n) (ns:=[-1,1,999]) hH8b (by omega)
  refine s_l01Pick (s7.kp (p8.trans p8b)) kv (by simp) (by simp) fun j H9 k9 l9 s9 hj=>?_
  generalize ([-1,1,999]:List Int).getD j 0=y
  have g1:=k9.get (by omega) (pre_get (p8.trans p8b) g1)
  have g6:=k9.get (by omega) (pre_get (p8.trans p8b) g6)
  have g8:=k9.get (by omega) (pre_get p8b g8)
  have ws:=(ws.pre (p8.trans p8b)).kpn k9 (by omega)
  have kk:=(kk.trans (Kp.of (p8.trans p8b))).trans k9
  refine WO_cut (fun f:Fr=>f 0=srcP n∧f 2=.pointer (some ⟨h.length,0,none⟩)∧f 6=.pointer (some ⟨H4.length,0,none⟩)∧f 91=.slice (some ⟨H7.length,0,none⟩) 0 2∧f 94=I64 y∧True) ⟨(by first|rfl|exact f0|simp[upd_apply,f0]),(by first|rfl|exact f2|simp[upd_apply,f2]),(by first|rfl|exact f6|simp[upd_apply,f6]),(by first|rfl|simp[upd_apply]),(by first|rfl|simp[upd_apply]),trivial⟩ ?_
  rintro f ⟨f0,f2,f6,f91,f94,-⟩
  ((try simp (maxSteps:=3000000) (dsimp:=false) (disch:=first|omega|simp only[lnx];omega) only[↓ypre,ypost,↓reduceIte,reduceEqDiff,reduceAdd,reduceSub,reduceLeDiff,zz0,ynew,f0,f2,f6,f91,f94,fillL,zrep]);try simp only[yback])
  generalize hHA:AH.new H9 _=HA
  obtain⟨gA,pA,nA⟩:=new_facts hHA
  have kv:=kp_new (n:=n) (ns:=[0,1]) hHA (by have:=s9.lt;omega)
  refine s_l01Pick (s9.kp pA) kv (by simp) (by simp) fun j2 HB kB lB sB hj2=>?_
  generalize ([0,1]:List Int).getD j2 0=z
  have g1:=kB.get (by omega) (pre_get pA g1)
  have g6:=kB.get (by omega) (pre_get pA g6)
  have g8:=kB.get (by omega) (pre_get pA g8)
  have ws:=(ws.pre pA).kpn kB (by omega)
  have kk:=(kk.trans (Kp.of pA)).trans kB
  have kkl:=kk.len
  have w0:WayX (183) .i64 2 HB h.length [] (.slice (some ⟨H7.length,0,none⟩) 0 2) []:=⟨fun q hq=>by simp at hq,.inr ⟨H7.length,true,rfl,by omega,by simp,g8⟩⟩
  refine WO_cut (fun f:Fr=>f 0=srcP n∧f 2=.pointer (some ⟨h.length,0,none⟩)∧f 6=.pointer (some ⟨H4.length,0,none⟩)∧f 91=.slice (some ⟨H7.length,0,none⟩) 0 2∧f 94=I64 y∧f 97=I64 z∧True) ⟨(by first|rfl|exact f0|simp[upd_apply,f0]),(by first|rfl|exact f2|simp[upd_apply,f2]),(by first|rfl|exact f6|simp[upd_apply,f6]),(by first|rfl|exact f91|simp[upd_apply,f91]),(by first|rfl|exact f94|simp[upd_apply,f94]),(by first|rfl|simp[upd_apply]),trivial⟩ ?_
  rintro f ⟨f0,f2,f6,f91,f94,f97,-⟩
  ((try simp (maxSteps:=3000000) (dsimp:=false) (disch:=first|omega|simp only[lnx];omega) only[↓ypre,ypost,↓reduceIte,reduceEqDiff,reduceAdd,reduceSub,reduceLeDiff,zz0,ynew,f0,f2,f6,f91,f94,f97,fillL,zrep]);try simp only[yback])
  refine w0.app_kp (q:=[y,z]) rfl (by simp) (by simp) (by omega) fun so2 HC kc lC lkc hkc kC woC=>?_
  have wsC:=ws.kpk kC w0 hkc (by decide)
  have n1:=w0.ne hkc g1 (by simp)
  have n6:=w0.ne hkc g6 (by simp)
  have g1:=kC.get n1 g1
  have g6:=kC.get n6 g6
  have sC:=sB.over kC (by omega) (by omega)
  have kkC:=kk.over kC (by omega)
  have woC:=woC.mlo (lo':=h.length) (by omega)
  have g6l:=get_lt g6
  have oC:=woC.one
  ((try simp (maxSteps:=3000000) (dsimp:=false) (disch:=first|omega|simp only[lnx];omega) only[↓ypre,ypost,↓reduceIte,reduceEqDiff,reduceAdd,reduceSub,reduceLeDiff,zz0,ynew,f0,f2,f6,f91,f94,f97,oC,woC.cells,wr_of g6,wr_of g1,splice_eq,oS]);try simp only[yback])
  generalize hHZ:AH.put _ _ _=HZ
  exact fin2 X.n L [[y,z]] sv so2 _ _ _ _ HC HZ hHZ kkC sC g1 rfl g6 rfl wsC woC (by omega) (by omega) (by simp)
 by_cases c2:¬ r5=2
 ·((try simp (maxSteps:=3000000) (dsimp:=false) (disch:=first|omega|simp only[lnx];omega) only[↓ypre,ypost,↓reduceIte,reduceEqDiff,reduceAdd,reduceSub,reduceLeDiff,zz0,ynew,f0,f2,f3,f6,f79,decide_eq_false c0,decide_eq_false c1,decide_eq_false c2,rdn_of g6,oS,oO,wr_of g1,splice_eq,rdn_put_same]);try simp only[yback])
  generalize hHZ:AH.put H7 _ _=HZ
  exact fin X.n L O sv so _ _ H7 HZ kk s7 g1 rfl hHZ ws wo (by omega) (by omega) (by omega)
 have c2:=Decidable.not_not.1 c2
 ((try simp (maxSteps:=3000000) (dsimp:=false) (disch:=first|omega|simp only[lnx];omega) only[↓ypre,ypost,↓reduceIte,reduceEqDiff,reduceAdd,reduceSub,reduceLeDiff,zz0,ynew,f0,f2,f3,f6,f79,decide_eq_false c0,decide_eq_false c1,decide_eq_true c2,rd1_of g6,fillL,zrep]);try simp only[yback])
 refine ws.copy (by omega) (by omega) (by omega) fun sv2 H8 p8 w8=>?_
 have g1:=pre_get p8 g1
 have g6:=pre_get p8 g6
 have wo:=wo.pre p8
 have kk:=kk.trans (Kp.of p8)
 have w8:=w8.mlo (lo':=h.length) (by omega)
 have s8:=s7.kp p8
 have l8:=p8.length_le
 ((try simp (maxSteps:=3000000) (dsimp:=false) (disch:=first|omega|simp only[lnx];omega) only[↓ypre,ypost,↓reduceIte,reduceEqDiff,reduceAdd,reduceSub,reduceLeDiff,zz0,ynew,f0,f2,f3,f6,f79,fillL,zrep]);try simp only[yback])
 generalize hH8b:AH.new H8 _=H8b
 obtain⟨g8b,p8b,n8b⟩:=new_facts hH8b
 have kv:=kp_new (n:=n) (ns:=[0,1,999]) hH8b (by omega)
 refine s_l01Pick (s8.kp p8b) kv (by simp) (by simp) fun j H9 k9 l9 s9 hj=>?_
 generalize ([0,1,999]:List Int).getD j 0=y
 have g1:=k9.get (by omega) (pre_get p8b g1)
 have g6:=k9.get (by omega) (pre_get p8b g6)
 have w8:=(w8.pre p8b).kpn k9 (by omega)
 have wo:=(wo.pre p8b).kpn k9 (by omega)
 have kk:=(kk.trans (Kp.of p8b)).trans k9
 refine WO_cut (fun f:Fr=>f 0=srcP n∧f 2=.pointer (some ⟨h.length,0,none⟩)∧f 3=I64 p∧f 6=.pointer (some ⟨H4.length,0,none⟩)∧f 107=sv2∧f 110=I64 y∧True) ⟨(by first|rfl|exact f0|simp[upd_apply,f0]),(by first|rfl|exact f2|simp[upd_apply,f2]),(by first|rfl|exact f3|simp[upd_apply,f3]),(by first|rfl|exact f6|simp[upd_apply,f6]),(by first|rfl|simp[upd_apply]),(by first|rfl|simp[upd_apply]),trivial⟩ ?_
 rintro f ⟨f0,f2,f3,f6,f107,f110,-⟩
 ((try simp (maxSteps:=3000000) (dsimp:=false) (disch:=first|omega|simp only[lnx];omega) only[↓ypre,ypost,↓reduceIte,reduceEqDiff,reduceAdd,reduceSub,reduceLeDiff,zz0,ynew,f0,f2,f3,f6,f107,f110,fillL,zrep]);try simp only[yback])
 generalize hHA:AH.new H9 _=HA
 obtain⟨gA,pA,nA⟩:=new_facts hHA
 have kv:=kp_new (n:=n) (ns:=[0,1,p]) hHA (by have:=s9.lt;omega)
 refine s_l01Pick (s9.kp pA) kv (by simp) (by simp) fun j2 HB kB lB sB hj2=>?_
 generalize ([0,1,p]:List Int).getD j2 0=z
 have g1:=kB.get (by omega) (pre_get pA g1)
 have g6:=kB.get (by omega) (pre_get pA g6)
 have w8:=(w8.pre pA).kpn kB (by omega)
 have wo:=(wo.pre pA).kpn kB (by omega)
 have kk:=(kk.trans (Kp.of pA)).trans kB
 have kkl:=kk.len
 refine WO_cut (fun f:Fr=>f 0=srcP n∧f 2=.pointer (some ⟨h.length,0,none⟩)∧f 6=.pointer (some ⟨H4.length,0,none⟩)∧f 107=sv2∧f 110=I64 y∧f 114=I64 z∧True) ⟨(by first|rfl|exact f0|simp[upd_apply,f0]),(by first|rfl|exact f2|simp[upd_apply,f2]),(by first|rfl|exact f6|simp[upd_apply,f6]),(by first|rfl|exact f107|simp[upd_apply,f107]),(by first|rfl|exact f110|simp[upd_apply,f110]),(by first|rfl|simp[upd_apply]),trivial⟩ ?_
 rintro f ⟨f0,f2,f6,f107,f110,f114,-⟩
 ((try simp (maxSteps:=3000000) (dsimp:=false) (disch:=first|omega|simp only[lnx];omega) only[↓ypre,ypost,↓reduceIte,reduceEqDiff,reduceAdd,reduceSub,reduceLeDiff,zz0,ynew,f0,f2,f6,f107,f110,f114,fillL,zrep]);try simp only[yback])
 refine w8.app_kp (q:=[0,y,z]) rfl (by omega) (by omega) (by omega) fun sv3 HC kc lC lkc hkc kC wsC=>?_
 have woC:=wo.kpk kC w8 hkc (by decide)
 have n1:=w8.ne hkc g1 (by simp)
 have n6:=w8.ne hkc g6 (by simp)
 have g1:=kC.get n1 g1
 have g6:=kC.get n6 g6
 have sC:=sB.over kC (by omega) (by omega)
 have kkC:=kk.over kC (by omega)
 have wsC:=wsC.mlo (lo':=h.length) (by omega)
 have g6l:=get_lt g6
 have oC:=wsC.one
 ((try simp (maxSteps:=3000000) (dsimp:=false) (disch:=first|omega|simp only[lnx];omega) only[↓ypre,ypost,↓reduceIte,reduceEqDiff,reduceAdd,reduceSub,reduceLeDiff,zz0,ynew,f0,f2,f6,f107,f110,f114,oC,wsC.cells,wr_of g6,wr_of g1,splice_eq,oO]);try simp only[yback])
 generalize hHZ:AH.put _ _ _=HZ
 exact fin2 X.n (L++[[0,y,z]]) O sv3 so _ _ _ _ HC HZ hHZ kkC sC g1 rfl g6 rfl wsC woC (by omega) (by rw[List.length_append];simp;omega) (by omega)
theorem l_likeInts {v w:Value} {ns ms:List Int} {h:AH} {Q:Value→AH→Prop} (hv:Ints h v ns) (hv':Ints h w ms) (hl:(ns.length:Int)≤1048576)
  (hQ:Q (.bool (decide (ns=ms))) h):WF S 20 [v,w] h Q:=by
 refine WF_fn (fn:=c20) rfl rfl ?_
 dsimp only[c20,oO,oM,oS,oG,oK,oE,oL,oF,oX,oN]
 by_cases hne:(ns.length:Int)≠ms.length
 ·((try simp (maxSteps:=3000000) (dsimp:=false) (disch:=first|omega|simp only[lnx];omega) only[↓ypre,ypost,↓reduceIte,reduceEqDiff,reduceAdd,reduceSub,reduceLeDiff,zz0,ynew,hv.len,hv'.len,decide_eq_true hne]);try simp only[yback])
  have:ns≠ms:=fun e=>hne (by rw[e])
  simpa [this] using hQ
 ·((try simp (maxSteps:=3000000) (dsimp:=false) (disch:=first|omega|simp only[lnx];omega) only[↓ypre,ypost,↓reduceIte,reduceEqDiff,reduceAdd,reduceSub,reduceLeDiff,zz0,ynew,hv.len,hv'.len,decide_eq_false hne]);try simp only[yback])
  have hlen:ns.length=ms.length:=by omega
  refine WC_loop_inv (fun m f K1=>∃ (i:Nat),m=ns.length-i∧i≤ns.length∧f 0=v∧f 1=w∧f 5=I64 i∧(K1=h)∧(∀ j,j<i→ns.getD j 0=ms.getD j 0)) ?_ (ns.length-0) _ _ ⟨0,rfl,by omega,(by first|rfl|simp[upd_apply]),(by first|rfl|simp[upd_apply]),(by first|rfl|simp[upd_apply]),rfl,(by omega)⟩
  rintro m f K1 ⟨i,rfl,hi,f0,f1,f5,hK,hj⟩
  subst hK
  by_cases hlt:(i:Int)<ns.length
  ·obtain⟨n1,off1,hix1,hrd1⟩:=hv.cell (j:=i) (by omega)
   obtain⟨n2,off2,hix2,hrd2⟩:=hv'.cell (j:=i) (by omega)
   by_cases he:ns.getD i 0≠ms.getD i 0
   ·((try simp (maxSteps:=3000000) (dsimp:=false) (disch:=first|omega|simp only[lnx];omega) only[↓ypre,ypost,↓reduceIte,reduceEqDiff,reduceAdd,reduceSub,reduceLeDiff,zz0,ynew,f0,f1,f5,hv.len,decide_eq_true hlt,hix1,hrd1,hix2,hrd2,decide_eq_true he]);try simp only[yback])
    have:ns≠ms:=fun e=>he (by rw[e])
    simpa [this] using hQ
   ·((try simp (maxSteps:=3000000) (dsimp:=false) (disch:=first|omega|simp only[lnx];omega) only[↓ypre,ypost,↓reduceIte,reduceEqDiff,reduceAdd,reduceSub,reduceLeDiff,zz0,ynew,f0,f1,f5,hv.len,decide_eq_true hlt,hix1,hrd1,hix2,hrd2,decide_eq_false he,wrap64_in]);try simp only[yback])
    have hj':∀ j,j<i+1→ns.getD j 0=ms.getD j 0:=fun j q=>by
     rcases Nat.lt_succ_iff_lt_or_eq.1 q with q|rfl
     ·exact hj j q
     ·exact Decidable.not_not.1 he
    refine InvQ_go (ns.length-(i+1)) (by omega) ⟨(i+1),rfl,by omega,(by first|rfl|exact f0|(simp only[upd_apply];rfl)|(show I64 _=_;congr 1;omega)),(by first|rfl|exact f1|(simp only[upd_apply];rfl)|(show I64 _=_;congr 1;omega)),(by first|rfl|exact f5|(simp only[upd_apply];rfl)|(show I64 _=_;congr 1;omega)),rfl,hj'⟩
  ·((try simp (maxSteps:=3000000) (dsimp:=false) (disch:=first|omega|simp only[lnx];omega) only[↓ypre,ypost,↓reduceIte,reduceEqDiff,reduceAdd,reduceSub,reduceLeDiff,zz0,ynew,f0,f1,f5,hv.len,decide_eq_false hlt]);try simp only[yback])
   have:ns=ms:=by
    refine List.ext_getElem? fun j=>?_
    by_cases h1:j<ns.length
    ·have:=hj j (by omega)
     rw[List.getElem?_eq_getElem h1,List.getElem?_eq_getElem (by omega)]
     simpa [List.getD_eq_getElem?_getD,List.getElem?_eq_getElem h1,List.getElem?_eq_getElem (show j<ms.length by omega)] using this
    ·rw[List.getElem?_eq_none (by omega),List.getElem?_eq_none (by omega)]
   simpa [this] using hQ
theorem l_big {h:AH} {cv:Value} {code:List (List Int)} {Q:Value→AH→Prop} (c:Els .u8 1 h cv code)
  (hQ:Q (.bool (decide ((code.length:Int)>4096))) h):WF S 13 [cv] h Q:=by
 refine WF_fn (fn:=c13) rfl rfl ?_
 dsimp only[c13,oO,oM,oS,oG,oK,oE,oL,oF,oX,oN]
 ((try simp (maxSteps:=3000000) (dsimp:=false) (disch:=first|omega|simp only[lnx];omega) only[↓ypre,ypost,↓reduceIte,reduceEqDiff,reduceAdd,reduceSub,reduceLeDiff,zz0,ynew,c.len]);try simp only[yback])
 exact hQ
end Go.Proofs.Ytapafdpnmakekaa.X
