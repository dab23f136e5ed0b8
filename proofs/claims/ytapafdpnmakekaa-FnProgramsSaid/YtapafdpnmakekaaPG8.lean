/- Texts of one claim, put together by merge.py: XP3, XS3, XF10, XF33, XS4, XD1, XD2, XS5, XT1, XP8, XP4, XP6, XP12. -/
import Derived.Test.YtapafdpnmakekaaPG7
set_option linter.unusedVariables false
set_option linter.unusedSimpArgs false
set_option maxRecDepth 20000
set_option maxHeartbeats 4000000
namespace Go.Proofs.Ytapafdpnmakekaa.X
open Go Go.RowKit
open Nat (reduceEqDiff reduceAdd reduceSub reduceLeDiff)
theorem map_get {l:List Int} {j:Nat} (hj:j<l.length):(l.map (Value.int .i64))[j]?=some (I64 (l.getD j 0)):=by
 simp[List.getD_eq_getElem?_getD,hj]
theorem map_set {l:List Int} {j:Nat} {x:Int} (hj:j<l.length):splice (l.map (Value.int .i64)) j [I64 x]=(l.set j x).map (Value.int .i64):=by
 rw[splice_set (by simpa using hj)]
 simp[List.map_set]
def Lst (h:AH) (n:Nat) (l:List Int) (full:Bool):Prop:=h.get n=some ⟨l.map (Value.int .i64),2,false,full⟩
def sl (n len:Nat):Value:=.slice (some ⟨n,0,none⟩) len 1
section
variable {h h':AH} {n:Nat} {l:List Int} {full:Bool}
theorem Lst.pre (o:Lst h n l full) (p:h<+:h'):Lst h' n l full:=pre_get p o
theorem Lst.lt (o:Lst h n l full):n<h.length:=get_lt o
theorem Lst.own (o:Lst h n l full):OwnB h n (l.map (Value.int .i64)) full:=⟨_,o⟩
theorem Lst.put_ne {m:Nat} {b:Blk} (o:Lst h n l full) (e:m≠n):Lst (h.put m b) n l full:=by
 unfold Lst
 rw[get_put_ne e]
 exact o
theorem Lst.ix {j:Int} {len:Nat} (h0:0≤j∧j<len):ixsV 1 (sl n len) (I64 j)=some (.pointer (some ⟨n,j.toNat,none⟩)):=by
 unfold sl
 rw[ixsV_some,if_pos ⟨h0.1,h0.2,rfl⟩]
 simp
theorem Lst.rd {j:Nat} (o:Lst h n l full) (hj:j<l.length):h.rd1 n j=some (I64 (l.getD j 0)):=by
 rw[rd1_of o]
 exact map_get hj
theorem Lst.wr {j:Nat} {x:Int} (o:Lst h n l full) (hj:j<l.length):∃ h',h.wr n j [I64 x]=some h'∧h'=h.put n ⟨(l.set j x).map (Value.int .i64),2,false,full⟩∧Lst h' n (l.set j x) full:=by
 refine⟨_,?_,rfl,get_put_same o.lt⟩
 rw[wr_of o,if_pos ⟨rfl,by simp only[List.length_map,List.length_singleton];omega⟩,map_set hj]
theorem Lst.ints (o:Lst h n l full):Ints h (sl n l.length) l:=Ints.own o rfl
theorem Lst.ownR {h0:AH} (o:Lst h n l full) (hn:h0.length≤n):OwnR h0 h (sl n l.length) l:=OwnR.of hn rfl o
theorem Lst.app {H:AH} {x:Int} {e':TypeId} {ro fu:Bool} (o:Lst H n l full) (hl:(l.length:Int)≤1048576) {Q:Value→AH→Prop}
  (hQ:∀ H',H'.length=H.length+2→(∀ h0:AH,h0.length≤n→h0<+:H→h0<+:H')→(∀ m c f,m≠n→OwnB H m c f→OwnB H' m c f)→(∀ m c f,m≠n→Lst H m c f→Lst H' m c f)→Lst H' (H.length+1) (l++[x]) false→Q (sl (H.length+1) (l++[x]).length) H') :
  OQ (appV 2 1 8 (sl n l.length) (.slice (some ⟨H.length,0,none⟩) 1 1) (H.new ⟨[I64 x],e',ro,fu⟩)) Q:=by
 have hn:(H.new ⟨[I64 x],e',ro,fu⟩).rdn H.length 0 1=some [I64 x]:=by rw[rdn_new_same];rfl
 have hk:(H.new ⟨[I64 x],e',ro,fu⟩).get n=some ⟨l.map (Value.int .i64),2,false,full⟩:=get_new_any o
 have hkb:=o.lt
 unfold sl
 rw[app_own hk (by simp) hn (by omega),OQ_some]
 have:=hQ (((H.new ⟨[I64 x],e',ro,fu⟩).kill n).new ⟨l.map (Value.int .i64)++[I64 x],2,false,false⟩) (by rw[len_new,len_kill,len_new]) (fun h0 q p=>pre_new (pre_kill (pre_new p) q))
  (fun m c f hm o=>(o.new.kill_ne (fun e=>hm e.symm)).new) (fun m c f hm o=>get_new_any (by rw[get_kill_ne (fun e=>hm e.symm)];exact get_new_any o)) (by unfold Lst;rw[get_new_eq (by rw[len_kill,len_new])];simp)
 unfold sl at this
 rw[len_new]
 rw[List.length_append,List.length_singleton] at this
 exact this
end
theorem s_OwnT {v:Value} {ns:List Int} {h:AH} {Q:Value→AH→Prop} (hv:Ints h v ns) (h0:0<ns.length) (hl:(ns.length:Int)≤1048576)
  (hQ:∀ n h',h.length≤n→h<+:h'→Lst h' n ns false→Q (sl n ns.length) h'):WF S 264 [v] h Q:=by
 refine WF_fn (fn:=c264) rfl rfl ?_
 dsimp only[c264,oO,oM,oS,oG,oK,oE,oL,oF,oX,oN]
 obtain⟨n,off,rfl,hr⟩:=hv.vals.rdn (by simpa using h0)
 try simp (maxSteps:=3000000) (disch:=first|omega|simp only[lnx];omega) only[↓xpre,xpost,↓reduceIte,reduceEqDiff,reduceAdd,reduceSub,reduceLeDiff,zz0,fillL,zrep]
 rw[List.length_map] at hr ⊢
 rw[app_zero get_new_same (show AH.rdn (AH.new h _) n off ns.length=_ by rw[rdn_eq] at hr ⊢;obtain⟨b,hb,hc⟩:=Option.bind_eq_some_iff.1 hr;rw[get_new_any hb];exact hc) h0 (by omega)]
 try simp (maxSteps:=3000000) (disch:=first|omega|simp only[lnx];omega) only[↓xpre,xpost,↓reduceIte,reduceEqDiff,reduceAdd,reduceSub,reduceLeDiff,zz0]
 exact hQ _ _ (by rw[len_new];omega) (pre_new (pre_kill (pre_new (List.prefix_refl _)) (Nat.le_refl _))) (get_new_eq (by rw[len_kill]))
theorem i_CloneT {v:Value} {ns:List Int} {h:AH} {Q:Value→AH→Prop} (hv:Ints h v ns) (h0:0<ns.length) (hl:(ns.length:Int)≤1048576)
  (hQ:∀ n h',h.length≤n→h<+:h'→Lst h' n ns false→Q (sl n ns.length) h'):WF S 285 [v] h Q:=by
 refine WF_fn (fn:=c285) rfl rfl ?_
 dsimp only[c285,oO,oM,oS,oG,oK,oE,oL,oF,oX,oN]
 obtain⟨n,off,rfl,hr⟩:=hv.vals.rdn (by simpa using h0)
 try simp (maxSteps:=3000000) (disch:=first|omega|simp only[lnx];omega) only[↓xpre,xpost,↓reduceIte,reduceEqDiff,reduceAdd,reduceSub,reduceLeDiff,zz0,↓WX_isnil,isnilV_some,fillL,zrep]
 rw[List.length_map] at hr ⊢
 rw[app_zero get_new_same (show AH.rdn (AH.new h _) n off ns.length=_ by rw[rdn_eq] at hr ⊢;obtain⟨b,hb,hc⟩:=Option.bind_eq_some_iff.1 hr;rw[get_new_any hb];exact hc) h0 (by omega)]
 try simp (maxSteps:=3000000) (disch:=first|omega|simp only[lnx];omega) only[↓xpre,xpost,↓reduceIte,reduceEqDiff,reduceAdd,reduceSub,reduceLeDiff,zz0]
 exact hQ _ _ (by rw[len_new];omega) (pre_new (pre_kill (pre_new (List.prefix_refl _)) (Nat.le_refl _))) (get_new_eq (by rw[len_kill]))
def nq (q:List Int) (i:Nat):Nat:=(q.getD i 0).toNat
def valS (p:Int) (st:List (List Int)) (ns:List Int):Nat→List Int
 | 0=>ns
 | i+1=>valS p st ns i++[((valS p st ns i).getD (nq (st.getD i []) 0) 0+(st.getD i []).getD 2 0*(valS p st ns i).getD (nq (st.getD i []) 1) 0).tmod p]
theorem valS_len {p:Int} {st:List (List Int)} {ns:List Int}:∀ {i:Nat},(valS p st ns i).length=ns.length+i
 | 0=>rfl
 | i+1=>by simp[valS,valS_len (i:=i)];omega
def outS (p:Int) (out:List (List Int)) (vs:List Int):Nat→List Int
 | 0=>[]
 | i+1=>outS p out vs i++[((out.getD i []).getD 1 0*vs.getD (nq (out.getD i []) 0) 0).tmod p]
theorem outS_len {p:Int} {out:List (List Int)} {vs:List Int}:∀ {i:Nat},(outS p out vs i).length=i
 | 0=>rfl
 | i+1=>by simp[outS,outS_len (i:=i)]
def runP (x:Prg) (ns:List Int):List Int:=outS x.p x.out (valS x.p x.st ns x.st.length) x.out.length
theorem runP_len {x:Prg} {ns:List Int}:(runP x ns).length=x.out.length:=outS_len
theorem allIn_app {p:Int} {l:List Int} {x:Int} (h:allIn p l=true) (hx:0≤x∧x<p):allIn p (l++[x])=true:=by
 unfold allIn at h ⊢
 rw[List.all_append,h]
 simp[hx]
structure PrgF (x:Prg):Prop where
 p:2≤x.p∧x.p≤5
 n:1≤x.n∧x.n≤30
 st:x.st.length≤900
 out:1≤x.out.length∧x.out.length≤30
 step:∀ i,i<x.st.length→okStep x.p (x.n+(i:Nat)) (x.st.getD i [])=true
 outs:∀ i,i<x.out.length→okOut x.p (x.n+x.st.length) (x.out.getD i [])=true
theorem isPrg_facts {x:Prg} (h:isPrg x=true):PrgF x:=by
 unfold isPrg headP at h
 simp only[Bool.and_eq_true,decide_eq_true_eq] at h
 obtain⟨⟨⟨h1,h2,h3,h4,h5,h6⟩,h7⟩,h8⟩:=h
 exact⟨isP_in h1,⟨h2,h3⟩,h4,⟨h5,h6⟩,fun i hi=>allN_at (f:=fun i:Nat=>okStep x.p (x.n+i) (x.st.getD i [])) h7 hi,fun i hi=>allN_at (f:=fun i:Nat=>okOut x.p (x.n+x.st.length) (x.out.getD i [])) h8 hi⟩
theorem PrgF.st3 {x:Prg} (f:PrgF x) {i:Nat} {a b d:Int} (hi:i<x.st.length) (hq:x.st.getD i []=[a,b,d]):0≤a∧a<x.n+i∧0≤b∧b<x.n+i∧a≠b∧1≤d∧d<x.p:=by
 have:=f.step i hi
 rw[hq,okStep_3,decide_eq_true_eq] at this
 exact this
theorem PrgF.out2 {x:Prg} (f:PrgF x) {i:Nat} {a b:Int} (hi:i<x.out.length) (hq:x.out.getD i []=[a,b]):0≤a∧a<x.n+x.st.length∧0≤b∧b<x.p∧¬ (b=0∧a≠0):=by
 have:=f.outs i hi
 rw[hq,okOut_2,decide_eq_true_eq] at this
 exact this
theorem valS_in {x:Prg} {h:AH} {v w:Value} (f:PrgF x) (hv:PrgR h v w x) {ns:List Int} (hn:allIn x.p ns=true) (hl:(ns.length:Int)=x.n):∀ {i:Nat},i≤x.st.length→allIn x.p (valS x.p x.st ns i)=true
 | 0,_=>hn
 | i+1,hi=>by
  have ih:=valS_in f hv hn hl (i:=i) (by omega)
  obtain⟨a,b,d,hq⟩:=all3 (hv.1.wid (show i<x.st.length by omega))
  have s3:=f.st3 (by omega) hq
  have fp:=f.p
  refine allIn_app ih ?_
  rw[hq]
  have hA:=allIn_iff.1 ih a.toNat (by rw[valS_len];omega)
  have hB:=allIn_iff.1 ih b.toNat (by rw[valS_len];omega)
  have m:=mul_in (A:=4) (B:=4) (a:=d) (b:=(valS x.p x.st ns i).getD b.toNat 0) (by omega) (by omega)
  exact tmod_nn (by show 0≤(valS x.p x.st ns i).getD a.toNat 0+d*(valS x.p x.st ns i).getD b.toNat 0;omega) (by omega)
theorem s_run {v w u:Value} {x:Prg} {ns:List Int} {h:AH} {Q:Value→AH→Prop} (hv:PrgR h v w x) (pf:PrgF x) (hu:Ints h u ns) (hn:allIn x.p ns=true) (hl:(ns.length:Int)=x.n)
  (hQ:∀ n full h',h.length≤n→h<+:h'→Lst h' n (runP x ns) full→Q (sl n (runP x ns).length) h'):WF S 260 [prgV x v w,u] h Q:=by
 refine WF_fn (fn:=c260) rfl rfl ?_
 dsimp only[c260,oO,oM,oS,oG,oK,oE,oL,oF,oX,oN]
 have fp:=pf.p
 have fn:=pf.n
 have fst:=pf.st
 have fout:=pf.out
 ((try simp (maxSteps:=3000000) (dsimp:=false) (disch:=first|omega|simp only[lnx];omega) only[↓ypre,ypost,↓reduceIte,reduceEqDiff,reduceAdd,reduceSub,reduceLeDiff,zz0,ynew,prgV,hv.1.one,hv.2.one]);try simp only[yback])
 generalize hH1:AH.new h _=H1
 obtain⟨hb1,p1,n1⟩:=new_facts hH1
 refine s_OwnT (hu.pre p1) (by omega) (by omega) fun kv H2 hkv p2 lv=>?_
 have hb2:=pre_get p2 hb1
 have ltv:=lv.lt
 ((try simp (maxSteps:=3000000) (dsimp:=false) (disch:=first|omega|simp only[lnx];omega) only[↓ypre,ypost,↓reduceIte,reduceEqDiff,reduceAdd,reduceSub,reduceLeDiff,zz0,ynew,rd1_of hb2,hv.1.len]);try simp only[yback])
 generalize hH3:AH.new H2 _=H3
 obtain⟨hb3,p3,n3⟩:=new_facts hH3
 have lo:Lst H3 H2.length [] true:=hb3
 refine WC_loop_inv (fun m f K1=>∃ (i:Nat) (kv:Nat) (fu:Bool),m=x.st.length-i∧i≤x.st.length∧f 2=.pointer (some ⟨h.length,0,none⟩)∧f 5=sl kv (valS x.p x.st ns i).length∧f 6=sl H2.length 0∧f 7=I64 i∧(H1<+:K1)∧(Lst K1 kv (valS x.p x.st ns i) fu)∧(Lst K1 H2.length [] true)∧(H1.length≤kv∧kv≠H2.length)) ?_ (x.st.length-0) _ _ ⟨0,kv,false,rfl,by omega,(by first|rfl|simp[upd_apply]),(by first|rfl|simp[upd_apply]),(by first|rfl|simp[upd_apply]),(by first|rfl|simp[upd_apply]),p2.trans p3,lv.pre p3,lo,⟨hkv,by omega⟩⟩
 rintro m f K1 ⟨i,kv,fu,rfl,hi,f2,f5,f6,f7,pp,lv,lo,hk⟩
 have hbK:=pre_get pp hb1
 have ltK:=get_lt hbK
 have hvK:=hv.pre (p1.trans pp)
 have ltv:=lv.lt
 have vl:=valS_len (p:=x.p) (st:=x.st) (ns:=ns) (i:=i)
 by_cases hlt:(i:Int)<x.st.length
 ·have hi':i<x.st.length:=by omega
  obtain⟨n,off,hix,hrn⟩:=hvK.1.rdw hi'
  obtain⟨a,b,d,hq⟩:=all3 (hvK.1.wid hi')
  rw[hq,cel_3] at hrn
  have s3:=pf.st3 hi' hq
  have va:=valS_in pf hv hn hl (i:=i) (by omega)
  have hA:=allIn_iff.1 va a.toNat (by omega)
  have hB:=allIn_iff.1 va b.toNat (by omega)
  have m:=mul_in (A:=4) (B:=4) (a:=d) (b:=(valS x.p x.st ns i).getD b.toNat 0) (by omega) (by omega)
  have ixa:=Lst.ix (n:=kv) (j:=a) (len:=(valS x.p x.st ns i).length) (by omega)
  have ixb:=Lst.ix (n:=kv) (j:=b) (len:=(valS x.p x.st ns i).length) (by omega)
  have rda:=lv.rd (j:=a.toNat) (by omega)
  have rdb:=lv.rd (j:=b.toNat) (by omega)
  have ev:valS x.p x.st ns (i+1)=valS x.p x.st ns i++[((valS x.p x.st ns i).getD a.toNat 0+d*(valS x.p x.st ns i).getD b.toNat 0).tmod x.p]:=by
   rw[valS,hq]
   rfl
  ((try simp (maxSteps:=3000000) (dsimp:=false) (disch:=first|omega|simp only[lnx];omega) only[↓ypre,ypost,↓reduceIte,reduceEqDiff,reduceAdd,reduceSub,reduceLeDiff,zz0,ynew,f2,f5,f6,f7,rd1_of hbK,hvK.1.len,decide_eq_true hlt,hix,hrn,ixa,ixb,rda,rdb,wrap64_in,bin_rem]);try simp only[yback])
  generalize hH4:AH.new K1 _=H4
  obtain⟨hb4,p4,n4⟩:=new_facts hH4
  refine (lv.pre p4).app (by omega) fun H5 l5 pre5 own5 lst5 lv5=>?_
  ((try simp (maxSteps:=3000000) (dsimp:=false) (disch:=first|omega|simp only[lnx];omega) only[↓ypre,ypost,↓reduceIte,reduceEqDiff,reduceAdd,reduceSub,reduceLeDiff,zz0,ynew,f2,f5,f6,f7,wrap64_in]);try simp only[yback])
  rw[←ev] at lv5
  refine InvQ_go (x.st.length-(i+1)) (by omega) ⟨(i+1),(H4.length+1),false,rfl,by omega,(by first|rfl|exact f2|(simp only[upd_apply];rfl)|(show I64 _=_;congr 1;omega)),(by show sl _ _=_;rw[ev]),(by first|rfl|exact f6|(simp only[upd_apply];rfl)|(show I64 _=_;congr 1;omega)),(by first|rfl|exact f7|(simp only[upd_apply];rfl)|(show I64 _=_;congr 1;omega)),(pre5 _ hk.1 (pp.trans p4)),lv5,(lst5 _ _ _ (fun e=>hk.2 e.symm) (lo.pre p4)),⟨by have:=pre_len pp;omega,by have:=lo.lt;omega⟩⟩
 have ei:i=x.st.length:=by omega
 subst ei
 ((try simp (maxSteps:=3000000) (dsimp:=false) (disch:=first|omega|simp only[lnx];omega) only[↓ypre,ypost,↓reduceIte,reduceEqDiff,reduceAdd,reduceSub,reduceLeDiff,zz0,ynew,f2,f5,f6,f7,rd1_of hbK,hvK.1.len,hvK.2.len,decide_eq_false hlt]);try simp only[yback])
 have va:=valS_in pf hv hn hl (i:=x.st.length) (Nat.le_refl _)
 unfold runP at hQ
 generalize valS x.p x.st ns x.st.length=vs at *
 have lo':Lst K1 H2.length (outS x.p x.out vs 0) true:=lo
 refine WC_loop_inv (fun m f K2=>∃ (i:Nat) (ko:Nat) (fo:Bool),m=x.out.length-i∧i≤x.out.length∧f 2=.pointer (some ⟨h.length,0,none⟩)∧f 5=sl kv vs.length∧f 6=sl ko (outS x.p x.out vs i).length∧f 9=I64 i∧(H1<+:K2)∧(Lst K2 kv vs fu)∧(Lst K2 ko (outS x.p x.out vs i) fo)∧(H1.length≤ko∧kv≠ko)) ?_ (x.out.length-0) _ _ ⟨0,H2.length,true,rfl,by omega,(by first|rfl|exact f2|(simp[upd_apply];done)),(by first|rfl|exact f5|(simp[upd_apply];done)),(by first|rfl|exact f6|(simp[upd_apply];done)),(by first|rfl|simp[upd_apply]),pp,lv,lo',⟨by have:=pre_len p2;omega,hk.2⟩⟩
 rintro m f K2 ⟨i,ko,fo,rfl,hi,f2,f5,f6,f9,pp,lv,lo,hk⟩
 have hbK:=pre_get pp hb1
 have ltK:=get_lt hbK
 have hvK:=hv.pre (p1.trans pp)
 have ltv:=lv.lt
 have lto:=lo.lt
 have ol:=outS_len (p:=x.p) (out:=x.out) (vs:=vs) (i:=i)
 by_cases hlt:(i:Int)<x.out.length
 ·have hi':i<x.out.length:=by omega
  obtain⟨n,off,hix,hrn⟩:=hvK.2.rdw hi'
  obtain⟨n',off',hix',hrn',hr1⟩:=hvK.2.at hi'
  obtain⟨a,b,hq⟩:=all2 (hvK.2.wid hi')
  have r0:=hr1 0 (by omega)
  have r1:=hr1 1 (by omega)
  rw[hq,cel_2] at hrn
  rw[hq] at r0 r1
  simp only[Nat.add_zero,List.getD_cons_zero,List.getD_cons_succ] at r0 r1
  have s2:=pf.out2 hi' hq
  have hA:=allIn_iff.1 va a.toNat (by omega)
  have m:=mul_in (A:=4) (B:=4) (a:=b) (b:=vs.getD a.toNat 0) (by omega) (by omega)
  have ixa:=Lst.ix (n:=kv) (j:=a) (len:=vs.length) (by omega)
  have rda:=lv.rd (j:=a.toNat) (by omega)
  have ev:outS x.p x.out vs (i+1)=outS x.p x.out vs i++[(b*vs.getD a.toNat 0).tmod x.p]:=by
   rw[outS,hq]
   rfl
  ((try simp (maxSteps:=3000000) (dsimp:=false) (disch:=first|omega|simp only[lnx];omega) only[↓ypre,ypost,↓reduceIte,reduceEqDiff,reduceAdd,reduceSub,reduceLeDiff,zz0,ynew,f2,f5,f6,f9,Nat.add_zero,rd1_of hbK,hvK.2.len,decide_eq_true hlt,hix',r0,r1,ixa,rda,wrap64_in,bin_rem]);try simp only[yback])
  refine lo.app (by omega) fun H5 l5 pre5 own5 lst5 lo5=>?_
  ((try simp (maxSteps:=3000000) (dsimp:=false) (disch:=first|omega|simp only[lnx];omega) only[↓ypre,ypost,↓reduceIte,reduceEqDiff,reduceAdd,reduceSub,reduceLeDiff,zz0,ynew,f2,f5,f6,f9,wrap64_in]);try simp only[yback])
  rw[←ev] at lo5
  refine InvQ_go (x.out.length-(i+1)) (by omega) ⟨(i+1),(K2.length+1),false,rfl,by omega,(by first|rfl|exact f2|(simp only[upd_apply];rfl)|(show I64 _=_;congr 1;omega)),(by first|rfl|exact f5|(simp only[upd_apply];rfl)|(show I64 _=_;congr 1;omega)),(by show sl _ _=_;rw[ev]),(by first|rfl|exact f9|(simp only[upd_apply];rfl)|(show I64 _=_;congr 1;omega)),(pre5 _ hk.1 pp),(lst5 _ _ _ hk.2 lv),lo5,⟨by have:=pre_len pp;omega,by omega⟩⟩
 have ei:i=x.out.length:=by omega
 subst ei
 ((try simp (maxSteps:=3000000) (dsimp:=false) (disch:=first|omega|simp only[lnx];omega) only[↓ypre,ypost,↓reduceIte,reduceEqDiff,reduceAdd,reduceSub,reduceLeDiff,zz0,ynew,f2,f5,f6,f9,rd1_of hbK,hvK.2.len,decide_eq_false hlt]);try simp only[yback])
 exact hQ ko fo _ (by omega) (p1.trans pp) lo
theorem i_run {v w u:Value} {x:Prg} {ns:List Int} {h:AH} {Q:Value→AH→Prop} (hv:PrgR h v w x) (pf:PrgF x) (hu:Ints h u ns) (hn:allIn x.p ns=true) (hl:(ns.length:Int)=x.n)
  (hQ:∀ n full h',h.length≤n→h<+:h'→Lst h' n (runP x ns) full→Q (sl n (runP x ns).length) h'):WF S 171 [prgV x v w,u] h Q:=by
 refine WF_fn (fn:=c171) rfl rfl ?_
 dsimp only[c171,oO,oM,oS,oG,oK,oE,oL,oF,oX,oN]
 have fp:=pf.p
 have fn:=pf.n
 have fst:=pf.st
 have fout:=pf.out
 ((try simp (maxSteps:=3000000) (dsimp:=false) (disch:=first|omega|simp only[lnx];omega) only[↓ypre,ypost,↓reduceIte,reduceEqDiff,reduceAdd,reduceSub,reduceLeDiff,zz0,ynew,prgV,hv.1.one,hv.2.one]);try simp only[yback])
 generalize hH1:AH.new h _=H1
 obtain⟨hb1,p1,n1⟩:=new_facts hH1
 refine i_CloneT (hu.pre p1) (by omega) (by omega) fun kv H2 hkv p2 lv=>?_
 have hb2:=pre_get p2 hb1
 have ltv:=lv.lt
 ((try simp (maxSteps:=3000000) (dsimp:=false) (disch:=first|omega|simp only[lnx];omega) only[↓ypre,ypost,↓reduceIte,reduceEqDiff,reduceAdd,reduceSub,reduceLeDiff,zz0,ynew,rd1_of hb2,hv.1.len]);try simp only[yback])
 refine WC_loop_inv (fun m f K1=>∃ (i:Nat) (kv:Nat) (fu:Bool),m=x.st.length-i∧i≤x.st.length∧f 2=.pointer (some ⟨h.length,0,none⟩)∧f 5=sl kv (valS x.p x.st ns i).length∧f 14=v∧f 15=I64 x.st.length∧f 16=I64 i∧(H1<+:K1)∧(Lst K1 kv (valS x.p x.st ns i) fu)∧(H1.length≤kv)) ?_ (x.st.length-0) _ _ ⟨0,kv,false,rfl,by omega,(by first|rfl|simp[upd_apply]),(by first|rfl|simp[upd_apply]),(by first|rfl|simp[upd_apply]),(by first|rfl|simp[upd_apply]),(by first|rfl|simp[upd_apply]),p2,lv,hkv⟩
 rintro m f K1 ⟨i,kv,fu,rfl,hi,f2,f5,f14,f15,f16,pp,lv,hk⟩
 have hbK:=pre_get pp hb1
 have ltK:=get_lt hbK
 have hvK:=hv.pre (p1.trans pp)
 have ltv:=lv.lt
 have vl:=valS_len (p:=x.p) (st:=x.st) (ns:=ns) (i:=i)
 by_cases hlt:(i:Int)<x.st.length
 ·have hi':i<x.st.length:=by omega
  obtain⟨n,off,hix,hrn⟩:=hvK.1.rdw hi'
  obtain⟨a,b,d,hq⟩:=all3 (hvK.1.wid hi')
  rw[hq,cel_3] at hrn
  have s3:=pf.st3 hi' hq
  have va:=valS_in pf hv hn hl (i:=i) (by omega)
  have hA:=allIn_iff.1 va a.toNat (by omega)
  have hB:=allIn_iff.1 va b.toNat (by omega)
  have m:=mul_in (A:=4) (B:=4) (a:=d) (b:=(valS x.p x.st ns i).getD b.toNat 0) (by omega) (by omega)
  have ixa:=Lst.ix (n:=kv) (j:=a) (len:=(valS x.p x.st ns i).length) (by omega)
  have ixb:=Lst.ix (n:=kv) (j:=b) (len:=(valS x.p x.st ns i).length) (by omega)
  have rda:=lv.rd (j:=a.toNat) (by omega)
  have rdb:=lv.rd (j:=b.toNat) (by omega)
  have ev:valS x.p x.st ns (i+1)=valS x.p x.st ns i++[((valS x.p x.st ns i).getD a.toNat 0+d*(valS x.p x.st ns i).getD b.toNat 0).tmod x.p]:=by
   rw[valS,hq]
   rfl
  ((try simp (maxSteps:=3000000) (dsimp:=false) (disch:=first|omega|simp only[lnx];omega) only[↓ypre,ypost,↓reduceIte,reduceEqDiff,reduceAdd,reduceSub,reduceLeDiff,zz0,ynew,f2,f5,f14,f15,f16,rd1_of hbK,hvK.1.len,decide_eq_true hlt,hix,hrn,ixa,ixb,rda,rdb,wrap64_in,bin_rem]);try simp only[yback])
  generalize hH4:AH.new K1 _=H4
  obtain⟨hb4,p4,n4⟩:=new_facts hH4
  refine (lv.pre p4).app (by omega) fun H5 l5 pre5 own5 lst5 lv5=>?_
  ((try simp (maxSteps:=3000000) (dsimp:=false) (disch:=first|omega|simp only[lnx];omega) only[↓ypre,ypost,↓reduceIte,reduceEqDiff,reduceAdd,reduceSub,reduceLeDiff,zz0,ynew,f2,f5,f14,f15,f16,wrap64_in]);try simp only[yback])
  rw[←ev] at lv5
  refine InvQ_go (x.st.length-(i+1)) (by omega) ⟨(i+1),(H4.length+1),false,rfl,by omega,(by first|rfl|exact f2|(simp only[upd_apply];rfl)|(show I64 _=_;congr 1;omega)),(by show sl _ _=_;rw[ev]),(by first|rfl|exact f14|(simp only[upd_apply];rfl)|(show I64 _=_;congr 1;omega)),(by first|rfl|exact f15|(simp only[upd_apply];rfl)|(show I64 _=_;congr 1;omega)),(by first|rfl|exact f16|(simp only[upd_apply];rfl)|(show I64 _=_;congr 1;omega)),(pre5 _ hk (pp.trans p4)),lv5,(by have:=pre_len pp;omega)⟩
 have ei:i=x.st.length:=by omega
 subst ei
 ((try simp (maxSteps:=3000000) (dsimp:=false) (disch:=first|omega|simp only[lnx];omega) only[↓ypre,ypost,↓reduceIte,reduceEqDiff,reduceAdd,reduceSub,reduceLeDiff,zz0,ynew,f2,f5,f14,f15,f16,rd1_of hbK,hvK.1.len,hvK.2.len,decide_eq_false hlt]);try simp only[yback])
 have va:=valS_in pf hv hn hl (i:=x.st.length) (Nat.le_refl _)
 unfold runP at hQ
 generalize valS x.p x.st ns x.st.length=vs at *
 generalize hH6:AH.new K1 _=H6
 obtain⟨hb6,p6,n6⟩:=new_facts hH6
 have lo':Lst H6 K1.length (outS x.p x.out vs 0) true:=hb6
 ((try simp (maxSteps:=3000000) (dsimp:=false) (disch:=first|omega|simp only[lnx];omega) only[↓ypre,ypost,↓reduceIte,reduceEqDiff,reduceAdd,reduceSub,reduceLeDiff,zz0,ynew,f2,f5,f14,f15,f16,rd1_of (pre_get p6 hbK),hvK.2.len]);try simp only[yback])
 refine WC_loop_inv (fun m f K2=>∃ (i:Nat) (ko:Nat) (fo:Bool),m=x.out.length-i∧i≤x.out.length∧f 2=.pointer (some ⟨h.length,0,none⟩)∧f 5=sl kv vs.length∧f 8=sl ko (outS x.p x.out vs i).length∧f 43=w∧f 44=I64 x.out.length∧f 45=I64 i∧(H1<+:K2)∧(Lst K2 kv vs fu)∧(Lst K2 ko (outS x.p x.out vs i) fo)∧(H1.length≤ko∧kv≠ko)) ?_ (x.out.length-0) _ _ ⟨0,K1.length,true,rfl,by omega,(by first|rfl|exact f2|(simp[upd_apply];done)),(by first|rfl|exact f5|(simp[upd_apply];done)),(by first|rfl|simp[upd_apply]),(by first|rfl|simp[upd_apply]),(by first|rfl|simp[upd_apply]),(by first|rfl|simp[upd_apply]),pp.trans p6,lv.pre p6,lo',⟨by have:=pre_len pp;omega,by omega⟩⟩
 rintro m f K2 ⟨i,ko,fo,rfl,hi,f2,f5,f8,f43,f44,f45,pp,lv,lo,hk⟩
 have hbK:=pre_get pp hb1
 have ltK:=get_lt hbK
 have hvK:=hv.pre (p1.trans pp)
 have ltv:=lv.lt
 have lto:=lo.lt
 have ol:=outS_len (p:=x.p) (out:=x.out) (vs:=vs) (i:=i)
 by_cases hlt:(i:Int)<x.out.length
 ·have hi':i<x.out.length:=by omega
  obtain⟨n,off,hix,hrn⟩:=hvK.2.rdw hi'
  obtain⟨n',off',hix',hrn',hr1⟩:=hvK.2.at hi'
  obtain⟨a,b,hq⟩:=all2 (hvK.2.wid hi')
  have r0:=hr1 0 (by omega)
  have r1:=hr1 1 (by omega)
  rw[hq,cel_2] at hrn
  rw[hq] at r0 r1
  simp only[Nat.add_zero,List.getD_cons_zero,List.getD_cons_succ] at r0 r1
  have s2:=pf.out2 hi' hq
  have hA:=allIn_iff.1 va a.toNat (by omega)
  have m:=mul_in (A:=4) (B:=4) (a:=b) (b:=vs.getD a.toNat 0) (by omega) (by omega)
  have ixa:=Lst.ix (n:=kv) (j:=a) (len:=vs.length) (by omega)
  have rda:=lv.rd (j:=a.toNat) (by omega)
  have ev:outS x.p x.out vs (i+1)=outS x.p x.out vs i++[(b*vs.getD a.toNat 0).tmod x.p]:=by
   rw[outS,hq]
   rfl
  ((try simp (maxSteps:=3000000) (dsimp:=false) (disch:=first|omega|simp only[lnx];omega) only[↓ypre,ypost,↓reduceIte,reduceEqDiff,reduceAdd,reduceSub,reduceLeDiff,zz0,ynew,f2,f5,f8,f43,f44,f45,rd1_of hbK,hvK.2.len,decide_eq_true hlt,hix,hrn,ixa,rda,wrap64_in,bin_rem]);try simp only[yback])
  generalize hH7:AH.new K2 _=H7
  obtain⟨hb7,p7,n7⟩:=new_facts hH7
  refine (lo.pre p7).app (by omega) fun H5 l5 pre5 own5 lst5 lo5=>?_
  ((try simp (maxSteps:=3000000) (dsimp:=false) (disch:=first|omega|simp only[lnx];omega) only[↓ypre,ypost,↓reduceIte,reduceEqDiff,reduceAdd,reduceSub,reduceLeDiff,zz0,ynew,f2,f5,f8,f43,f44,f45,wrap64_in]);try simp only[yback])
  rw[←ev] at lo5
  refine InvQ_go (x.out.length-(i+1)) (by omega) ⟨(i+1),(H7.length+1),false,rfl,by omega,(by first|rfl|exact f2|(simp only[upd_apply];rfl)|(show I64 _=_;congr 1;omega)),(by first|rfl|exact f5|(simp only[upd_apply];rfl)|(show I64 _=_;congr 1;omega)),(by show sl _ _=_;rw[ev]),(by first|rfl|exact f43|(simp only[upd_apply];rfl)|(show I64 _=_;congr 1;omega)),(by first|rfl|exact f44|(simp only[upd_apply];rfl)|(show I64 _=_;congr 1;omega)),(by first|rfl|exact f45|(simp only[upd_apply];rfl)|(show I64 _=_;congr 1;omega)),(pre5 _ hk.1 (pp.trans p7)),(lst5 _ _ _ hk.2 (lv.pre p7)),lo5,⟨by have:=pre_len pp;omega,by omega⟩⟩
 have ei:i=x.out.length:=by omega
 subst ei
 ((try simp (maxSteps:=3000000) (dsimp:=false) (disch:=first|omega|simp only[lnx];omega) only[↓ypre,ypost,↓reduceIte,reduceEqDiff,reduceAdd,reduceSub,reduceLeDiff,zz0,ynew,f2,f5,f8,f43,f44,f45,rd1_of hbK,hvK.2.len,decide_eq_false hlt]);try simp only[yback])
 exact hQ ko fo _ (by omega) (p1.trans pp) lo
def mmx (b:Bool) (x y:Value):Option Value:=match x,y with
 | .int k a,.int _ c=>some (.int k (if b then (if c>a then c else a) else (if c<a then c else a)))
 | _,_=>none
theorem yWX_mmx {S:XS} {f:Fr} {h:AH} {Q:Value→AH→Prop} {b:Bool} {x y:Operand}:WX S (.mm b x [y]) f h Q=yWV (mmx b (ev f x) (ev f y)) (fun v=>Q v h) .mk:=by
 refine WX_of (fun _=>rfl) ?_
 simp only[xop,List.map_cons,List.map_nil]
 generalize ev f x=vx
 generalize ev f y=vy
 cases vx<;>first|rfl|skip
 cases vy<;>rfl
theorem mmx_max {a c:Int} {k k':IntKind}:mmx true (.int k a) (.int k' c)=some (.int k (if c>a then c else a)):=rfl
end Go.Proofs.Ytapafdpnmakekaa.X

set_option linter.unusedVariables false
set_option linter.unusedSimpArgs false
set_option maxRecDepth 20000
set_option maxHeartbeats 4000000
namespace Go.Proofs.Ytapafdpnmakekaa.X
open Go Go.RowKit
theorem InX.put_ne {a b n:Nat} {h:AH} {v:Value} {L:List (List Int)} {c:Blk} (o:InX a b h v L) (hn:n<a):InX a b (h.put n c) v L:=
 ⟨o.1.only (c:=n) (d:=n+1) ⟨len_put,fun m hm=>by unfold AH.put;rw[List.getElem?_set_ne (by omega)]⟩ (by omega),o.2⟩
theorem cut_get {α:Type} {d:α} {l:List α} {a n k:Nat} (h:k<n):((l.drop a).take n).getD k d=l.getD (a+k) d:=by
 simp[List.getD_eq_getElem?_getD,List.getElem?_take,List.getElem?_drop,h]
def sideN (t:Ten) (s:Nat):Int:=if s=0 then t.i else if s=1 then t.j else t.k
def slOK (t:Ten) (s a:Int):Prop:=(0≤s∧s≤2)∧0≤a∧a<sideN t s.toNat
instance {t:Ten} {s a:Int}:Decidable (slOK t s a):=by unfold slOK;infer_instance
theorem WG_un {S:XS} {b:Bool} {i:XI} {rest:List XI} {f:Fr} {h:AH} {Q:Fr→AH→Prop}:WG S undef b i rest f h Q=WO S rest (updo f i.d undef) h Q:=rfl
def By (w:Nat) (q:List Int):Prop:=q.length=w∧∀ j,j<w→0≤q.getD j 0∧q.getD j 0≤255
def okAt (p n:Int) (q:List Int) (j:Nat):Bool:=decide (q.getD j 0<p∧(n≤(j:Int)→q.getD j 0=0))
def okForm (p n:Int) (q:List Int):Bool:=(List.range 9).all (okAt p n q)
theorem okForm_t {p n:Int} {q:List Int} (h:∀ j,j<9→okAt p n q j=true):okForm p n q=true:=by
 unfold okForm
 rw[List.all_eq_true]
 exact fun j hj=>h j (List.mem_range.1 hj)
def z9:List Int:=[0,0,0,0,0,0,0,0,0]
def isZ (q:List Int):Bool:=q==z9
theorem intsOf_cel {k:IntKind}:∀ {q:List Int},q≠[]→intsOf (cel k q)=some (k,q)
 | [],h=>absurd rfl h
 | [a],_=>rfl
 | a::b::l,_=>by
  have ih:=intsOf_cel (k:=k) (q:=b::l) (by simp)
  have e:cel k (a::b::l)=.int k a::cel k (b::l):=rfl
  have e2:cel k (b::l)=.int k b::cel k l:=rfl
  rw[e2] at ih
  rw[e,e2]
  simp only[intsOf,ih,if_true]
def seg (q:List Int) (i:Nat):List Int:=(q.drop (i*9)).take 9
theorem By.seg {q:List Int} (hq:By 27 q) {i:Nat} (hi:i<3):By 9 (seg q i):=by
 have h1:=hq.1
 refine⟨by unfold X.seg;simp;omega,fun j hj=>?_⟩
 unfold X.seg
 rw[cut_get hj]
 exact hq.2 _ (by omega)
def hasZ (q:List Int):Bool:=isZ (seg q 0)||isZ (seg q 1)||isZ (seg q 2)
end Go.Proofs.Ytapafdpnmakekaa.X

set_option linter.unusedVariables false
set_option linter.unusedSimpArgs false
set_option maxRecDepth 20000
set_option maxHeartbeats 4000000
namespace Go.Proofs.Ytapafdpnmakekaa.X
open Go Go.RowKit
open Nat (reduceEqDiff reduceAdd reduceSub reduceLeDiff)
theorem WO_cut {S:XS} {ops:List XI} {f:Fr} {h:AH} {Q:Fr→AH→Prop} (I:Fr→Prop) (hI:I f) (step:∀ f,I f→WO S ops f h Q):WO S ops f h Q:=step f hI
def JnQ (I:Fr→AH→Prop):XE→Fr→AH→Prop
 | .normal,f,h=>I f h
 | _,_,_=>False
theorem JnQ_n {I:Fr→AH→Prop} {f:Fr} {h:AH}:JnQ I .normal f h=I f h:=rfl
theorem WO.mono {S:XS} {ops:List XI} {f:Fr} {h:AH} {Q Q':Fr→AH→Prop} (w:WO S ops f h Q) (hq:∀ f h,Q f h→Q' f h):WO S ops f h Q':=by
 obtain⟨k,f',h',h1,h2⟩:=w
 exact⟨k,f',h',h1,hq _ _ h2⟩
section
variable {n m:Nat} {h0 h h' h'':AH} {b:Blk}
theorem Kp.refl:Kp n h h:=⟨Nat.le_refl _,fun _ _ _=>rfl⟩
theorem Kp.trans (a:Kp n h h') (c:Kp n h' h''):Kp n h h'':=⟨Nat.le_trans a.1 c.1,fun m hm hn=>(c.2 m (Nat.lt_of_lt_of_le hm a.1) hn).trans (a.2 m hm hn)⟩
theorem Kp.of (p:h<+:h'):Kp n h h':=prefix_kp p
theorem Kp.get (k:Kp n h h') (hm:m≠n) (hg:h.get m=some b):h'.get m=some b:=by rw[k.2 m (get_lt hg) hm];exact hg
theorem Kp.put (k:Kp n h h'):Kp n h (h'.put n b):=⟨by rw[len_put];exact k.1,fun m hm hn=>by rw[get_put_ne (Ne.symm hn)];exact k.2 m hm hn⟩
theorem Kp.putb (k:Kp n h h') (hm:h.length≤m):Kp n h (h'.put m b):=⟨by rw[len_put];exact k.1,fun j hj hn=>by rw[get_put_ne (by omega)];exact k.2 j hj hn⟩
theorem Kp.new (k:Kp n h h'):Kp n h (h'.new b):=k.trans (Kp.of (pre_new (List.prefix_refl _)))
theorem get_none {m:Nat} (hm:m<h.length) (hn:h.get m=none):h[m]?=some none:=by
 unfold AH.get at hn
 rw[List.getElem?_eq_getElem hm] at hn ⊢
 cases e:h[m] with
 | none=>rfl
 | some b=>rw[e] at hn;cases hn
theorem get_some' {m:Nat} (hg:h.get m=some b):h[m]?=some (some b):=by
 have hl:=get_lt hg
 unfold AH.get at hg
 rw[List.getElem?_eq_getElem hl] at hg ⊢
 cases e:h[m] with
 | none=>rw[e] at hg;cases hg
 | some c=>rw[e] at hg;cases hg;rfl
theorem Kp.pre (k:Kp n h h') (p:h0<+:h) (hl:h0.length≤n):h0<+:h':=by
 have l0:=pre_len p
 rw[List.prefix_iff_getElem?] at p ⊢
 intro i hi
 have e:=k.2 i (by omega) (by omega)
 rw[←p i hi]
 cases hg:h.get i with
 | none=>
  rw[hg] at e
  rw[get_none (by omega) hg,get_none (Nat.lt_of_lt_of_le (by omega) k.1) e]
 | some b=>
  rw[hg] at e
  rw[get_some' hg,get_some' e]
end
theorem put_facts {h H:AH} {m:Nat} {b:Blk} (hH:h.put m b=H):(∀ k c,k≠m→h.get k=some c→H.get k=some c)∧H.length=h.length∧(m<h.length→H.get m=some b)∧∀ n h0,Kp n h0 h→h0.length≤m→Kp n h0 H:=by
 subst hH
 exact⟨fun k c hk g=>by rw[get_put_ne (Ne.symm hk)];exact g,len_put,fun hm=>get_put_same hm,fun n h0 k hm=>k.putb hm⟩
def KP (n:Nat) (h:AH) (p:AH→Prop):Prop:=∀ h',Kp n h h'→p h'
theorem KP.now {n:Nat} {h:AH} {p:AH→Prop} (k:KP n h p):p h:=k h Kp.refl
theorem KP.kp {n:Nat} {h h':AH} {p:AH→Prop} (k:KP n h p) (d:Kp n h h'):KP n h' p:=fun h2 d2=>k h2 (d.trans d2)
theorem KP.pre {n:Nat} {h h':AH} {p:AH→Prop} (k:KP n h p) (d:h<+:h'):KP n h' p:=k.kp (Kp.of d)
def KN (lo:Nat) (h:AH) (p:AH→Prop):Prop:=∀ h':AH,h.length≤h'.length→(∀ m,lo≤m→m<h.length→h'.get m=h.get m)→p h'
section
variable {lo lo' n m:Nat} {h h':AH} {p:AH→Prop} {b:Blk}
theorem KN.now (k:KN lo h p):p h:=k h (Nat.le_refl _) fun _ _ _=>rfl
theorem KN.kp (k:KN lo h p) (d:Kp n h h') (hn:n<lo):KN lo h' p:=fun h2 l2 g2=>k h2 (Nat.le_trans d.1 l2) fun m h1 h3=>(g2 m h1 (Nat.lt_of_lt_of_le h3 d.1)).trans (d.2 m h3 (by omega))
theorem KN.pre (k:KN lo h p) (d:h<+:h'):KN lo h' p:=fun h2 l2 g2=>k h2 (Nat.le_trans (pre_len d) l2) fun m h1 h3=>(g2 m h1 (Nat.lt_of_lt_of_le h3 (pre_len d))).trans (prefix_get d h3)
theorem KN.put (k:KN lo h p) (hm:m<lo):KN lo (h.put m b) p:=fun h2 l2 g2=>k h2 (by rw[len_put] at l2;exact l2) fun j h1 h3=>(g2 j h1 (by rw[len_put];exact h3)).trans (get_put_ne (by omega))
theorem KN.mono (k:KN lo h p) (hl:lo'≤lo):KN lo' h p:=fun h2 l2 g2=>k h2 l2 fun m h1 h3=>g2 m (by omega) h3
end
abbrev U64 (n:Int):Value:=.int .u64 n
abbrev srcP (n:Nat):Value:=.pointer (some ⟨n,0,none⟩)
structure Src (h0 h:AH) (n:Nat):Prop where
 p:h0<+:h
 lo:h0.length≤n
 ex:∃ (cv:Value) (code:List (List Int)) (a:Nat) (k:Int) (e:TypeId) (full:Bool),Els .u8 1 h0 cv code∧Byt 1 code∧code.length≤1000000∧a≤code.length∧h.get n=some ⟨[cv,I64 a,U64 k],e,false,full⟩
theorem Src.kp {h0 h h':AH} {n:Nat} (s:Src h0 h n) (p:h<+:h'):Src h0 h' n:=by
 obtain⟨cv,code,a,k,e,full,h1,h2,h3,h4,h5⟩:=s.ex
 exact⟨s.p.trans p,s.lo,cv,code,a,k,e,full,h1,h2,h3,h4,pre_get p h5⟩
theorem Src.keep {h0 h h':AH} {n:Nat} (s:Src h0 h n) (p:h0<+:h') (g:∀ b,h.get n=some b→h'.get n=some b):Src h0 h' n:=by
 obtain⟨cv,code,a,k,e,full,h1,h2,h3,h4,h5⟩:=s.ex
 exact⟨p,s.lo,cv,code,a,k,e,full,h1,h2,h3,h4,g _ h5⟩
theorem Src.lt {h0 h:AH} {n:Nat} (s:Src h0 h n):n<h.length:=by
 obtain⟨cv,code,a,k,e,full,h1,h2,h3,h4,h5⟩:=s.ex
 exact get_lt h5
theorem Src.putb {h0 h:AH} {n m:Nat} {b:Blk} (s:Src h0 h n) (hm:m≠n) (hl:h0.length≤m):Src h0 (h.put m b) n:=s.keep (pre_put s.p hl) fun c g=>by rw[get_put_ne hm];exact g
theorem Src.put {h0 h H:AH} {n m:Nat} {b:Blk} (s:Src h0 h n) (hH:h.put m b=H) (hm:m≠n) (hl:h0.length≤m):Src h0 H n:=by
 subst hH
 exact s.putb hm hl
theorem and24 (x:Int):xbin .and (U64 x) (U64 16777215)=some (U64 ((BitVec.ofInt 64 x &&& BitVec.ofInt 64 16777215).toNat:Nat))∧(BitVec.ofInt 64 x &&& BitVec.ofInt 64 16777215).toNat≤16777215:=by
 have hb:(BitVec.ofInt 64 x &&& BitVec.ofInt 64 16777215).toNat≤16777215:=by
  rw[BitVec.toNat_and]
  exact Nat.le_trans Nat.and_le_right (by decide)
 refine⟨?_,hb⟩
 simp only[xbin,if_true]
 congr 2
 show IntKind.wrap .u64 ((BitVec.ofInt 64 x &&& BitVec.ofInt 64 16777215).toNat:Nat)=_
 generalize (BitVec.ofInt 64 x &&& BitVec.ofInt 64 16777215).toNat=y at hb
 simp only[IntKind.wrap]
 have:IntKind.u64.bits=64:=rfl
 rw[this,show IntKind.u64.signed=false from rfl,Bool.false_and,if_neg (by decide)]
 omega
theorem bin_shr {k k':IntKind} {x:Int} {b:Int} (hb:0≤b):xbin .shr (.int k x) (.int k' b)=some (.int k (x.fdiv (2^(min b.toNat k.bits)))):=by simp[xbin,hb]
theorem s_l01Next {h0 h:AH} {n:Nat} {k:Int} {Q:Value→AH→Prop} (s:Src h0 h n) (hQ:∀ r h',Kp n h h'→h'.length=h.length→Src h0 h' n→(1≤k→0≤r∧r<k)→(k<1→r=0)→Q (I64 r) h'):WF S 148 [srcP n,I64 k] h Q:=by
 refine WF_fn (fn:=c148) rfl rfl ?_
 dsimp only[c148,oO,oM,oS,oG,oK,oE,oL,oF,oX,oN]
 obtain⟨cv,code,a,hs,e,full,h1,h2,h3,h4,h5⟩:=s.ex
 unfold srcP
 by_cases hk:k<1
 ·((try simp (maxSteps:=3000000) (dsimp:=false) (disch:=first|omega|simp only[lnx];omega) only[↓ypre,ypost,↓reduceIte,reduceEqDiff,reduceAdd,reduceSub,reduceLeDiff,zz0,ynew,decide_eq_true hk]);try simp only[yback])
  exact hQ 0 _ Kp.refl rfl s (by omega) (fun _=>rfl)
 ·((try simp (maxSteps:=3000000) (dsimp:=false) (disch:=first|omega|simp only[lnx];omega) only[↓ypre,ypost,↓reduceIte,reduceEqDiff,reduceAdd,reduceSub,reduceLeDiff,zz0,ynew,decide_eq_false hk,nchkV_p,rd1_of h5,wr_of h5,splice_eq]);try simp only[yback])
  generalize hx:IntKind.u64.wrap (IntKind.u64.wrap (hs*6364136223846793005)+1442695040888963407)=x
  generalize hH:h.put n ⟨[cv,I64 a,U64 x],e,false,full⟩=H
  have gH:H.get n=some ⟨[cv,I64 a,U64 x],e,false,full⟩:=by rw[←hH];exact get_put_same (get_lt h5)
  have lH:H.length=h.length:=by rw[←hH,len_put]
  have kH:Kp n h H:=by rw[←hH];exact Kp.refl.put
  have pH:=kH.pre s.p s.lo
  obtain⟨a1,a2⟩:=and24 (x.fdiv (2^(min (33:Int).toNat IntKind.u64.bits)))
  generalize hN:(BitVec.ofInt 64 (x.fdiv (2^(min (33:Int).toNat IntKind.u64.bits))) &&& BitVec.ofInt 64 16777215).toNat=N at a1 a2
  have e1:=h1.pre pH
  have fin:∀ (y:Int) (h':AH),0≤y→Kp n h h'→h'.length=h.length→Src h0 h' n→Q (I64 (y.tmod k)) h':=fun y h' hy kp hl ss=>
   hQ _ h' kp hl ss (fun _=>⟨Int.tmod_nonneg _ hy,Int.tmod_lt_of_pos _ (by omega)⟩) (fun hk'=>absurd hk' hk)
  ((try simp (maxSteps:=3000000) (dsimp:=false) (disch:=first|omega|simp only[lnx];omega) only[↓ypre,ypost,↓reduceIte,reduceEqDiff,reduceAdd,reduceSub,reduceLeDiff,zz0,ynew,rd1_of gH,bin_shr,a1,e1.len,wrap64_in,Int.reduceLE]);try simp only[yback])
  by_cases hlt:(a:Int)<code.length
  ·have hi':a<code.length:=by omega
   obtain⟨n2,off,hix,hrn,hr1⟩:=e1.at hi'
   have rb:=hr1 0 (by omega)
   have bb:=h2 a hi' 0 (by omega)
   rw[Nat.add_zero] at rb
   generalize (code.getD a []).getD 0 0=y at rb bb
   ((try simp (maxSteps:=3000000) (dsimp:=false) (disch:=first|omega|simp only[lnx];omega) only[↓ypre,ypost,↓reduceIte,reduceEqDiff,reduceAdd,reduceSub,reduceLeDiff,zz0,ynew,decide_eq_true hlt,hix,rb,rd1_of gH,wr_of gH,splice_eq,wrap64_in,bin_rem (show k≠0 by omega)]);try simp only[yback])
   exact fin (N+y) _ (by omega) kH.put (by rw[len_put,lH]) ⟨pre_put pH s.lo,s.lo,cv,code,a+1,x,e,full,h1,h2,h3,by omega,get_put_same (get_lt gH)⟩
  ·((try simp (maxSteps:=3000000) (dsimp:=false) (disch:=first|omega|simp only[lnx];omega) only[↓ypre,ypost,↓reduceIte,reduceEqDiff,reduceAdd,reduceSub,reduceLeDiff,zz0,ynew,decide_eq_false hlt,bin_rem (show k≠0 by omega)]);try simp only[yback])
   exact fin N H (by omega) kH lH ⟨pH,s.lo,cv,code,a,x,e,full,h1,h2,h3,h4,gH⟩
theorem s_l01From {h:AH} {cv:Value} {code:List (List Int)} {Q:Value→AH→Prop} (hv:Els .u8 1 h cv code) (hb:Byt 1 code) (hl:code.length≤1000000)
  (hQ:∀ h',h<+:h'→h'.length=h.length+1→Src h h' h.length→Q (srcP h.length) h'):WF S 145 [cv] h Q:=by
 refine WF_fn (fn:=c145) rfl rfl ?_
 dsimp only[c145,oO,oM,oS,oG,oK,oE,oL,oF,oX,oN]
 ((try simp (maxSteps:=3000000) (dsimp:=false) (disch:=first|omega|simp only[lnx];omega) only[↓ypre,ypost,↓reduceIte,reduceEqDiff,reduceAdd,reduceSub,reduceLeDiff,zz0,ynew,hv.len,hv.one,hv.cells]);try simp only[yback])
 generalize hx:IntKind.u64.wrap (12619+IntKind.u64.wrap (code.length:Int))=x0
 ((try simp (maxSteps:=3000000) (dsimp:=false) (disch:=first|omega|simp only[lnx];omega) only[↓ypre,ypost,↓reduceIte,reduceEqDiff,reduceAdd,reduceSub,reduceLeDiff,zz0,ynew,fillL,hv.one,hv.cells]);try simp only[yback])
 generalize hH1:AH.new h _=H1
 obtain⟨hb1,p1,n1⟩:=new_facts hH1
 refine WC_loop_inv (fun m f K1=>∃ (i:Nat) (x:Int),m=code.length-i∧i≤code.length∧f 0=cv∧f 3=srcP h.length∧f 4=I64 i∧(h<+:K1)∧(K1.length=h.length+1)∧(K1.get h.length=some ⟨[cv,I64 0,U64 x],220,false,true⟩)) ?_ (code.length-0) _ _ ⟨0,x0,rfl,by omega,(by first|rfl|simp[upd_apply]),(by first|rfl|simp[upd_apply]),(by first|rfl|simp[upd_apply]),p1,n1,hb1⟩
 rintro m f K1 ⟨i,x,rfl,hi,f0,f3,f4,pp,hl1,hg⟩
 have e1:=hv.pre pp
 unfold srcP at f3
 by_cases hlt:(i:Int)<code.length
 ·by_cases h4:(i:Int)<4096
  ·have hi':i<code.length:=by omega
   obtain⟨n2,off,hix,hrn,hr1⟩:=e1.at hi'
   have rb:=hr1 0 (by omega)
   rw[Nat.add_zero] at rb
   ((try simp (maxSteps:=3000000) (dsimp:=false) (disch:=first|omega|simp only[lnx];omega) only[↓ypre,ypost,↓reduceIte,reduceEqDiff,reduceAdd,reduceSub,reduceLeDiff,zz0,ynew,f0,f3,f4,e1.len,decide_eq_true hlt,decide_eq_true h4,nchkV_p,rd1_of hg,hix,rb,wr_of hg,splice_eq,wrap64_in]);try simp only[yback])
   refine InvQ_go (code.length-(i+1)) (by omega) ⟨(i+1),(_),rfl,by omega,(by first|rfl|exact f0|(simp only[upd_apply];rfl)|(show I64 _=_;congr 1;omega)),(by first|rfl|exact f3|(simp only[upd_apply];rfl)|(show I64 _=_;congr 1;omega)),(by first|rfl|exact f4|(simp only[upd_apply];rfl)|(show I64 _=_;congr 1;omega)),(pre_put pp (by omega)),(by rw[len_put];exact hl1),(get_put_same (get_lt hg))⟩
  ·((try simp (maxSteps:=3000000) (dsimp:=false) (disch:=first|omega|simp only[lnx];omega) only[↓ypre,ypost,↓reduceIte,reduceEqDiff,reduceAdd,reduceSub,reduceLeDiff,zz0,ynew,f0,f3,f4,e1.len,decide_eq_true hlt,decide_eq_false h4]);try simp only[yback])
   exact hQ _ pp hl1 ⟨pp,Nat.le_refl _,cv,code,0,x,_,_,hv,hb,hl,Nat.zero_le _,hg⟩
 ·((try simp (maxSteps:=3000000) (dsimp:=false) (disch:=first|omega|simp only[lnx];omega) only[↓ypre,ypost,↓reduceIte,reduceEqDiff,reduceAdd,reduceSub,reduceLeDiff,zz0,ynew,f0,f3,f4,e1.len,decide_eq_false hlt,WG_un]);try simp only[yback])
  exact hQ _ pp hl1 ⟨pp,Nat.le_refl _,cv,code,0,x,_,_,hv,hb,hl,Nat.zero_le _,hg⟩
theorem s_l01Pick {h0 h:AH} {n:Nat} {v:Value} {ns:List Int} {Q:Value→AH→Prop} (s:Src h0 h n) (hv:KP n h fun h'=>Ints h' v ns) (h1:1≤ns.length) (h2:ns.length≤1000)
  (hQ:∀ j h',Kp n h h'→h'.length=h.length→Src h0 h' n→j<ns.length→Q (I64 (ns.getD j 0)) h'):WF S 147 [srcP n,v] h Q:=by
 refine WF_fn (fn:=c147) rfl rfl ?_
 dsimp only[c147,oO,oM,oS,oG,oK,oE,oL,oF,oX,oN]
 ((try simp (maxSteps:=3000000) (dsimp:=false) (disch:=first|omega|simp only[lnx];omega) only[↓ypre,ypost,↓reduceIte,reduceEqDiff,reduceAdd,reduceSub,reduceLeDiff,zz0,ynew,hv.now.len]);try simp only[yback])
 refine s_l01Next s fun r h' kp hl ss hr _=>?_
 obtain⟨r0,r1⟩:=hr (by omega)
 have iv:=hv h' kp
 ((try simp (maxSteps:=3000000) (dsimp:=false) (disch:=first|omega|simp only[lnx];omega) only[↓ypre,ypost,↓reduceIte,reduceEqDiff,reduceAdd,reduceSub,reduceLeDiff,zz0,ynew,iv.ix r0 r1,iv.rd r0 r1]);try simp only[yback])
 have:=hQ r.toNat h' kp hl ss (by omega)
 exact this
theorem kp_new {h H:AH} {n:Nat} {ns:List Int} {e:TypeId} (hH:h.new ⟨ns.map (Value.int .i64),e,false,true⟩=H) (hn:n<h.length):KP n H fun h'=>Ints h' (.slice (some ⟨h.length,0,none⟩) ns.length 1) ns:=by
 obtain⟨g1,p1,n1⟩:=new_facts hH
 intro h' k
 exact Ints.own (k.get (by omega) g1) rfl
end Go.Proofs.Ytapafdpnmakekaa.X

set_option linter.unusedVariables false
set_option linter.unusedSimpArgs false
set_option maxRecDepth 20000
set_option maxHeartbeats 4000000
namespace Go.Proofs.Ytapafdpnmakekaa.X
open Go Go.RowKit
def sz (n:Int):Bool:=decide (1≤n∧n≤3)
def pl (x:Sch) (i:Nat):Int:=if i=0 then x.n*x.m else if i=1 then x.m*x.k else x.n*x.k
def okProd (x:Sch) (q:List Int):Bool:=okForm x.p (pl x 0) (seg q 0)&&okForm x.p (pl x 1) (seg q 1)&&okForm x.p (pl x 2) (seg q 2)&&!hasZ q
theorem Prods.by {h:AH} {v:Value} {L:List (List Int)} (hv:Prods h v L) {i:Nat} (hi:i<L.length):By 27 (L.getD i []):=⟨hv.1.wid hi,hv.2 i hi⟩
end Go.Proofs.Ytapafdpnmakekaa.X

set_option linter.unusedVariables false
set_option linter.unusedSimpArgs false
set_option maxRecDepth 20000
set_option maxHeartbeats 4000000
namespace Go.Proofs.Ytapafdpnmakekaa.X
open Go Go.RowKit
open Nat (reduceEqDiff reduceAdd reduceSub reduceLeDiff)
def bs:Nat→(Nat→Bool)→Nat
 | 0,_=>0
 | R+1,f=>bs R f+(if f R=true then 2^R else 0)
theorem bs_lt {f:Nat→Bool}:∀ {R:Nat},bs R f<2^R
 | 0=>by simp[bs]
 | R+1=>by
  have:=bs_lt (f:=f) (R:=R)
  unfold bs
  rw[Nat.pow_succ]
  split<;>omega
theorem bs_bit {f:Nat→Bool}:∀ {R k:Nat},(bs R f).testBit k=(decide (k<R)&&f k)
 | 0,k=>by simp[bs]
 | R+1,k=>by
  have ih:=bs_bit (f:=f) (R:=R) (k:=k)
  have lt:=bs_lt (f:=f) (R:=R)
  unfold bs
  by_cases hf:f R=true
  ·rw[if_pos hf]
   rw[Nat.add_comm]
   by_cases h1:k<R
   ·rw[Nat.testBit_two_pow_add_gt h1,ih,decide_eq_true h1,decide_eq_true (show k<R+1 by omega)]
   ·by_cases h2:k=R
    ·subst h2
     rw[Nat.testBit_two_pow_add_eq,ih,hf]
     simp
    ·rw[Nat.testBit_lt_two_pow,decide_eq_false (by omega),Bool.false_and]
     have:2^(R+1)≤2^k:=Nat.pow_le_pow_right (by omega) (by omega)
     rw[Nat.pow_succ] at this
     omega
  ·rw[if_neg hf,Nat.add_zero,ih]
   by_cases h2:k=R
   ·subst h2
    simp[hf]
   ·by_cases h1:k<R
    ·rw[decide_eq_true h1,decide_eq_true (show k<R+1 by omega)]
    ·rw[decide_eq_false h1,decide_eq_false (by omega)]
theorem bs_of {n R:Nat} {f:Nat→Bool} (h:∀ k,n.testBit k=(decide (k<R)&&f k)):n=bs R f:=Nat.eq_of_testBit_eq fun k=>by rw[h,bs_bit]
theorem bs_congr {R:Nat} {f g:Nat→Bool} (h:∀ k,k<R→f k=g k):bs R f=bs R g:=bs_of fun k=>by
 rw[bs_bit]
 by_cases hk:k<R
 ·rw[h k hk]
 ·rw[decide_eq_false hk,Bool.false_and,Bool.false_and]
theorem bs_32 {R:Nat} {f:Nat→Bool} (hR:R≤32):bs R f<4294967296:=by
 have:=bs_lt (R:=R) (f:=f)
 have h2:2^R≤2^32:=Nat.pow_le_pow_right (by omega) hR
 have:(2:Nat)^32=4294967296:=by decide
 omega
def U32 (n:Nat):Value:=.int .u32 (n:Int)
theorem wrapU {n:Nat} (h:n<4294967296):IntKind.u32.wrap (n:Int)=n:=by
 simp only[IntKind.wrap,IntKind.signed,IntKind.bits]
 have e:(n:Int)%4294967296=n:=Int.emod_eq_of_lt (by omega) (by omega)
 simpa using e
theorem ofInt_nat {n:Nat}:BitVec.ofInt 32 (n:Int)=BitVec.ofNat 32 n:=by simp
section
variable {R:Nat} {f g:Nat→Bool}
theorem bv_bit {n k:Nat} (h:n<4294967296):(BitVec.ofNat 32 n).getLsbD k=n.testBit k:=by
 rw[BitVec.getLsbD_ofNat]
 by_cases hk:k<32
 ·simp[hk]
 ·rw[decide_eq_false hk,Bool.false_and,Nat.testBit_lt_two_pow]
  have:2^32≤2^k:=Nat.pow_le_pow_right (by omega) (by omega)
  omega
theorem bin_and (hR:R≤32):xbin .and (U32 (bs R f)) (U32 (bs R g))=some (U32 (bs R fun k=>f k&&g k)):=by
 have e:(BitVec.ofInt 32 ((bs R f:Nat):Int) &&& BitVec.ofInt 32 ((bs R g:Nat):Int)).toNat=bs R fun k=>f k&&g k:=bs_of fun k=>by
  rw[BitVec.testBit_toNat,BitVec.getLsbD_and,ofInt_nat,ofInt_nat,bv_bit (bs_32 hR),bv_bit (bs_32 hR),bs_bit,bs_bit]
  cases decide (k<R)<;>simp
 show (if IntKind.u32=IntKind.u32 then some (Value.int .u32 (IntKind.u32.wrap ((BitVec.ofInt 32 ((bs R f:Nat):Int) &&& BitVec.ofInt 32 ((bs R g:Nat):Int)).toNat:Int))) else none)=_
 rw[if_pos rfl,e,wrapU (bs_32 hR)]
 rfl
theorem bin_or (hR:R≤32):xbin .or (U32 (bs R f)) (U32 (bs R g))=some (U32 (bs R fun k=>f k||g k)):=by
 have e:(BitVec.ofInt 32 ((bs R f:Nat):Int) ||| BitVec.ofInt 32 ((bs R g:Nat):Int)).toNat=bs R fun k=>f k||g k:=bs_of fun k=>by
  rw[BitVec.testBit_toNat,BitVec.getLsbD_or,ofInt_nat,ofInt_nat,bv_bit (bs_32 hR),bv_bit (bs_32 hR),bs_bit,bs_bit]
  cases decide (k<R)<;>simp
 show (if IntKind.u32=IntKind.u32 then some (Value.int .u32 (IntKind.u32.wrap ((BitVec.ofInt 32 ((bs R f:Nat):Int) ||| BitVec.ofInt 32 ((bs R g:Nat):Int)).toNat:Int))) else none)=_
 rw[if_pos rfl,e,wrapU (bs_32 hR)]
 rfl
theorem bin_andNot (hR:R≤32):xbin .andNot (U32 (bs R f)) (U32 (bs R g))=some (U32 (bs R fun k=>f k&&!g k)):=by
 have e:(BitVec.ofInt 32 ((bs R f:Nat):Int) &&& ~~~ BitVec.ofInt 32 ((bs R g:Nat):Int)).toNat=bs R fun k=>f k&&!g k:=bs_of fun k=>by
  rw[BitVec.testBit_toNat,BitVec.getLsbD_and,BitVec.getLsbD_not,ofInt_nat,ofInt_nat,bv_bit (bs_32 hR),bv_bit (bs_32 hR),bs_bit,bs_bit]
  by_cases hk:k<R
  ·rw[decide_eq_true hk,decide_eq_true (show k<32 by omega)]
   simp
  ·rw[decide_eq_false hk]
   simp
 show (if IntKind.u32=IntKind.u32 then some (Value.int .u32 (IntKind.u32.wrap ((BitVec.ofInt 32 ((bs R f:Nat):Int) &&& ~~~ BitVec.ofInt 32 ((bs R g:Nat):Int)).toNat:Int))) else none)=_
 rw[if_pos rfl,e,wrapU (bs_32 hR)]
 rfl
theorem bin_shl {r:Nat} (hr:r<R) (hR:R≤32):xbin .shl (.int .u32 1) (I64 r)=some (U32 (bs R fun k=>k==r)):=by
 have e:(1:Int)*2^(min ((r:Int).toNat) 32)=((2^r:Nat):Int):=by
  rw[Int.toNat_natCast,Nat.min_eq_left (by omega),Int.one_mul]
  simp
 have e2:2^r=bs R fun k=>k==r:=bs_of fun k=>by
  rw[Nat.testBit_two_pow]
  by_cases h:r=k
  ·subst h
   simp[hr]
  ·rw[decide_eq_false h]
   have:(k==r)=false:=by simpa using fun e=>h e.symm
   rw[this,Bool.and_false]
 show (if (0:Int)≤(r:Int) then some (Value.int .u32 (IntKind.u32.wrap ((1:Int)*2^(min ((r:Int).toNat) 32)))) else none)=_
 rw[if_pos (by omega),e,e2,wrapU (bs_32 hR)]
 rfl
theorem bin_pick {r:Nat} (hR:R≤32) (hr:r<R):xbin .shr (U32 (bs R f)) (I64 r)=some (U32 (bs R f >>> r))∧xbin .and (U32 (bs R f >>> r)) (.int .u32 1)=some (.int .u32 (if f r=true then 1 else 0)):=by
 have h32:=bs_32 (f:=f) hR
 have hs:bs R f >>> r≤bs R f:=Nat.shiftRight_le _ _
 constructor
 ·show (if (0:Int)≤(r:Int) then some (Value.int .u32 (((bs R f:Nat):Int).fdiv (2^(min ((r:Int).toNat) 32)))) else none)=_
  rw[if_pos (by omega),Int.toNat_natCast,Nat.min_eq_left (by omega)]
  unfold U32
  rw[Nat.shiftRight_eq_div_pow]
  have:((bs R f:Nat):Int).fdiv (2^r)=((bs R f / 2^r:Nat):Int):=by
   rw[Int.fdiv_eq_ediv_of_nonneg _ (by exact_mod_cast Nat.zero_le _)]
   simp
  rw[this]
 ·have e:(BitVec.ofInt 32 ((bs R f >>> r:Nat):Int) &&& BitVec.ofInt 32 1).toNat=if f r=true then 1 else 0:=by
   have e1:BitVec.ofInt 32 1=BitVec.ofNat 32 1:=rfl
   refine Nat.eq_of_testBit_eq fun k=>?_
   rw[BitVec.testBit_toNat,BitVec.getLsbD_and,ofInt_nat,e1,bv_bit (by omega),bv_bit (by omega),Nat.testBit_shiftRight,bs_bit]
   have t1:Nat.testBit 1 k=decide (k=0):=by
    rw[show (1:Nat)=2^0 from rfl,Nat.testBit_two_pow]
    by_cases hk:k=0
    ·subst hk;rfl
    ·rw[decide_eq_false hk,decide_eq_false (fun e=>hk e.symm)]
   rw[t1]
   by_cases hk:k=0
   ·subst hk
    rw[Nat.add_zero,decide_eq_true hr]
    cases f r<;>simp
   ·rw[decide_eq_false hk,Bool.and_false]
    split
    ·rw[t1,decide_eq_false hk]
    ·simp
  show (if IntKind.u32=IntKind.u32 then some (Value.int .u32 (IntKind.u32.wrap ((BitVec.ofInt 32 ((bs R f >>> r:Nat):Int) &&& BitVec.ofInt 32 1).toNat:Int))) else none)=_
  rw[if_pos rfl,e]
  cases f r<;>rfl
end
def cntB (f:Nat→Bool):Nat→Nat
 | 0=>0
 | R+1=>cntB f R+(if f R=true then 1 else 0)
theorem cntB_congr {f g:Nat→Bool}:∀ {R:Nat},(∀ k,k<R→f k=g k)→cntB f R=cntB g R
 | 0,_=>rfl
 | R+1,h=>by
  unfold cntB
  rw[cntB_congr (R:=R) fun k hk=>h k (by omega),h R (by omega)]
theorem cntB_le {f:Nat→Bool}:∀ {R:Nat},cntB f R≤R
 | 0=>Nat.le_refl _
 | R+1=>by
  have:=cntB_le (f:=f) (R:=R)
  unfold cntB
  split<;>omega
theorem cntB_mono {f g:Nat→Bool}:∀ {R:Nat},(∀ k,k<R→f k=true→g k=true)→cntB f R≤cntB g R
 | 0,_=>Nat.le_refl _
 | R+1,h=>by
  have ih:=cntB_mono (R:=R) fun k hk=>h k (by omega)
  unfold cntB
  by_cases hf:f R=true
  ·rw[if_pos hf,if_pos (h R (by omega) hf)]
   omega
  ·rw[if_neg hf]
   omega
theorem cntB_add {f:Nat→Bool} {m:Nat}:∀ {n:Nat},cntB f (m+n)=cntB f m+cntB (fun k=>f (m+k)) n
 | 0=>rfl
 | n+1=>by
  show cntB f (m+n)+(if f (m+n)=true then 1 else 0)=cntB f m+(cntB (fun k=>f (m+k)) n+(if f (m+n)=true then 1 else 0))
  rw[cntB_add (n:=n)]
  omega
theorem cntB_more {f:Nat→Bool} {R:Nat}:∀ {n:Nat},cntB (fun k=>decide (k<R)&&f k) (R+n)=cntB f R
 | 0=>cntB_congr fun k hk=>by rw[decide_eq_true (show k<R from hk),Bool.true_and]
 | n+1=>by
  show cntB _ (R+n)+(if (decide (R+n<R)&&f (R+n))=true then 1 else 0)=_
  rw[cntB_more (n:=n),decide_eq_false (by omega),Bool.false_and]
  rfl
def pop (w n:Nat):Nat:=cntB n.testBit w
theorem pop_bs {R:Nat} {f:Nat→Bool} (hR:R≤32):pop 32 (bs R f)=cntB f R:=by
 unfold pop
 rw[cntB_congr (g:=fun k=>decide (k<R)&&f k) fun k _=>bs_bit,show 32=R+(32-R) by omega,cntB_more]
theorem pop_split {n:Nat}:pop 32 n=pop 8 (n / 2^24%256)+pop 8 (n / 2^16%256)+pop 8 (n / 2^8%256)+pop 8 (n%256):=by
 have e:∀ s,pop 8 (n / 2^s%256)=cntB (fun k=>n.testBit (s+k)) 8:=fun s=>cntB_congr fun k hk=>by
  rw[show (256:Nat)=2^8 from rfl,Nat.testBit_mod_two_pow,decide_eq_true hk,Bool.true_and,←Nat.shiftRight_eq_div_pow,Nat.testBit_shiftRight]
 have e0:=e 0
 rw[Nat.pow_zero,Nat.div_one] at e0
 rw[e 24,e 16,e 8,e0]
 unfold pop
 rw[show 32=24+8 from rfl,cntB_add,show 24=16+8 from rfl,cntB_add,show 16=8+8 from rfl,cntB_add,cntB_congr (f:=fun k=>n.testBit (0+k)) (g:=n.testBit) fun k _=>by rw[Nat.zero_add]]
 omega
def tblP:List Nat:=(List.range 256).map (pop 8)
theorem tblP_at {b:Nat} (h:b<256):tblP[b]?=some (pop 8 b):=by simp[tblP,h]
theorem tblP_eq:[0,1,1,2,1,2,2,3,1,2,2,3,2,3,3,4,1,2,2,3,2,3,3,4,2,3,3,4,3,4,4,5,1,2,2,3,2,3,3,4,2,3,3,4,3,4,4,5,2,3,3,4,3,4,4,5,3,4,4,5,4,5,5,6,1,2,2,3,2,3,3,4,2,3,3,4,3,4,4,5,2,3,3,4,3,4,4,5,3,4,4,5,4,5,5,6,2,3,3,4,3,4,4,5,3,4,4,5,4,5,5,6,3,4,4,5,4,5,5,6,4,5,5,6,5,6,6,7,1,2,2,3,2,3,3,4,2,3,3,4,3,4,4,5,2,3,3,4,3,4,4,5,3,4,4,5,4,5,5,6,2,3,3,4,3,4,4,5,3,4,4,5,4,5,5,6,3,4,4,5,4,5,5,6,4,5,5,6,5,6,6,7,2,3,3,4,3,4,4,5,3,4,4,5,4,5,5,6,3,4,4,5,4,5,5,6,4,5,5,6,5,6,6,7,3,4,4,5,4,5,5,6,4,5,5,6,5,6,6,7,4,5,5,6,5,6,6,7,5,6,6,7,6,7,7,8]=tblP:=by decide +kernel
def idxsV (l:List Nat) (x:Value):Option Value:=match x with
 | .int _ j=>if 0≤j then (l[j.toNat]?).map fun b=>.int .u8 b else none
 | _=>none
theorem yWX_idxs {S:XS} {f:Fr} {h:AH} {Q:Value→AH→Prop} {l:List Nat} {x:Operand}:WX S (.idxs l x) f h Q=yWV (idxsV l (ev f x)) (fun v=>Q v h) .mk:=by
 refine WX_of (fun _=>rfl) ?_
 simp only[xop]
 generalize ev f x=vx
 cases vx<;>try rfl
 rename_i k j
 simp only[idxsV]
 split
 ·cases l[j.toNat]?<;>rfl
 ·rfl
theorem pop_le {w n:Nat}:pop w n≤w:=cntB_le
theorem l_OnesCount {n:Nat} {h:AH} {Q:Value→AH→Prop} (hn:n<4294967296) (hQ:Q (I64 (pop 32 n)) h):WF S 329 [U32 n] h Q:=by
 refine WF_fn (fn:=c329) rfl rfl ?_
 dsimp only[c329,oO,oM,oS,oG,oK,oE,oL,oF,oX,oN]
 simp only[tblP_eq]
 have sh:∀ s:Nat,s<32→xbin .shr (U32 n) (.int .u64 (s:Int))=some (U32 (n / 2^s)):=fun s hs=>by
  show (if (0:Int)≤(s:Int) then some (Value.int .u32 ((n:Int).fdiv (2^(min ((s:Int).toNat) 32)))) else none)=_
  rw[if_pos (by omega),Int.toNat_natCast,Nat.min_eq_left (by omega)]
  unfold U32
  have:(n:Int).fdiv (2^s)=((n / 2^s:Nat):Int):=by
   rw[Int.fdiv_eq_ediv_of_nonneg _ (by exact_mod_cast Nat.zero_le _)]
   simp
  rw[this]
 have an:∀ m:Nat,m<4294967296→xbin .and (U32 m) (.int .u32 255)=some (U32 (m%256)):=fun m hm=>by
  have e:(BitVec.ofInt 32 (m:Int) &&& BitVec.ofInt 32 255).toNat=m%256:=by
   have e1:BitVec.ofInt 32 255=BitVec.ofNat 32 255:=rfl
   refine Nat.eq_of_testBit_eq fun k=>?_
   rw[BitVec.testBit_toNat,BitVec.getLsbD_and,ofInt_nat,e1,bv_bit hm,bv_bit (by omega),show (256:Nat)=2^8 from rfl,Nat.testBit_mod_two_pow,show (255:Nat)=2^8-1 from rfl,Nat.testBit_two_pow_sub_one,Bool.and_comm]
  show (if IntKind.u32=IntKind.u32 then some (Value.int .u32 (IntKind.u32.wrap ((BitVec.ofInt 32 (m:Int) &&& BitVec.ofInt 32 255).toNat:Int))) else none)=_
  rw[if_pos rfl,e,wrapU (by omega)]
  rfl
 have ix:∀ m:Nat,m<256→idxsV tblP (U32 m)=some (.int .u8 ((pop 8 m:Nat):Int)):=fun m hm=>by
  show (if (0:Int)≤(m:Int) then (tblP[(m:Int).toNat]?).map fun b=>Value.int .u8 (b:Int) else none)=_
  rw[if_pos (by omega),Int.toNat_natCast,tblP_at hm]
  rfl
 have d24:n / 2^24<256:=by
  have:(2:Nat)^24=16777216:=by decide
  omega
 have d16:n / 2^16<4294967296:=Nat.lt_of_le_of_lt (Nat.div_le_self _ _) hn
 have d8:n / 2^8<4294967296:=Nat.lt_of_le_of_lt (Nat.div_le_self _ _) hn
 have s24:xbin .shr (U32 n) (.int .u64 24)=some (U32 (n / 2^24)):=sh 24 (by omega)
 have s16:xbin .shr (U32 n) (.int .u64 16)=some (U32 (n / 2^16)):=sh 16 (by omega)
 have s8:xbin .shr (U32 n) (.int .u64 8)=some (U32 (n / 2^8)):=sh 8 (by omega)
 have a16:=an _ d16
 have a8:=an _ d8
 have a0:=an _ hn
 have i24:=ix _ d24
 have i16:=ix (n / 2^16%256) (Nat.mod_lt _ (by omega))
 have i8:=ix (n / 2^8%256) (Nat.mod_lt _ (by omega))
 have i0:=ix (n%256) (Nat.mod_lt _ (by omega))
 rw[pop_split,Nat.mod_eq_of_lt d24] at hQ
 have l1:=pop_le (w:=8) (n:=n / 2^24)
 have l2:=pop_le (w:=8) (n:=n / 2^16%256)
 have l3:=pop_le (w:=8) (n:=n / 2^8%256)
 have l4:=pop_le (w:=8) (n:=n%256)
 clear sh an ix
 generalize n / 2^24=n24 at *
 generalize n / 2^16=n16 at *
 generalize n / 2^8=n8 at *
 generalize pop 8 n24=q1 at *
 generalize pop 8 (n16%256)=q2 at *
 generalize pop 8 (n8%256)=q3 at *
 generalize pop 8 (n%256)=q4 at *
 have w8:∀ a:Int,0≤a→a≤255→IntKind.u8.wrap a=a:=fun a h1 h2=>by
  simp only[IntKind.wrap,IntKind.signed,IntKind.bits]
  have e:a%256=a:=Int.emod_eq_of_lt (by omega) (by omega)
  simpa using e
 have b1:=w8 ((q1:Int)+q2) (by omega) (by omega)
 have b2:=w8 ((q1:Int)+q2+q3) (by omega) (by omega)
 have b3:=w8 ((q1:Int)+q2+q3+q4) (by omega) (by omega)
 rw[show ((q1+q2+q3+q4:Nat):Int)=(q1:Int)+q2+q3+q4 by omega] at hQ
 ((try simp (maxSteps:=3000000) (dsimp:=false) (disch:=first|omega|simp only[lnx];omega) only[↓ypre,ypost,↓reduceIte,reduceEqDiff,reduceAdd,reduceSub,reduceLeDiff,zz0,ynew,s24,s16,s8,a16,a8,a0,i24,i16,i8,i0,b1,b2,b3,↓yWX_idxs,wrap64_in]);try simp only[yback])
 exact hQ
end Go.Proofs.Ytapafdpnmakekaa.X

set_option linter.unusedVariables false
set_option linter.unusedSimpArgs false
set_option maxRecDepth 20000
set_option maxHeartbeats 4000000
namespace Go.Proofs.Ytapafdpnmakekaa.X
open Go Go.RowKit
def WayX (e:TypeId) (k:IntKind) (w:Nat) (h:AH) (lo:Nat) (ex:List Nat) (sv:Value) (L:List (List Int)):Prop:=
 Wid w L∧((sv=.slice none 0 0∧L=[])∨∃ kb full,sv=.slice (some ⟨kb,0,none⟩) L.length w∧lo≤kb∧kb∉ex∧h.get kb=some ⟨cel k L.flatten,e,false,full⟩)
section
variable {e:TypeId} {k:IntKind} {w:Nat} {h h':AH} {lo:Nat} {ex:List Nat} {sv:Value} {L:List (List Int)}
theorem WayX.pre (o:WayX e k w h lo ex sv L) (p:h<+:h'):WayX e k w h' lo ex sv L:=by
 obtain⟨hw,o|⟨kb,full,h1,h2,h3,h4⟩⟩:=o
 ·exact⟨hw,.inl o⟩
 ·exact⟨hw,.inr ⟨kb,full,h1,h2,h3,pre_get p h4⟩⟩
theorem WayX.one (o:WayX e k w h lo ex sv L):isOne sv=true:=by
 obtain⟨hw,⟨rfl,_⟩|⟨kb,full,rfl,h2,h3,h4⟩⟩:=o<;>rfl
theorem WayX.cells (o:WayX e k w h lo ex sv L):cellsL sv=[sv]:=by
 obtain⟨hw,⟨rfl,_⟩|⟨kb,full,rfl,h2,h3,h4⟩⟩:=o<;>rfl
theorem WayX.len (o:WayX e k w h lo ex sv L):lenV sv=some (I64 L.length):=by
 obtain⟨hw,⟨rfl,rfl⟩|⟨kb,full,rfl,h2,h3,h4⟩⟩:=o<;>rfl
theorem WayX.put {n:Nat} {b:Blk} (o:WayX e k w h lo ex sv L) (hn:n<lo∨n∈ex):WayX e k w (h.put n b) lo ex sv L:=by
 obtain⟨hw,o|⟨kb,full,h1,h2,h3,h4⟩⟩:=o
 ·exact⟨hw,.inl o⟩
 ·refine⟨hw,.inr ⟨kb,full,h1,h2,h3,?_⟩⟩
  rw[get_put_ne]
  ·exact h4
  ·rintro rfl
   rcases hn with hn|hn
   ·omega
   ·exact h3 hn
theorem WayX.exc {ex':List Nat} (o:WayX e k w h lo ex sv L) (he:∀ m,m∈ex'→m∈ex∨h.length≤m∨m<lo):WayX e k w h lo ex' sv L:=by
 obtain⟨hw,o|⟨kb,full,h1,h2,h3,h4⟩⟩:=o
 ·exact⟨hw,.inl o⟩
 ·refine⟨hw,.inr ⟨kb,full,h1,h2,fun hk=>?_,h4⟩⟩
  have:=get_lt h4
  rcases he _ hk with h|h|h
  ·exact h3 h
  ·omega
  ·omega
theorem WayX.keep (o:WayX e k w h lo ex sv L) (hk:∀ m c f,m∉ex→lo≤m→h.get m=some ⟨c,e,false,f⟩→h'.get m=some ⟨c,e,false,f⟩):WayX e k w h' lo ex sv L:=by
 obtain⟨hw,o|⟨kb,full,h1,h2,h3,h4⟩⟩:=o
 ·exact⟨hw,.inl o⟩
 ·exact⟨hw,.inr ⟨kb,full,h1,h2,h3,hk _ _ _ h3 h2 h4⟩⟩
theorem WayX.hold (o:WayX e k w h lo ex sv L):∃ E:List Nat,(∀ m,m∈E→lo≤m∧m<h.length∧m∉ex)∧∀ h':AH,(∀ m b,m∈E→h.get m=some b→h'.get m=some b)→WayX e k w h' lo ex sv L∧InE k w lo h.length h' sv L:=by
 obtain⟨hw,o|⟨kb,full,h1,h2,h3,h4⟩⟩:=o
 ·exact⟨[],fun m hm=>by simp at hm,fun h' _=>⟨⟨hw,.inl o⟩,.inl o⟩⟩
 ·refine⟨[kb],fun m hm=>?_,fun h' hk=>⟨⟨hw,.inr ⟨kb,full,h1,h2,h3,hk _ _ (by simp) h4⟩⟩,.inr ⟨kb,e,full,⟨h2,get_lt h4⟩,h1,hk _ _ (by simp) h4,hw⟩⟩⟩
  rw[List.mem_singleton] at hm
  subst hm
  exact⟨h2,get_lt h4,h3⟩
theorem WayX.mlo {lo':Nat} (o:WayX e k w h lo ex sv L) (hl:lo'≤lo):WayX e k w h lo' ex sv L:=by
 obtain⟨hw,o|⟨kb,full,h1,h2,h3,h4⟩⟩:=o
 ·exact⟨hw,.inl o⟩
 ·exact⟨hw,.inr ⟨kb,full,h1,by omega,h3,h4⟩⟩
theorem WayX.inE (o:WayX e k w h lo ex sv L):InE k w lo h.length h sv L:=by
 obtain⟨hw,o|⟨kb,full,h1,h2,h3,h4⟩⟩:=o
 ·exact .inl o
 ·exact .inr ⟨kb,e,full,⟨h2,get_lt h4⟩,h1,h4,hw⟩
theorem WayX.app {H:AH} {q:List Int} {e':TypeId} {ro full:Bool} {bytes:Nat} (o:WayX e k w H lo ex sv L) (hq:q.length=w) (hl:((L.length:Int)+1)*bytes≤140737488355328) (hn:(L.length:Int)<1048576) (hlo:lo≤H.length) (hex:∀ m,m∈ex→m<H.length)
  {Q:Value→AH→Prop} (hQ:∀ (sv':Value) (H':AH),H'.length=H.length+2→(∀ h0:AH,h0.length≤lo→h0<+:H→h0<+:H')→(∀ m b,m<lo∨m∈ex→H.get m=some b→H'.get m=some b)→WayX e k w H' H.length ex sv' (L++[q])→Q sv' H') :
  OQ (appV e w bytes sv (.slice (some ⟨H.length,0,none⟩) 1 w) (H.new ⟨cel k q,e',ro,full⟩)) Q:=by
 have hr:(H.new ⟨cel k q,e',ro,full⟩).rdn H.length 0 w=some (cel k q):=by
  rw[rdn_of get_new_same]
  simp only
  rw[if_pos (by rw[cel_len,hq];omega),List.drop_zero,List.take_of_length_le (by rw[cel_len,hq];omega)]
 obtain⟨hw,⟨rfl,rfl⟩|⟨kb,fu,rfl,h2,h3,h4⟩⟩:=o
 ·rw[app_nilW (.inl rfl) hr (by simp only[List.length_nil] at hl;omega),OQ_some]
  refine hQ _ _ (by rw[len_new,len_new]) (fun h0 _ p=>pre_new (pre_new p)) (fun m b hm o=>get_new_any (get_new_any o)) ⟨?_,.inr ⟨_,false,rfl,by rw[len_new];omega,fun hm=>by have:=hex _ hm;rw[len_new] at this;omega,?_⟩⟩
  ·intro r hr
   rw[List.nil_append,List.mem_singleton] at hr
   rw[hr,hq]
  ·rw[get_new_same]
   simp
 ·have hk:(H.new ⟨cel k q,e',ro,full⟩).get kb=some ⟨cel k L.flatten,e,false,fu⟩:=get_new_any h4
  have hkb:=get_lt h4
  rw[app_ownW hk (by rw[cel_len,flat_len hw]) hr ⟨hl,by omega⟩,OQ_some]
  refine hQ _ _ (by rw[len_new,len_kill,len_new]) (fun h0 q p=>pre_new (pre_kill (pre_new p) (by omega))) (fun m b hm o=>?_) ⟨?_,.inr ⟨(H.new ⟨cel k q,e',ro,full⟩).length,false,by simp,by rw[len_new];omega,fun hm=>by have:=hex _ hm;rw[len_new] at this;omega,?_⟩⟩
  ·refine get_new_any ?_
   rw[get_kill_ne]
   ·exact get_new_any o
   ·rintro rfl
    rcases hm with hm|hm
    ·omega
    ·exact h3 hm
  ·intro r hr
   rcases List.mem_append.1 hr with hr|hr
   ·exact hw r hr
   ·rw[List.mem_singleton.1 hr,hq]
  ·rw[get_new_eq (by rw[len_kill])]
   simp[cel_app]
end
def Bls (h:AH) (n:Nat) (bs:List Bool):Prop:=h.get n=some ⟨bs.map Value.bool,4,false,true⟩
section
variable {h h':AH} {n:Nat} {bs:List Bool}
theorem Bls.pre (o:Bls h n bs) (p:h<+:h'):Bls h' n bs:=pre_get p o
theorem Bls.lt (o:Bls h n bs):n<h.length:=get_lt o
theorem Bls.rd {j:Nat} (o:Bls h n bs) (hj:j<bs.length):h.rd1 n j=some (.bool (bs.getD j false)):=by
 rw[rd1_of o]
 simp[List.getD_eq_getElem?_getD,hj]
theorem Bls.put_ne {m:Nat} {b:Blk} (o:Bls h n bs) (e:m≠n):Bls (h.put m b) n bs:=by
 unfold Bls
 rw[get_put_ne e]
 exact o
theorem Bls.wr {j:Nat} {x:Bool} (o:Bls h n bs) (hj:j<bs.length):∃ h',h.wr n j [.bool x]=some h'∧h'=h.put n ⟨(bs.set j x).map Value.bool,4,false,true⟩∧Bls h' n (bs.set j x):=by
 have e:splice (bs.map Value.bool) j [.bool x]=(bs.set j x).map Value.bool:=by
  rw[splice_set (by simpa using hj)]
  simp[List.map_set]
 refine⟨_,?_,rfl,get_put_same o.lt⟩
 rw[wr_of o,if_pos ⟨rfl,by simp only[List.length_map,List.length_singleton];omega⟩,e]
end
theorem Lst.app3 {n:Nat} {l:List Int} {full:Bool} {H:AH} {x:Int} {e':TypeId} {ro fu:Bool} (o:Lst H n l full) (hl:(l.length:Int)≤1048576) {Q:Value→AH→Prop}
  (hQ:∀ H':AH,H'.length=H.length+2→(∀ h0:AH,h0.length≤n→h0<+:H→h0<+:H')→(∀ m b,m≠n→H.get m=some b→H'.get m=some b)→Lst H' (H.length+1) (l++[x]) false→Q (sl (H.length+1) (l++[x]).length) H') :
  OQ (appV 2 1 8 (sl n l.length) (.slice (some ⟨H.length,0,none⟩) 1 1) (H.new ⟨[I64 x],e',ro,fu⟩)) Q:=by
 have hn:(H.new ⟨[I64 x],e',ro,fu⟩).rdn H.length 0 1=some [I64 x]:=by rw[rdn_new_same];rfl
 have hk:(H.new ⟨[I64 x],e',ro,fu⟩).get n=some ⟨l.map (Value.int .i64),2,false,full⟩:=get_new_any o
 have hkb:=o.lt
 unfold sl
 rw[app_own hk (by simp) hn (by omega),OQ_some]
 have:=hQ (((H.new ⟨[I64 x],e',ro,fu⟩).kill n).new ⟨l.map (Value.int .i64)++[I64 x],2,false,false⟩) (by rw[len_new,len_kill,len_new]) (fun h0 q p=>pre_new (pre_kill (pre_new p) q))
  (fun m b hm o=>get_new_any (by rw[get_kill_ne (fun e=>hm e.symm)];exact get_new_any o)) (by unfold Lst;rw[get_new_eq (by rw[len_kill,len_new])];simp)
 unfold sl at this
 rw[len_new]
 rw[List.length_append,List.length_singleton] at this
 exact this
theorem zrep_bools:∀ n,zrep n [.bool false]=(List.replicate n false).map Value.bool
 | 0=>rfl
 | n+1=>by simp[zrep,zrep_bools n,List.replicate_succ]
theorem InP.inP {a b:Nat} {h:AH} {v w:Value} {x:Prg} (o:InP a b h v w x):InP a b h v w x:=o
end Go.Proofs.Ytapafdpnmakekaa.X

set_option linter.unusedVariables false
set_option linter.unusedSimpArgs false
set_option maxRecDepth 20000
set_option maxHeartbeats 4000000
namespace Go.Proofs.Ytapafdpnmakekaa.X
open Go Go.RowKit
open Nat (reduceEqDiff reduceAdd reduceSub reduceLeDiff)
def rpOK (x:Prg) (ns:List Int):Prop:=allIn x.p ns=true∧(ns.length:Int)=x.n
instance {x:Prg} {ns:List Int}:Decidable (rpOK x ns):=by unfold rpOK;infer_instance
def mxI (a c:Int):Int:=if c>a then c else a
def depS (st:List (List Int)) (n:Nat):Nat→List Int
 | 0=>List.replicate n 0
 | i+1=>depS st n i++[1+mxI ((depS st n i).getD (nq (st.getD i []) 0) 0) ((depS st n i).getD (nq (st.getD i []) 1) 0)]
theorem depS_len {st:List (List Int)} {n:Nat}:∀ {i:Nat},(depS st n i).length=n+i
 | 0=>by simp[depS]
 | i+1=>by simp[depS,depS_len (i:=i)];omega
theorem depS_in {st:List (List Int)} {n:Nat}:∀ {i j:Nat},0≤(depS st n i).getD j 0∧(depS st n i).getD j 0≤i
 | 0,j=>by
  simp only[depS,List.getD_eq_getElem?_getD,List.getElem?_replicate]
  split<;>simp
 | i+1,j=>by
  unfold depS
  by_cases h:j<(depS st n i).length
  ·rw[getD_app_l h]
   have:=depS_in (st:=st) (n:=n) (i:=i) (j:=j)
   omega
  ·rw[getD_app_r (by omega)]
   have h1:=depS_in (st:=st) (n:=n) (i:=i) (j:=nq (st.getD i []) 0)
   have h2:=depS_in (st:=st) (n:=n) (i:=i) (j:=nq (st.getD i []) 1)
   by_cases h0:j-(depS st n i).length=0
   ·rw[h0]
    show 0≤1+mxI _ _∧1+mxI _ _≤_
    unfold mxI
    split<;>omega
   ·rw[List.getD_eq_getElem?_getD,List.getElem?_eq_none (by simp;omega)]
    simp
    omega
def depO (out:List (List Int)) (D:List Int):Nat→List Int
 | 0=>[]
 | i+1=>depO out D i++[if (out.getD i []).getD 1 0=0 then 0 else D.getD (nq (out.getD i []) 0) 0]
theorem depO_len {out:List (List Int)} {D:List Int}:∀ {i:Nat},(depO out D i).length=i
 | 0=>rfl
 | i+1=>by simp[depO,depO_len (i:=i)]
def dpR (x:Prg):List Int×Int:=if isPrg x=true then (depO x.out (depS x.st x.n.toNat x.st.length) x.out.length,0) else ([],1)
theorem dpR_small (x:Prg):SmallS (dpR x).1:=by
 unfold dpR SmallS
 split
 ·rename_i h
  have:=(isPrg_facts h).out
  rw[depO_len]
  omega
 ·simp
theorem s_DepthsOf {v w:Value} {x:Prg} {h:AH} {Q:Value→AH→Prop} (hv:PrgR h v w x) (hl:SmallP x)
  (hQ:∀ v' h',h<+:h'→OwnR h h' v' (dpR x).1→Q (.tuple #[v',I64 (dpR x).2]) h'):WF S 65 [prgV x v w] h Q:=by
 refine WF_fn (fn:=c65) rfl rfl ?_
 dsimp only[c65,oO,oM,oS,oG,oK,oE,oL,oF,oX,oN]
 ((try simp (maxSteps:=3000000) (dsimp:=false) (disch:=first|omega|simp only[lnx];omega) only[↓ypre,ypost,↓reduceIte,reduceEqDiff,reduceAdd,reduceSub,reduceLeDiff,zz0,ynew,prgV,hv.1.one,hv.2.one]);try simp only[yback])
 generalize hH1:AH.new h _=H1
 obtain⟨hb1,p1,n1⟩:=new_facts hH1
 ((try simp (maxSteps:=3000000) (dsimp:=false) (disch:=first|omega|simp only[lnx];omega) only[↓ypre,ypost,↓reduceIte,reduceEqDiff,reduceAdd,reduceSub,reduceLeDiff,zz0,ynew,rdn_of hb1]);try simp only[yback])
 refine s_IsPrg (hv.pre p1) hl fun H2 p2=>?_
 have hb2:=pre_get p2 hb1
 unfold dpR at hQ
 cases h1:isPrg x with
 | false=>
  rw[h1,if_neg (by decide)] at hQ
  ((try simp (maxSteps:=3000000) (dsimp:=false) (disch:=first|omega|simp only[lnx];omega) only[↓ypre,ypost,↓reduceIte,reduceEqDiff,reduceAdd,reduceSub,reduceLeDiff,zz0,ynew]);try simp only[yback])
  exact hQ _ _ (p1.trans p2) (.inl ⟨rfl,rfl⟩)
 | true=>
  rw[h1,if_pos rfl] at hQ
  have pf:=isPrg_facts h1
  have fp:=pf.p
  have fn:=pf.n
  have fst:=pf.st
  have fout:=pf.out
  have p12:=p1.trans p2
  obtain⟨N,hN⟩:∃ N:Nat,x.n=N:=⟨x.n.toNat,by omega⟩
  have hNt:x.n.toNat=N:=by omega
  rw[hNt] at hQ
  ((try simp (maxSteps:=3000000) (dsimp:=false) (disch:=first|omega|simp only[lnx];omega) only[↓ypre,ypost,↓reduceIte,reduceEqDiff,reduceAdd,reduceSub,reduceLeDiff,zz0,ynew,rd1_of hb2]);try simp only[yback])
  refine⟨by omega,?_⟩
  rw[hNt,zrep_ints]
  generalize hH3:AH.new H2 _=H3
  obtain⟨hb3,p3,n3⟩:=new_facts hH3
  have lv:Lst H3 H2.length (depS x.st N 0) true:=hb3
  have sl0:(Value.slice (some ⟨H2.length,0,none⟩) N 1)=sl H2.length (depS x.st N 0).length:=by rw[depS_len];rfl
  rw[sl0]
  ((try simp (maxSteps:=3000000) (dsimp:=false) (disch:=first|omega|simp only[lnx];omega) only[↓ypre,ypost,↓reduceIte,reduceEqDiff,reduceAdd,reduceSub,reduceLeDiff,zz0,ynew]);try simp only[yback])
  generalize hH4:AH.new H3 _=H4
  obtain⟨hb4,p4,n4⟩:=new_facts hH4
  have lo:Lst H4 H3.length [] true:=hb4
  have hb4':=pre_get (p3.trans p4) hb2
  refine WC_loop_inv (fun m f K1=>∃ (i:Nat) (kv:Nat) (fu:Bool),m=x.st.length-i∧i≤x.st.length∧f 1=.pointer (some ⟨h.length,0,none⟩)∧f 4=sl kv (depS x.st N i).length∧f 5=sl H3.length 0∧f 6=I64 i∧(H2<+:K1)∧(Lst K1 kv (depS x.st N i) fu)∧(Lst K1 H3.length [] true)∧(H2.length≤kv∧kv≠H3.length)) ?_ (x.st.length-0) _ _ ⟨0,H2.length,true,rfl,by omega,(by first|rfl|simp[upd_apply]),(by first|rfl|simp[upd_apply]),(by first|rfl|simp[upd_apply]),(by first|rfl|simp[upd_apply]),p3.trans p4,lv.pre p4,lo,⟨Nat.le_refl _,by omega⟩⟩
  rintro m f K1 ⟨i,kv,fu,rfl,hi,f1,f4,f5,f6,pp,lv,lo,hk⟩
  have hbK:=pre_get pp hb2
  have ltK:=get_lt hbK
  have hvK:=hv.pre (p12.trans pp)
  have ltv:=lv.lt
  have vl:=depS_len (st:=x.st) (n:=N) (i:=i)
  by_cases hlt:(i:Int)<x.st.length
  ·have hi':i<x.st.length:=by omega
   obtain⟨n,off,hix,hrn⟩:=hvK.1.rdw hi'
   obtain⟨n',off',hix',hrn',hr1⟩:=hvK.1.at hi'
   obtain⟨a,b,d,hq⟩:=all3 (hvK.1.wid hi')
   have r0:=hr1 0 (by omega)
   have r1:=hr1 1 (by omega)
   rw[hq,cel_3] at hrn
   rw[hq] at r0 r1
   simp only[Nat.add_zero,List.getD_cons_zero,List.getD_cons_succ] at r0 r1
   have s3:=pf.st3 hi' hq
   have hA:=depS_in (st:=x.st) (n:=N) (i:=i) (j:=a.toNat)
   have hB:=depS_in (st:=x.st) (n:=N) (i:=i) (j:=b.toNat)
   have ixa:=Lst.ix (n:=kv) (j:=a) (len:=(depS x.st N i).length) (by omega)
   have ixb:=Lst.ix (n:=kv) (j:=b) (len:=(depS x.st N i).length) (by omega)
   have rda:=lv.rd (j:=a.toNat) (by omega)
   have rdb:=lv.rd (j:=b.toNat) (by omega)
   have emx:∀ a c:Int,(if c>a then c else a)=mxI a c:=fun a c=>rfl
   have bmx:0≤mxI ((depS x.st N i).getD a.toNat 0) ((depS x.st N i).getD b.toNat 0)∧mxI ((depS x.st N i).getD a.toNat 0) ((depS x.st N i).getD b.toNat 0)≤900:=by unfold mxI;split<;>omega
   have ev:depS x.st N (i+1)=depS x.st N i++[1+mxI ((depS x.st N i).getD a.toNat 0) ((depS x.st N i).getD b.toNat 0)]:=by
    rw[depS,hq]
    rfl
   ((try simp (maxSteps:=3000000) (dsimp:=false) (disch:=first|omega|simp only[lnx];omega) only[↓ypre,ypost,↓reduceIte,reduceEqDiff,reduceAdd,reduceSub,reduceLeDiff,zz0,ynew,f1,f4,f5,f6,Nat.add_zero,rd1_of hbK,hvK.1.len,decide_eq_true hlt,hix',r0,r1,ixa,ixb,rda,rdb,↓yWX_mmx,mmx_max,emx,wrap64_in]);try simp only[yback])
   refine lv.app (by omega) fun H5 l5 pre5 own5 lst5 lv5=>?_
   ((try simp (maxSteps:=3000000) (dsimp:=false) (disch:=first|omega|simp only[lnx];omega) only[↓ypre,ypost,↓reduceIte,reduceEqDiff,reduceAdd,reduceSub,reduceLeDiff,zz0,ynew,f1,f4,f5,f6,wrap64_in]);try simp only[yback])
   rw[←ev] at lv5
   refine InvQ_go (x.st.length-(i+1)) (by omega) ⟨(i+1),(K1.length+1),false,rfl,by omega,(by first|rfl|exact f1|(simp only[upd_apply];rfl)|(show I64 _=_;congr 1;omega)),(by show sl _ _=_;rw[ev]),(by first|rfl|exact f5|(simp only[upd_apply];rfl)|(show I64 _=_;congr 1;omega)),(by first|rfl|exact f6|(simp only[upd_apply];rfl)|(show I64 _=_;congr 1;omega)),(pre5 _ hk.1 pp),lv5,(lst5 _ _ _ (fun e=>hk.2 e.symm) lo),⟨by have:=pre_len pp;omega,by have:=lo.lt;omega⟩⟩
  have ei:i=x.st.length:=by omega
  subst ei
  ((try simp (maxSteps:=3000000) (dsimp:=false) (disch:=first|omega|simp only[lnx];omega) only[↓ypre,ypost,↓reduceIte,reduceEqDiff,reduceAdd,reduceSub,reduceLeDiff,zz0,ynew,f1,f4,f5,f6,rd1_of hbK,hvK.1.len,hvK.2.len,decide_eq_false hlt]);try simp only[yback])
  have va:∀ j:Nat,0≤(depS x.st N x.st.length).getD j 0∧(depS x.st N x.st.length).getD j 0≤x.st.length:=fun j=>depS_in
  generalize depS x.st N x.st.length=vs at *
  have lo':Lst K1 H3.length (depO x.out vs 0) true:=lo
  refine WC_loop_inv (fun m f K2=>∃ (i:Nat) (ko:Nat) (fo:Bool),m=x.out.length-i∧i≤x.out.length∧f 1=.pointer (some ⟨h.length,0,none⟩)∧f 4=sl kv vs.length∧f 5=sl ko (depO x.out vs i).length∧f 7=I64 i∧(H2<+:K2)∧(Lst K2 kv vs fu)∧(Lst K2 ko (depO x.out vs i) fo)∧(H2.length≤ko∧kv≠ko)) ?_ (x.out.length-0) _ _ ⟨0,H3.length,true,rfl,by omega,(by first|rfl|exact f1|(simp[upd_apply];done)),(by first|rfl|exact f4|(simp[upd_apply];done)),(by first|rfl|exact f5|(simp[upd_apply];done)),(by first|rfl|simp[upd_apply]),pp,lv,lo',⟨by omega,hk.2⟩⟩
  rintro m f K2 ⟨i,ko,fo,rfl,hi,f1,f4,f5,f7,pp,lv,lo,hk⟩
  have hbK:=pre_get pp hb2
  have ltK:=get_lt hbK
  have hvK:=hv.pre (p12.trans pp)
  have ltv:=lv.lt
  have lto:=lo.lt
  have ol:=depO_len (out:=x.out) (D:=vs) (i:=i)
  by_cases hlt:(i:Int)<x.out.length
  ·have hi':i<x.out.length:=by omega
   obtain⟨n,off,hix,hrn⟩:=hvK.2.rdw hi'
   obtain⟨n',off',hix',hrn',hr1⟩:=hvK.2.at hi'
   obtain⟨a,b,hq⟩:=all2 (hvK.2.wid hi')
   have r0:=hr1 0 (by omega)
   have r1:=hr1 1 (by omega)
   rw[hq,cel_2] at hrn
   rw[hq] at r0 r1
   simp only[Nat.add_zero,List.getD_cons_zero,List.getD_cons_succ] at r0 r1
   have s2:=pf.out2 hi' hq
   have ixa:=Lst.ix (n:=kv) (j:=a) (len:=vs.length) (by omega)
   have rda:=lv.rd (j:=a.toNat) (by omega)
   by_cases hb0:b=0
   ·have ev:depO x.out vs (i+1)=depO x.out vs i++[0]:=by
     rw[depO,hq]
     show depO x.out vs i++[if b=0 then 0 else _]=_
     rw[if_pos hb0]
    ((try simp (maxSteps:=3000000) (dsimp:=false) (disch:=first|omega|simp only[lnx];omega) only[↓ypre,ypost,↓reduceIte,reduceEqDiff,reduceAdd,reduceSub,reduceLeDiff,zz0,ynew,f1,f4,f5,f7,Nat.add_zero,rd1_of hbK,hvK.2.len,decide_eq_true hlt,hix',r0,r1,ixa,rda,wrap64_in,decide_eq_true hb0]);try simp only[yback])
    refine lo.app (by omega) fun H5 l5 pre5 own5 lst5 lo5=>?_
    ((try simp (maxSteps:=3000000) (dsimp:=false) (disch:=first|omega|simp only[lnx];omega) only[↓ypre,ypost,↓reduceIte,reduceEqDiff,reduceAdd,reduceSub,reduceLeDiff,zz0,ynew,f1,f4,f5,f7,wrap64_in]);try simp only[yback])
    rw[←ev] at lo5
    refine InvQ_go (x.out.length-(i+1)) (by omega) ⟨(i+1),(K2.length+1),false,rfl,by omega,(by first|rfl|exact f1|(simp only[upd_apply];rfl)|(show I64 _=_;congr 1;omega)),(by first|rfl|exact f4|(simp only[upd_apply];rfl)|(show I64 _=_;congr 1;omega)),(by show sl _ _=_;rw[ev]),(by first|rfl|exact f7|(simp only[upd_apply];rfl)|(show I64 _=_;congr 1;omega)),(pre5 _ hk.1 pp),(lst5 _ _ _ hk.2 lv),lo5,⟨by have:=pre_len pp;omega,by omega⟩⟩
   ·have ev:depO x.out vs (i+1)=depO x.out vs i++[vs.getD a.toNat 0]:=by
     rw[depO,hq]
     show depO x.out vs i++[if b=0 then 0 else vs.getD a.toNat 0]=_
     rw[if_neg hb0]
    ((try simp (maxSteps:=3000000) (dsimp:=false) (disch:=first|omega|simp only[lnx];omega) only[↓ypre,ypost,↓reduceIte,reduceEqDiff,reduceAdd,reduceSub,reduceLeDiff,zz0,ynew,f1,f4,f5,f7,Nat.add_zero,rd1_of hbK,hvK.2.len,decide_eq_true hlt,hix',r0,r1,ixa,rda,wrap64_in,decide_eq_false hb0]);try simp only[yback])
    refine lo.app (by omega) fun H5 l5 pre5 own5 lst5 lo5=>?_
    ((try simp (maxSteps:=3000000) (dsimp:=false) (disch:=first|omega|simp only[lnx];omega) only[↓ypre,ypost,↓reduceIte,reduceEqDiff,reduceAdd,reduceSub,reduceLeDiff,zz0,ynew,f1,f4,f5,f7,wrap64_in]);try simp only[yback])
    rw[←ev] at lo5
    refine InvQ_go (x.out.length-(i+1)) (by omega) ⟨(i+1),(K2.length+1),false,rfl,by omega,(by first|rfl|exact f1|(simp only[upd_apply];rfl)|(show I64 _=_;congr 1;omega)),(by first|rfl|exact f4|(simp only[upd_apply];rfl)|(show I64 _=_;congr 1;omega)),(by show sl _ _=_;rw[ev]),(by first|rfl|exact f7|(simp only[upd_apply];rfl)|(show I64 _=_;congr 1;omega)),(pre5 _ hk.1 pp),(lst5 _ _ _ hk.2 lv),lo5,⟨by have:=pre_len pp;omega,by omega⟩⟩
  have ei:i=x.out.length:=by omega
  subst ei
  ((try simp (maxSteps:=3000000) (dsimp:=false) (disch:=first|omega|simp only[lnx];omega) only[↓ypre,ypost,↓reduceIte,reduceEqDiff,reduceAdd,reduceSub,reduceLeDiff,zz0,ynew,f1,f4,f5,f7,rd1_of hbK,hvK.2.len,decide_eq_false hlt]);try simp only[yback])
  exact hQ _ _ (p12.trans pp) (lo.ownR (by have:=pre_len p12;omega))
theorem i_DepthsOf {v w:Value} {x:Prg} {h:AH} {Q:Value→AH→Prop} (hv:PrgR h v w x) (hl:SmallP x)
  (hQ:∀ v' h',h<+:h'→OwnR h h' v' (dpR x).1→Q (.tuple #[v',I64 (dpR x).2]) h'):WF S 61 [prgV x v w] h Q:=by
 refine WF_fn (fn:=c61) rfl rfl ?_
 dsimp only[c61,oO,oM,oS,oG,oK,oE,oL,oF,oX,oN]
 ((try simp (maxSteps:=3000000) (dsimp:=false) (disch:=first|omega|simp only[lnx];omega) only[↓ypre,ypost,↓reduceIte,reduceEqDiff,reduceAdd,reduceSub,reduceLeDiff,zz0,ynew,prgV,hv.1.one,hv.2.one]);try simp only[yback])
 generalize hH1:AH.new h _=H1
 obtain⟨hb1,p1,n1⟩:=new_facts hH1
 ((try simp (maxSteps:=3000000) (dsimp:=false) (disch:=first|omega|simp only[lnx];omega) only[↓ypre,ypost,↓reduceIte,reduceEqDiff,reduceAdd,reduceSub,reduceLeDiff,zz0,ynew,rdn_of hb1]);try simp only[yback])
 refine i_IsPrg (hv.pre p1) hl fun H2 p2=>?_
 have hb2:=pre_get p2 hb1
 unfold dpR at hQ
 cases h1:isPrg x with
 | false=>
  rw[h1,if_neg (by decide)] at hQ
  ((try simp (maxSteps:=3000000) (dsimp:=false) (disch:=first|omega|simp only[lnx];omega) only[↓ypre,ypost,↓reduceIte,reduceEqDiff,reduceAdd,reduceSub,reduceLeDiff,zz0,ynew]);try simp only[yback])
  exact hQ _ _ (p1.trans p2) (.inl ⟨rfl,rfl⟩)
 | true=>
  rw[h1,if_pos rfl] at hQ
  have pf:=isPrg_facts h1
  have fp:=pf.p
  have fn:=pf.n
  have fst:=pf.st
  have fout:=pf.out
  have p12:=p1.trans p2
  obtain⟨N,hN⟩:∃ N:Nat,x.n=N:=⟨x.n.toNat,by omega⟩
  have hNt:x.n.toNat=N:=by omega
  rw[hNt] at hQ
  ((try simp (maxSteps:=3000000) (dsimp:=false) (disch:=first|omega|simp only[lnx];omega) only[↓ypre,ypost,↓reduceIte,reduceEqDiff,reduceAdd,reduceSub,reduceLeDiff,zz0,ynew,rd1_of hb2]);try simp only[yback])
  refine⟨by omega,?_⟩
  rw[hNt,zrep_ints]
  generalize hH3:AH.new H2 _=H3
  obtain⟨hb3,p3,n3⟩:=new_facts hH3
  have lv:Lst H3 H2.length (depS x.st N 0) true:=hb3
  have sl0:(Value.slice (some ⟨H2.length,0,none⟩) N 1)=sl H2.length (depS x.st N 0).length:=by rw[depS_len];rfl
  rw[sl0]
  ((try simp (maxSteps:=3000000) (dsimp:=false) (disch:=first|omega|simp only[lnx];omega) only[↓ypre,ypost,↓reduceIte,reduceEqDiff,reduceAdd,reduceSub,reduceLeDiff,zz0,ynew,rd1_of (pre_get p3 hb2),hv.1.len]);try simp only[yback])
  refine WC_loop_inv (fun m f K1=>∃ (i:Nat) (kv:Nat) (fu:Bool),m=x.st.length-i∧i≤x.st.length∧f 1=.pointer (some ⟨h.length,0,none⟩)∧f 4=sl kv (depS x.st N i).length∧f 17=v∧f 18=I64 x.st.length∧f 19=I64 i∧(H2<+:K1)∧(Lst K1 kv (depS x.st N i) fu)∧(H2.length≤kv)) ?_ (x.st.length-0) _ _ ⟨0,H2.length,true,rfl,by omega,(by first|rfl|simp[upd_apply]),(by first|rfl|simp[upd_apply]),(by first|rfl|simp[upd_apply]),(by first|rfl|simp[upd_apply]),(by first|rfl|simp[upd_apply]),p3,lv,Nat.le_refl _⟩
  rintro m f K1 ⟨i,kv,fu,rfl,hi,f1,f4,f17,f18,f19,pp,lv,hk⟩
  have hbK:=pre_get pp hb2
  have ltK:=get_lt hbK
  have hvK:=hv.pre (p12.trans pp)
  have ltv:=lv.lt
  have vl:=depS_len (st:=x.st) (n:=N) (i:=i)
  by_cases hlt:(i:Int)<x.st.length
  ·have hi':i<x.st.length:=by omega
   obtain⟨n,off,hix,hrn⟩:=hvK.1.rdw hi'
   obtain⟨n',off',hix',hrn',hr1⟩:=hvK.1.at hi'
   obtain⟨a,b,d,hq⟩:=all3 (hvK.1.wid hi')
   have r0:=hr1 0 (by omega)
   have r1:=hr1 1 (by omega)
   rw[hq,cel_3] at hrn
   rw[hq] at r0 r1
   simp only[Nat.add_zero,List.getD_cons_zero,List.getD_cons_succ] at r0 r1
   have s3:=pf.st3 hi' hq
   have hA:=depS_in (st:=x.st) (n:=N) (i:=i) (j:=a.toNat)
   have hB:=depS_in (st:=x.st) (n:=N) (i:=i) (j:=b.toNat)
   have ixa:=Lst.ix (n:=kv) (j:=a) (len:=(depS x.st N i).length) (by omega)
   have ixb:=Lst.ix (n:=kv) (j:=b) (len:=(depS x.st N i).length) (by omega)
   have rda:=lv.rd (j:=a.toNat) (by omega)
   have rdb:=lv.rd (j:=b.toNat) (by omega)
   have emx:∀ a c:Int,(if c>a then c else a)=mxI a c:=fun a c=>rfl
   have bmx:0≤mxI ((depS x.st N i).getD a.toNat 0) ((depS x.st N i).getD b.toNat 0)∧mxI ((depS x.st N i).getD a.toNat 0) ((depS x.st N i).getD b.toNat 0)≤900:=by unfold mxI;split<;>omega
   have ev:depS x.st N (i+1)=depS x.st N i++[1+mxI ((depS x.st N i).getD a.toNat 0) ((depS x.st N i).getD b.toNat 0)]:=by
    rw[depS,hq]
    rfl
   ((try simp (maxSteps:=3000000) (dsimp:=false) (disch:=first|omega|simp only[lnx];omega) only[↓ypre,ypost,↓reduceIte,reduceEqDiff,reduceAdd,reduceSub,reduceLeDiff,zz0,ynew,f1,f4,f17,f18,f19,Nat.add_zero,rd1_of hbK,hvK.1.len,decide_eq_true hlt,hix,hrn,ixa,ixb,rda,rdb,↓yWX_mmx,mmx_max,emx,wrap64_in]);try simp only[yback])
   generalize hH4:AH.new K1 _=H4
   obtain⟨hb4,p4,n4⟩:=new_facts hH4
   refine (lv.pre p4).app (by omega) fun H5 l5 pre5 own5 lst5 lv5=>?_
   ((try simp (maxSteps:=3000000) (dsimp:=false) (disch:=first|omega|simp only[lnx];omega) only[↓ypre,ypost,↓reduceIte,reduceEqDiff,reduceAdd,reduceSub,reduceLeDiff,zz0,ynew,f1,f4,f17,f18,f19,wrap64_in]);try simp only[yback])
   rw[←ev] at lv5
   refine InvQ_go (x.st.length-(i+1)) (by omega) ⟨(i+1),(H4.length+1),false,rfl,by omega,(by first|rfl|exact f1|(simp only[upd_apply];rfl)|(show I64 _=_;congr 1;omega)),(by show sl _ _=_;rw[ev]),(by first|rfl|exact f17|(simp only[upd_apply];rfl)|(show I64 _=_;congr 1;omega)),(by first|rfl|exact f18|(simp only[upd_apply];rfl)|(show I64 _=_;congr 1;omega)),(by first|rfl|exact f19|(simp only[upd_apply];rfl)|(show I64 _=_;congr 1;omega)),(pre5 _ hk (pp.trans p4)),lv5,(by have:=pre_len pp;omega)⟩
  have ei:i=x.st.length:=by omega
  subst ei
  ((try simp (maxSteps:=3000000) (dsimp:=false) (disch:=first|omega|simp only[lnx];omega) only[↓ypre,ypost,↓reduceIte,reduceEqDiff,reduceAdd,reduceSub,reduceLeDiff,zz0,ynew,f1,f4,f17,f18,f19,rd1_of hbK,hvK.1.len,hvK.2.len,decide_eq_false hlt]);try simp only[yback])
  have va:∀ j:Nat,0≤(depS x.st N x.st.length).getD j 0∧(depS x.st N x.st.length).getD j 0≤x.st.length:=fun j=>depS_in
  generalize depS x.st N x.st.length=vs at *
  generalize hH6:AH.new K1 _=H6
  obtain⟨hb6,p6,n6⟩:=new_facts hH6
  have lo':Lst H6 K1.length (depO x.out vs 0) true:=hb6
  refine WC_loop_inv (fun m f K2=>∃ (i:Nat) (ko:Nat) (fo:Bool),m=x.out.length-i∧i≤x.out.length∧f 1=.pointer (some ⟨h.length,0,none⟩)∧f 4=sl kv vs.length∧f 7=sl ko (depO x.out vs i).length∧f 41=w∧f 42=I64 x.out.length∧f 43=I64 i∧(H2<+:K2)∧(Lst K2 kv vs fu)∧(Lst K2 ko (depO x.out vs i) fo)∧(H2.length≤ko∧kv≠ko)) ?_ (x.out.length-0) _ _ ⟨0,K1.length,true,rfl,by omega,(by first|rfl|exact f1|(simp[upd_apply];done)),(by first|rfl|exact f4|(simp[upd_apply];done)),(by first|rfl|simp[upd_apply]),(by first|rfl|simp[upd_apply]),(by first|rfl|simp[upd_apply]),(by first|rfl|simp[upd_apply]),pp.trans p6,lv.pre p6,lo',⟨by have:=pre_len pp;omega,by omega⟩⟩
  rintro m f K2 ⟨i,ko,fo,rfl,hi,f1,f4,f7,f41,f42,f43,pp,lv,lo,hk⟩
  have hbK:=pre_get pp hb2
  have ltK:=get_lt hbK
  have hvK:=hv.pre (p12.trans pp)
  have ltv:=lv.lt
  have lto:=lo.lt
  have ol:=depO_len (out:=x.out) (D:=vs) (i:=i)
  by_cases hlt:(i:Int)<x.out.length
  ·have hi':i<x.out.length:=by omega
   obtain⟨n,off,hix,hrn⟩:=hvK.2.rdw hi'
   obtain⟨n',off',hix',hrn',hr1⟩:=hvK.2.at hi'
   obtain⟨a,b,hq⟩:=all2 (hvK.2.wid hi')
   have r0:=hr1 0 (by omega)
   have r1:=hr1 1 (by omega)
   rw[hq,cel_2] at hrn
   rw[hq] at r0 r1
   simp only[Nat.add_zero,List.getD_cons_zero,List.getD_cons_succ] at r0 r1
   have s2:=pf.out2 hi' hq
   have ixa:=Lst.ix (n:=kv) (j:=a) (len:=vs.length) (by omega)
   have rda:=lv.rd (j:=a.toNat) (by omega)
   by_cases hb0:b=0
   ·have ev:depO x.out vs (i+1)=depO x.out vs i++[0]:=by
     rw[depO,hq]
     show depO x.out vs i++[if b=0 then 0 else _]=_
     rw[if_pos hb0]
    ((try simp (maxSteps:=3000000) (dsimp:=false) (disch:=first|omega|simp only[lnx];omega) only[↓ypre,ypost,↓reduceIte,reduceEqDiff,reduceAdd,reduceSub,reduceLeDiff,zz0,ynew,f1,f4,f7,f41,f42,f43,Nat.add_zero,rd1_of hbK,hvK.2.len,decide_eq_true hlt,hix,hrn,ixa,rda,wrap64_in,decide_eq_true hb0]);try simp only[yback])
    generalize hH7:AH.new K2 _=H7
    obtain⟨hb7,p7,n7⟩:=new_facts hH7
    refine (lo.pre p7).app (by omega) fun H5 l5 pre5 own5 lst5 lo5=>?_
    ((try simp (maxSteps:=3000000) (dsimp:=false) (disch:=first|omega|simp only[lnx];omega) only[↓ypre,ypost,↓reduceIte,reduceEqDiff,reduceAdd,reduceSub,reduceLeDiff,zz0,ynew,f1,f4,f7,f41,f42,f43,wrap64_in]);try simp only[yback])
    rw[←ev] at lo5
    refine InvQ_go (x.out.length-(i+1)) (by omega) ⟨(i+1),(H7.length+1),false,rfl,by omega,(by first|rfl|exact f1|(simp only[upd_apply];rfl)|(show I64 _=_;congr 1;omega)),(by first|rfl|exact f4|(simp only[upd_apply];rfl)|(show I64 _=_;congr 1;omega)),(by show sl _ _=_;rw[ev]),(by first|rfl|exact f41|(simp only[upd_apply];rfl)|(show I64 _=_;congr 1;omega)),(by first|rfl|exact f42|(simp only[upd_apply];rfl)|(show I64 _=_;congr 1;omega)),(by first|rfl|exact f43|(simp only[upd_apply];rfl)|(show I64 _=_;congr 1;omega)),(pre5 _ hk.1 (pp.trans p7)),(lst5 _ _ _ hk.2 (lv.pre p7)),lo5,⟨by have:=pre_len pp;omega,by omega⟩⟩
   ·have ev:depO x.out vs (i+1)=depO x.out vs i++[vs.getD a.toNat 0]:=by
     rw[depO,hq]
     show depO x.out vs i++[if b=0 then 0 else vs.getD a.toNat 0]=_
     rw[if_neg hb0]
    ((try simp (maxSteps:=3000000) (dsimp:=false) (disch:=first|omega|simp only[lnx];omega) only[↓ypre,ypost,↓reduceIte,reduceEqDiff,reduceAdd,reduceSub,reduceLeDiff,zz0,ynew,f1,f4,f7,f41,f42,f43,Nat.add_zero,rd1_of hbK,hvK.2.len,decide_eq_true hlt,hix,hrn,ixa,rda,wrap64_in,decide_eq_false hb0]);try simp only[yback])
    generalize hH7:AH.new K2 _=H7
    obtain⟨hb7,p7,n7⟩:=new_facts hH7
    refine (lo.pre p7).app (by omega) fun H5 l5 pre5 own5 lst5 lo5=>?_
    ((try simp (maxSteps:=3000000) (dsimp:=false) (disch:=first|omega|simp only[lnx];omega) only[↓ypre,ypost,↓reduceIte,reduceEqDiff,reduceAdd,reduceSub,reduceLeDiff,zz0,ynew,f1,f4,f7,f41,f42,f43,wrap64_in]);try simp only[yback])
    rw[←ev] at lo5
    refine InvQ_go (x.out.length-(i+1)) (by omega) ⟨(i+1),(H7.length+1),false,rfl,by omega,(by first|rfl|exact f1|(simp only[upd_apply];rfl)|(show I64 _=_;congr 1;omega)),(by first|rfl|exact f4|(simp only[upd_apply];rfl)|(show I64 _=_;congr 1;omega)),(by show sl _ _=_;rw[ev]),(by first|rfl|exact f41|(simp only[upd_apply];rfl)|(show I64 _=_;congr 1;omega)),(by first|rfl|exact f42|(simp only[upd_apply];rfl)|(show I64 _=_;congr 1;omega)),(by first|rfl|exact f43|(simp only[upd_apply];rfl)|(show I64 _=_;congr 1;omega)),(pre5 _ hk.1 (pp.trans p7)),(lst5 _ _ _ hk.2 (lv.pre p7)),lo5,⟨by have:=pre_len pp;omega,by omega⟩⟩
  have ei:i=x.out.length:=by omega
  subst ei
  ((try simp (maxSteps:=3000000) (dsimp:=false) (disch:=first|omega|simp only[lnx];omega) only[↓ypre,ypost,↓reduceIte,reduceEqDiff,reduceAdd,reduceSub,reduceLeDiff,zz0,ynew,f1,f4,f7,f41,f42,f43,rd1_of hbK,hvK.2.len,decide_eq_false hlt]);try simp only[yback])
  exact hQ _ _ (p12.trans pp) (lo.ownR (by have:=pre_len p12;omega))
theorem Ints.cell {h:AH} {v:Value} {ns:List Int} (hv:Ints h v ns) {j:Nat} (hj:j<ns.length):∃ n off,(∀ kk:IntKind,ixsV 1 v (.int kk (j:Int))=some (.pointer (some ⟨n,off,none⟩)))∧h.rd1 n off=some (I64 (ns.getD j 0)):=by
 rcases hv with⟨rfl,t,_,rfl⟩|⟨b,off,blk,rfl,h2,h3,h4⟩
 ·simp at hj
 ·refine⟨b,off+j,fun kk=>?_,?_⟩
  ·rw[ixsV_some,if_pos (by omega)]
   simp
  ·rw[rd1_of h2]
   exact h4 j hj
theorem Rows.len {h:AH} {v:Value} {rows:List (List Int)} (hv:Rows h v rows):lenV v=some (I64 rows.length):=by
 obtain⟨cs,h1,h2,h3⟩:=hv
 rw[h1.len,h2]
theorem Rows.row {h:AH} {v:Value} {rows:List (List Int)} (hv:Rows h v rows) {i:Nat} (hi:i<rows.length) :
  ∃ n off x,(∀ kk:IntKind,ixsV 1 v (.int kk (i:Int))=some (.pointer (some ⟨n,off,none⟩)))∧h.rd1 n off=some x∧Ints h x (rows.getD i []):=by
 obtain⟨cs,hc,hl,hr⟩:=hv
 rcases hc with⟨rfl,t,_,rfl⟩|⟨b,off,blk,rfl,h2,h3,h4⟩
 ·simp at hl
  omega
 ·refine⟨b,off+i,cs.getD i undef,fun kk=>?_,?_,hr i hi⟩
  ·rw[ixsV_some,if_pos (by omega)]
   simp
  ·rw[rd1_of h2]
   exact h4 i (by omega)
theorem sl_cells {n l:Nat}:cellsL (sl n l)=[sl n l]:=rfl
theorem sl_one {n l:Nat}:isOne (sl n l)=true:=rfl
theorem TabS.app2 {h0 h2:AH} {nb n:Nat} {full fu fw:Bool} {L:List (Nat×List Int)} {r:List Int} {e:TypeId} (s:TabS h0 h2 nb full L) (hn:h0.length≤n∧n≠nb∧∀ p,p∈L→p.1≠n) (ob:OwnB h2 n (r.map (Value.int .i64)) fw)
  (hl:(L.length:Int)≤1048576) {Q:Value→AH→Prop}
  (hQ:∀ nb' H',TabS h0 H' nb' false (L++[(n,r)])→H'.length=h2.length+2→nb'=h2.length+1→(∀ m c fl,m≠nb→OwnB h2 m c fl→OwnB H' m c fl)→(∀ h9:AH,h9.length≤nb→h9<+:h2→h9<+:H')→Q (sl nb' (L++[(n,r)]).length) H') :
  OQ (appV 27 1 24 (sl nb L.length) (.slice (some ⟨h2.length,0,none⟩) 1 1) (h2.new ⟨[sl n r.length],e,false,fu⟩)) Q:=by
 have hrd:(h2.new ⟨[.slice (some ⟨n,0,none⟩) r.length 1],e,false,fu⟩).rdn h2.length 0 1=some [.slice (some ⟨n,0,none⟩) r.length 1]:=by rw[rdn_new_same];rfl
 have hk:(h2.new ⟨[.slice (some ⟨n,0,none⟩) r.length 1],e,false,fu⟩).get nb=some ⟨L.map rowV,27,false,full⟩:=get_new_any s.g
 have l1:=get_lt s.g
 have key:=s.app (e:=e) (fu:=fu) hn ob hl (Q:=fun v H'=>∃ nb',v=.slice (some ⟨nb',0,none⟩) (L++[(n,r)]).length 1∧TabS h0 H' nb' false (L++[(n,r)])) (fun nb' H' st=>⟨nb',rfl,st⟩)
 unfold sl at hQ ⊢
 rw[app_own hk (by simp) hrd (by omega),OQ_some] at key ⊢
 obtain⟨nb',e1,st⟩:=key
 have e2:nb'=h2.length+1:=by
  simp only[Value.slice.injEq,Option.some.injEq,Addr.mk.injEq] at e1
  rw[←e1.1.1,len_new]
 have:=hQ nb' _ st (by rw[len_new,len_kill,len_new]) e2 (fun m c fl hm o=>(o.new.kill_ne (fun e=>hm e.symm)).new) (fun h9 hh p=>pre_new (pre_kill (pre_new p) hh))
 rw[←e1] at this
 exact this
theorem TabS.cell {h0 h:AH} {nb i j:Nat} {full:Bool} {L:List (Nat×List Int)} {x:Int} {n:Nat} {r:List Int} (s:TabS h0 h nb full L) (hi:i<L.length) (hL:L[i]=(n,r)) (hj:j<r.length) :
  ∃ e fu,h.get n=some ⟨r.map (Value.int .i64),e,false,fu⟩∧TabS h0 (h.put n ⟨(r.set j x).map (Value.int .i64),e,false,fu⟩) nb full (L.set i (n,r.set j x)):=by
 have a:=s.rows _ (List.getElem_mem hi)
 rw[hL] at a
 obtain⟨⟨a1,a2⟩,fu,e,o⟩:=a
 refine⟨e,fu,o,pre_put s.hp a1,s.lo,?_,fun q hq=>?_,?_⟩
 ·rw[get_put_ne a2,s.g]
  congr 2
  rw[List.map_set]
  have:rowV (n,r.set j x)=(L.map rowV)[i]'(by simpa using hi):=by
   rw[List.getElem_map,hL]
   simp[rowV]
  rw[this,List.set_getElem_self]
 ·obtain⟨m,hm,rfl⟩:=List.mem_iff_getElem.1 hq
  have hm':m<L.length:=by simpa using hm
  by_cases hmi:m=i
  ·subst hmi
   rw[List.getElem_set_self]
   exact⟨⟨a1,a2⟩,fu,e,get_put_same (get_lt o)⟩
  ·rw[List.getElem_set_ne (fun q=>hmi q.symm)]
   have b:=s.rows _ (List.getElem_mem hm')
   obtain⟨b1,fq,oq⟩:=b
   refine⟨b1,fq,oq.put_ne ?_⟩
   have hd:=List.pairwise_iff_getElem.1 s.dist
   rcases Nat.lt_or_gt_of_ne hmi with hlt|hgt
   ·have:=hd m i hm' hi hlt
    rw[hL] at this
    exact fun q=>this q.symm
   ·have:=hd i m hi hm' hgt
    rw[hL] at this
    exact this
 ·have e1:(L.set i (n,r.set j x)).map Prod.fst=L.map Prod.fst:=by
   rw[List.map_set]
   have:(n,r.set j x).1=(L.map Prod.fst)[i]'(by simpa using hi):=by rw[List.getElem_map,hL]
   rw[this,List.set_getElem_self]
  have h1:=List.pairwise_map (f:=Prod.fst) (R:=fun a b:Nat=>a≠b) (l:=L)
  have h2:=List.pairwise_map (f:=Prod.fst) (R:=fun a b:Nat=>a≠b) (l:=L.set i (n,r.set j x))
  rw[←h2,e1,h1]
  exact s.dist
def trL (rows:List (List Int)) (w:Nat):List (List Int):=(List.range w).map fun j=>gen rows.length fun i=>(rows.getD i []).getD j 0
theorem trL_len {rows:List (List Int)} {w:Nat}:(trL rows w).length=w:=by simp[trL]
theorem trL_get {rows:List (List Int)} {w j:Nat} (hj:j<w):(trL rows w).getD j []=gen rows.length fun i=>(rows.getD i []).getD j 0:=by
 simp[trL,List.getD_eq_getElem?_getD,List.getElem?_map,List.getElem?_range hj]
theorem i_transposed {v:Value} {rows:List (List Int)} {w:Nat} {h:AH} {Q:Value→AH→Prop} (hv:Rows h v rows) (h0:0<rows.length) (hl:(rows.length:Int)≤1048576) (hr:∀ i,i<rows.length→(rows.getD i []).length=w) (hw:(w:Int)≤1048576)
  (hQ:∀ v' h',h<+:h'→OwnRows h h' v' (trL rows w)→Q v' h'):WF S 208 [v] h Q:=by
 refine WF_fn (fn:=c208) rfl rfl ?_
 dsimp only[c208,oO,oM,oS,oG,oK,oE,oL,oF,oX,oN]
 obtain⟨n0,off0,x0,hix0,hrd0,i0⟩:=hv.row h0
 have hx0:=hix0 .i64
 rw[show ((0:Nat):Int)=0 from rfl] at hx0
 ((try simp (maxSteps:=3000000) (dsimp:=false) (disch:=first|omega|simp only[lnx];omega) only[↓ypre,ypost,↓reduceIte,reduceEqDiff,reduceAdd,reduceSub,reduceLeDiff,zz0,ynew]);try simp only[yback])
 generalize hH1:AH.new h _=H1
 obtain⟨hb1,p1,n1⟩:=new_facts hH1
 have lt0:n0<h.length:=by
  unfold AH.rd1 at hrd0
  obtain⟨b,hb,_⟩:=Option.bind_eq_some_iff.1 hrd0
  exact get_lt hb
 have hrd1:H1.rd1 n0 off0=some x0:=by rw[←hH1,rd1_new_lt lt0];exact hrd0
 ((try simp (maxSteps:=3000000) (dsimp:=false) (disch:=first|omega|simp only[lnx];omega) only[↓ypre,ypost,↓reduceIte,reduceEqDiff,reduceAdd,reduceSub,reduceLeDiff,zz0,ynew,hx0,hrd1,hrd0,i0.len,hr 0 h0]);try simp only[yback])
 refine WC_loop_inv (fun m f K1=>∃ (j:Nat) (nb:Nat) (full:Bool) (L:List (Nat×List Int)),m=w-j∧j≤w∧f 0=v∧f 3=sl nb L.length∧f 12=I64 w∧f 13=I64 j∧(TabS h K1 nb full L)∧(L.map Prod.snd=(trL rows w).take j)) ?_ (w-0) _ _ ⟨0,h.length,true,[],rfl,by omega,(by first|rfl|simp[upd_apply]),(by first|rfl|simp[upd_apply]),(by first|rfl|simp[upd_apply]),(by first|rfl|simp[upd_apply]),⟨p1,Nat.le_refl _,hb1,by simp,by simp⟩,(by simp)⟩
 rintro m f K1 ⟨j,nb,full,L,rfl,hj,f0,f3,f12,f13,st,hL⟩
 have hLl:L.length=j:=by
  have:=congrArg List.length hL
  rw[List.length_map,List.length_take,trL_len] at this
  omega
 have lt:=st.lt
 have lh:=pre_len st.hp
 by_cases hlt:(j:Int)<w
 ·have hj':j<w:=by omega
  ((try simp (maxSteps:=3000000) (dsimp:=false) (disch:=first|omega|simp only[lnx];omega) only[↓ypre,ypost,↓reduceIte,reduceEqDiff,reduceAdd,reduceSub,reduceLeDiff,zz0,ynew,f0,f3,f12,f13,decide_eq_true hlt]);try simp only[yback])
  generalize hH3:AH.new K1 _=H3
  obtain⟨hb3,p3,n3⟩:=new_facts hH3
  have l0:Lst H3 K1.length (gen 0 fun i=>(rows.getD i []).getD j 0) true:=hb3
  ((try simp (maxSteps:=3000000) (dsimp:=false) (disch:=first|omega|simp only[lnx];omega) only[↓ypre,ypost,↓reduceIte,reduceEqDiff,reduceAdd,reduceSub,reduceLeDiff,zz0,ynew,f0,f3,f12,f13,hv.len]);try simp only[yback])
  refine WC_loop_inv (fun m f K2=>∃ (i:Nat) (kb:Nat) (fu:Bool),m=rows.length-i∧i≤rows.length∧f 0=v∧f 3=sl nb L.length∧f 12=I64 w∧f 13=I64 j∧f 4=I64 j∧f 17=v∧f 18=I64 rows.length∧f 19=I64 i∧f 5=sl kb (gen i fun i=>(rows.getD i []).getD j 0).length∧(K1<+:K2)∧(K1.length≤kb)∧(Lst K2 kb (gen i fun i=>(rows.getD i []).getD j 0) fu)) ?_ (rows.length-0) _ _ ⟨0,K1.length,true,rfl,by omega,(by first|rfl|exact f0|(simp[upd_apply];done)),(by first|rfl|exact f3|(simp[upd_apply];done)),(by first|rfl|exact f12|(simp[upd_apply];done)),(by first|rfl|exact f13|(simp[upd_apply];done)),(by first|rfl|simp[upd_apply]),(by first|rfl|simp[upd_apply]),(by first|rfl|simp[upd_apply]),(by first|rfl|simp[upd_apply]),(by first|rfl|simp[upd_apply]),p3,Nat.le_refl _,l0⟩
  rintro m f K2 ⟨i,kb,fu,rfl,hi,f0,f3,f12,f13,f4,f17,f18,f19,f5,q2,kb1,li⟩
  by_cases hlti:(i:Int)<rows.length
  ·have hi':i<rows.length:=by omega
   obtain⟨n,off,x,hix,hrd,ix⟩:=(hv.pre (st.hp.trans q2)).row hi'
   obtain⟨n',off',hix',hrd'⟩:=ix.cell (j:=j) (by rw[hr i hi'];exact hj')
   ((try simp (maxSteps:=3000000) (dsimp:=false) (disch:=first|omega|simp only[lnx];omega) only[↓ypre,ypost,↓reduceIte,reduceEqDiff,reduceAdd,reduceSub,reduceLeDiff,zz0,ynew,f0,f3,f12,f13,f4,f17,f18,f19,f5,decide_eq_true hlti,hix,hrd,hix',hrd']);try simp only[yback])
   refine li.app (by rw[gen_len];omega) fun H5 l5 pre5 own5 lst5 li5=>?_
   ((try simp (maxSteps:=3000000) (dsimp:=false) (disch:=first|omega|simp only[lnx];omega) only[↓ypre,ypost,↓reduceIte,reduceEqDiff,reduceAdd,reduceSub,reduceLeDiff,zz0,ynew,f0,f3,f12,f13,f4,f17,f18,f19,f5,wrap64_in]);try simp only[yback])
   have eg:gen i (fun i=>(rows.getD i []).getD j 0)++[(rows.getD i []).getD j 0]=gen (i+1) fun i=>(rows.getD i []).getD j 0:=gen_succ.symm
   rw[eg] at li5
   refine InvQ_go (rows.length-(i+1)) (by omega) ⟨(i+1),(K2.length+1),false,rfl,by omega,(by first|rfl|exact f0|(simp only[upd_apply];rfl)|(show I64 _=_;congr 1;omega)),(by first|rfl|exact f3|(simp only[upd_apply];rfl)|(show I64 _=_;congr 1;omega)),(by first|rfl|exact f12|(simp only[upd_apply];rfl)|(show I64 _=_;congr 1;omega)),(by first|rfl|exact f13|(simp only[upd_apply];rfl)|(show I64 _=_;congr 1;omega)),(by first|rfl|exact f4|(simp only[upd_apply];rfl)|(show I64 _=_;congr 1;omega)),(by first|rfl|exact f17|(simp only[upd_apply];rfl)|(show I64 _=_;congr 1;omega)),(by first|rfl|exact f18|(simp only[upd_apply];rfl)|(show I64 _=_;congr 1;omega)),(by first|rfl|exact f19|(simp only[upd_apply];rfl)|(show I64 _=_;congr 1;omega)),(by show sl _ _=_;rw[eg]),(pre5 _ kb1 q2),(by have:=pre_len q2;omega),li5⟩
  ·have ei:i=rows.length:=by omega
   subst ei
   ((try simp (maxSteps:=3000000) (dsimp:=false) (disch:=first|omega|simp only[lnx];omega) only[↓ypre,ypost,↓reduceIte,reduceEqDiff,reduceAdd,reduceSub,reduceLeDiff,zz0,ynew,f0,f3,f12,f13,f4,f17,f18,f19,f5,decide_eq_false hlti,sl_cells,sl_one]);try simp only[yback])
   refine (st.pre q2).app2 ⟨by omega,by omega,fun q hq=>by have:=lt.2 q hq;omega⟩ li.own (by omega) fun nb' H' st' l' e' own' pre'=>?_
   ((try simp (maxSteps:=3000000) (dsimp:=false) (disch:=first|omega|simp only[lnx];omega) only[↓ypre,ypost,↓reduceIte,reduceEqDiff,reduceAdd,reduceSub,reduceLeDiff,zz0,ynew,f0,f3,f12,f13,f4,f17,f18,f19,f5,wrap64_in]);try simp only[yback])
   refine InvQ_go (w-(j+1)) (by omega) ⟨(j+1),nb',false,(L++[(kb,gen rows.length fun i=>(rows.getD i []).getD j 0)]),rfl,by omega,(by first|rfl|exact f0|(simp only[upd_apply];rfl)|(show I64 _=_;congr 1;omega)),(by first|rfl|exact f3|(simp only[upd_apply];rfl)|(show I64 _=_;congr 1;omega)),(by first|rfl|exact f12|(simp only[upd_apply];rfl)|(show I64 _=_;congr 1;omega)),(by first|rfl|exact f13|(simp only[upd_apply];rfl)|(show I64 _=_;congr 1;omega)),st',?_⟩
   rw[List.map_append,hL,take_next (d:=[]) (by rw[trL_len];exact hj'),trL_get hj']
   rfl
 ·have ej:j=w:=by omega
  subst ej
  rw[List.take_of_length_le (by rw[trL_len];exact Nat.le_refl _)] at hL
  ((try simp (maxSteps:=3000000) (dsimp:=false) (disch:=first|omega|simp only[lnx];omega) only[↓ypre,ypost,↓reduceIte,reduceEqDiff,reduceAdd,reduceSub,reduceLeDiff,zz0,ynew,f0,f3,f12,f13,decide_eq_false hlt]);try simp only[yback])
  have o:=st.own
  rw[hL] at o
  exact hQ _ _ st.hp o
theorem WayX.app2 {e:TypeId} {k:IntKind} {w:Nat} {lo:Nat} {sv:Value} {L:List (List Int)} {H:AH} {q:List Int} {e':TypeId} {ro full:Bool} {bytes:Nat} (o:WayX e k w H lo [] sv L) (hq:q.length=w) (hl:((L.length:Int)+1)*bytes≤140737488355328) (hn:(L.length:Int)<1048576) (hlo:lo≤H.length)
  {Q:Value→AH→Prop} (hQ:∀ (sv':Value) (H':AH),H'.length=H.length+2→(∀ h0:AH,h0.length≤lo→h0<+:H→h0<+:H')→(∀ m b,b.e≠e→H.get m=some b→H'.get m=some b)→WayX e k w H' H.length [] sv' (L++[q])→Q sv' H') :
  OQ (appV e w bytes sv (.slice (some ⟨H.length,0,none⟩) 1 w) (H.new ⟨cel k q,e',ro,full⟩)) Q:=by
 have hr:(H.new ⟨cel k q,e',ro,full⟩).rdn H.length 0 w=some (cel k q):=by
  rw[rdn_of get_new_same]
  simp only
  rw[if_pos (by rw[cel_len,hq];omega),List.drop_zero,List.take_of_length_le (by rw[cel_len,hq];omega)]
 obtain⟨hw,⟨rfl,rfl⟩|⟨kb,fu,rfl,h2,h3,h4⟩⟩:=o
 ·rw[app_nilW (.inl rfl) hr (by simp only[List.length_nil] at hl;omega),OQ_some]
  refine hQ _ _ (by rw[len_new,len_new]) (fun h0 _ p=>pre_new (pre_new p)) (fun m b _ o=>get_new_any (get_new_any o)) ⟨?_,.inr ⟨_,false,rfl,by rw[len_new];omega,by simp,?_⟩⟩
  ·intro r hr
   rw[List.nil_append,List.mem_singleton] at hr
   rw[hr,hq]
  ·rw[get_new_same]
   simp
 ·have hk:(H.new ⟨cel k q,e',ro,full⟩).get kb=some ⟨cel k L.flatten,e,false,fu⟩:=get_new_any h4
  have hkb:=get_lt h4
  rw[app_ownW hk (by rw[cel_len,flat_len hw]) hr ⟨hl,by omega⟩,OQ_some]
  refine hQ _ _ (by rw[len_new,len_kill,len_new]) (fun h0 q p=>pre_new (pre_kill (pre_new p) (by omega))) (fun m b hm o=>?_) ⟨?_,.inr ⟨(H.new ⟨cel k q,e',ro,full⟩).length,false,by simp,by rw[len_new];omega,by simp,?_⟩⟩
  ·refine get_new_any ?_
   rw[get_kill_ne]
   ·exact get_new_any o
   ·rintro rfl
    rw[h4] at o
    cases o
    exact hm rfl
  ·intro r hr
   rcases List.mem_append.1 hr with hr|hr
   ·exact hw r hr
   ·rw[List.mem_singleton.1 hr,hq]
  ·rw[get_new_eq (by rw[len_kill])]
   simp[cel_app]
theorem WayX.types {e e':TypeId} {k:IntKind} {w:Nat} {h h':AH} {lo:Nat} {sv:Value} {L:List (List Int)} (o:WayX e k w h lo [] sv L) (he:e≠e') (hk:∀ m b,b.e≠e'→h.get m=some b→h'.get m=some b):WayX e k w h' lo [] sv L:=
 o.keep fun m c f _ _ g=>hk _ _ he g
theorem WayX.put_ty {e:TypeId} {k:IntKind} {w:Nat} {h:AH} {lo n:Nat} {ex:List Nat} {sv:Value} {L:List (List Int)} {b b':Blk} (o:WayX e k w h lo ex sv L) (g:h.get n=some b') (hb:b'.e≠e):WayX e k w (h.put n b) lo ex sv L:=
 o.keep fun m c f _ _ g'=>by
  rw[get_put_ne]
  ·exact g'
  ·rintro rfl
   rw[g'] at g
   cases g
   exact hb rfl
structure Stay (lo:Nat) (h h':AH):Prop where
 len:h.length≤h'.length
 pre:∀ h0:AH,h0.length≤lo→h0<+:h→h0<+:h'
 get:∀ m b,h.get m=some b→b.e≠181→b.e≠183→h'.get m=some b
theorem Stay.refl {lo:Nat} {h:AH}:Stay lo h h:=⟨Nat.le_refl _,fun _ _ p=>p,fun _ _ g _ _=>g⟩
theorem Stay.of {lo:Nat} {h h':AH} (p:h<+:h'):Stay lo h h':=⟨pre_len p,fun _ _ q=>q.trans p,fun _ _ g _ _=>pre_get p g⟩
theorem Stay.trans {lo:Nat} {h h1 h2:AH} (a:Stay lo h h1) (b:Stay lo h1 h2):Stay lo h h2:=
 ⟨Nat.le_trans a.len b.len,fun h0 hl p=>b.pre h0 hl (a.pre h0 hl p),fun m c g h1 h2=>b.get m c (a.get m c g h1 h2) h1 h2⟩
theorem Stay.put {lo:Nat} {h h':AH} {n:Nat} {b:Blk} (a:Stay lo h h') (hn:h.length≤n) (hlo:lo≤n):Stay lo h (h'.put n b):=
 ⟨by rw[len_put];exact a.len,fun h0 hl p=>pre_put (a.pre h0 hl p) (by omega),fun m c g h1 h2=>by
  have:=get_lt g
  rw[get_put_ne (by omega)]
  exact a.get m c g h1 h2⟩
def invP (p n:Int):Int:=if (1*n).tmod p=1 then 1 else if (2*n).tmod p=1 then 2 else if (3*n).tmod p=1 then 3 else 4
theorem invP_is {p n:Int} (hp:isP p=true) (hn:1≤n∧n<p):IsInv p n (invP p n):=by
 obtain⟨w,h1,h2,h3,h4⟩:=inv_is hp hn
 have hp5:=isP_in hp
 have hc:w=1∨w=2∨w=3∨w=4:=by omega
 have e:invP p n=w:=by
  unfold invP
  rcases hc with rfl|rfl|rfl|rfl
  ·rw[if_pos h3]
  ·rw[if_neg (h4 1 (by omega) (by omega)),if_pos h3]
  ·rw[if_neg (h4 1 (by omega) (by omega)),if_neg (h4 2 (by omega) (by omega)),if_pos h3]
  ·rw[if_neg (h4 1 (by omega) (by omega)),if_neg (h4 2 (by omega) (by omega)),if_neg (h4 3 (by omega) (by omega))]
 rw[e]
 exact⟨h1,h2,h3,h4⟩
structure RS where
 st:List (List Int)
 val:Int
 fac:Int
def rowSt (p n:Int) (st0:List (List Int)) (row:List Int):Nat→RS
 | 0=>⟨st0,-1,0⟩
 | k+1=>
  let s:=rowSt p n st0 row k
  if row.getD k 0=0 then s else if s.val<0 then ⟨s.st,k,row.getD k 0⟩
  else ⟨s.st++[[s.val,k,(row.getD k 0*invP p s.fac).tmod p]],n+((s.st.length:Int)+1)-1,s.fac⟩
def rowP (x:Prg) (row:List Int):Prg:=
 let s:=rowSt x.p x.n x.st row row.length
 ⟨x.p,x.n,s.st,x.out++[[max s.val 0,s.fac]]⟩
theorem rowSt_facts {p n:Int} {st0:List (List Int)} {row:List Int} (hp:isP p=true) (hr:allIn p row=true) (hn:1≤n∧n≤30):∀ {k:Nat},k≤row.length →
  st0.length≤(rowSt p n st0 row k).st.length∧(rowSt p n st0 row k).st.length≤st0.length+k∧(-1≤(rowSt p n st0 row k).val∧(rowSt p n st0 row k).val≤n+st0.length+k)∧(0≤(rowSt p n st0 row k).fac∧(rowSt p n st0 row k).fac<p) ∧
  ((rowSt p n st0 row k).val<0↔(rowSt p n st0 row k).fac=0)
 | 0,_=>by
  have:=isP_in hp
  unfold rowSt
  dsimp only
  refine⟨by omega,by omega,⟨by omega,by omega⟩,⟨by omega,by omega⟩,by omega⟩
 | k+1,hk=>by
  have ih:=rowSt_facts (st0:=st0) hp hr hn (k:=k) (by omega)
  have hrk:=allIn_iff.1 hr k (by omega)
  unfold rowSt
  simp only
  split
  ·omega
  ·rename_i h0
   split
   ·simp only
    omega
   ·simp only[List.length_append,List.length_singleton]
    omega
theorem rowP_out {x:Prg} {row:List Int}:(rowP x row).out.length=x.out.length+1:=by simp[rowP]
def finP (x:Prg) (rows:List (List Int)):Nat→Prg
 | 0=>x
 | i+1=>rowP (finP x rows i) (rows.getD i [])
theorem finP_facts {x:Prg} {rows:List (List Int)} {N:Nat} (hp:isP x.p=true) (hr:∀ i,i<rows.length→allIn x.p (rows.getD i [])=true∧(rows.getD i []).length≤N) (hn:1≤x.n∧x.n≤30):∀ {i:Nat},i≤rows.length →
  (finP x rows i).p=x.p∧(finP x rows i).n=x.n∧(finP x rows i).st.length≤x.st.length+i*N∧(finP x rows i).out.length=x.out.length+i
 | 0,_=>⟨rfl,rfl,by simp[finP],rfl⟩
 | i+1,hi=>by
  obtain⟨h1,h2,h3,h4⟩:=finP_facts hp hr hn (i:=i) (by omega)
  have f:=rowSt_facts (st0:=(finP x rows i).st) (p:=(finP x rows i).p) (n:=(finP x rows i).n) (row:=rows.getD i []) (by rw[h1];exact hp) (by rw[h1];exact (hr i (by omega)).1) (by rw[h2];exact hn) (k:=(rows.getD i []).length) (Nat.le_refl _)
  have hN:=(hr i (by omega)).2
  unfold finP
  refine⟨h1,h2,?_,by rw[rowP_out,h4];omega⟩
  show (rowSt (finP x rows i).p (finP x rows i).n (finP x rows i).st (rows.getD i []) (rows.getD i []).length).st.length≤_
  rw[Nat.add_mul,Nat.one_mul]
  omega
structure Way2 (h:AH) (lo:Nat) (v w:Value) (x:Prg):Prop where
 st:WayX (181) .i64 3 h lo [] v x.st
 out:WayX (183) .i64 2 h lo [] w x.out
theorem Way2.pre {h h':AH} {lo:Nat} {v w:Value} {x:Prg} (o:Way2 h lo v w x) (p:h<+:h'):Way2 h' lo v w x:=⟨o.st.pre p,o.out.pre p⟩
theorem Way2.rd {h:AH} {lo:Nat} {v w:Value} {x:Prg} (o:Way2 h lo v w x):PrgR h v w x:=⟨o.st.inE.rd,o.out.inE.rd⟩
theorem Way2.mlo {h:AH} {lo lo':Nat} {v w:Value} {x:Prg} (o:Way2 h lo v w x) (hl:lo'≤lo):Way2 h lo' v w x:=⟨o.st.mlo hl,o.out.mlo hl⟩
def OrdB (v w:Value):Prop:=∀ a b la lb wa wb,v=.slice (some ⟨a,0,none⟩) la wa→w=.slice (some ⟨b,0,none⟩) lb wb→a<b
theorem WayX.ord {e e':TypeId} {k:IntKind} {w w':Nat} {h h':AH} {lo:Nat} {ex ex':List Nat} {sv so:Value} {L L':List (List Int)} (o:WayX e k w h lo ex sv L) (o':WayX e' k w' h' h.length ex' so L'):OrdB sv so:=by
 intro a b la lb wa wb e1 e2
 obtain⟨hw,⟨h1,_⟩|⟨kb,full,h1,h2,h3,h4⟩⟩:=o
 ·rw[e1] at h1
  cases h1
 ·obtain⟨hw',⟨h1',_⟩|⟨kb',full',h1',h2',h3',h4'⟩⟩:=o'
  ·rw[e2] at h1'
   cases h1'
  ·rw[e1] at h1
   rw[e2] at h1'
   simp only[Value.slice.injEq,Option.some.injEq,Addr.mk.injEq,and_true] at h1 h1'
   have:=get_lt h4
   omega
theorem Way2.inP {h:AH} {lo:Nat} {v w:Value} {x:Prg} (o:Way2 h lo v w x) (ho:OrdB v w) (hlo:lo≤h.length):InP lo h.length h v w x:=by
 obtain⟨⟨hw,h1⟩,⟨hw',h1'⟩⟩:=o
 rcases h1' with h1'|⟨kb',full',e1',h2',h3',h4'⟩
 ·refine⟨h.length,hlo,Nat.le_refl _,?_,.inl h1'⟩
  rcases h1 with h1|⟨kb,full,e1,h2,h3,h4⟩
  ·exact .inl h1
  ·exact .inr ⟨kb,_,full,⟨h2,get_lt h4⟩,e1,h4,hw⟩
 ·refine⟨kb',h2',by have:=get_lt h4';omega,?_,.inr ⟨kb',_,full',⟨Nat.le_refl _,get_lt h4'⟩,e1',h4',hw'⟩⟩
  rcases h1 with h1|⟨kb,full,e1,h2,h3,h4⟩
  ·exact .inl h1
  ·exact .inr ⟨kb,_,full,⟨h2,ho _ _ _ _ _ _ e1 e1'⟩,e1,h4,hw⟩
theorem s_l07Row {v w u:Value} {x:Prg} {row:List Int} {lo:Nat} {h:AH} {Q:Value→AH→Prop} (hp:isP x.p=true) (hn:1≤x.n∧x.n≤30) (o:Way2 h lo v w x) (hlo:lo≤h.length)
  (hu:∀ h',Stay lo h h'→Ints h' u row) (hr:allIn x.p row=true) (hl:row.length≤10000) (hs:x.st.length≤500000) (ho:x.out.length≤500000)
  (hQ:∀ v' w' h',Stay lo h h'→Way2 h' lo v' w' (rowP x row)→OrdB v' w'→Q (prgV (rowP x row) v' w') h'):WF S 297 [prgV x v w,u] h Q:=by
 refine WF_fn (fn:=c297) rfl rfl ?_
 dsimp only[c297,oO,oM,oS,oG,oK,oE,oL,oF,oX,oN]
 have hp5:=isP_in hp
 ((try simp (maxSteps:=3000000) (dsimp:=false) (disch:=first|omega|simp only[lnx];omega) only[↓ypre,ypost,↓reduceIte,reduceEqDiff,reduceAdd,reduceSub,reduceLeDiff,zz0,ynew,prgV,o.st.one,o.out.one]);try simp only[yback])
 generalize hH1:AH.new h _=H1
 obtain⟨hb1,p1,n1⟩:=new_facts hH1
 generalize hH2:AH.new H1 _=H2
 obtain⟨hb2,p2,n2⟩:=new_facts hH2
 have p12:=p1.trans p2
 refine WC_loop_inv (fun m f K1=>∃ (k:Nat) (sv:Value),m=row.length-k∧k≤row.length∧f 1=u∧f 2=.pointer (some ⟨h.length,0,none⟩)∧f 4=.pointer (some ⟨H1.length,0,none⟩)∧f 5=I64 (rowSt x.p x.n x.st row k).val∧f 6=I64 (rowSt x.p x.n x.st row k).fac∧f 7=I64 k∧(Stay lo h K1)∧(WayX (181) .i64 3 K1 lo [] sv (rowSt x.p x.n x.st row k).st)∧(WayX (183) .i64 2 K1 lo [] w x.out)∧(K1.get h.length=some ⟨[I64 x.p,I64 x.n,sv,w],70,false,true⟩)∧(K1.get H1.length=some ⟨[I64 0,I64 0,.slice none 0 0,.slice none 0 0],70,false,true⟩)) ?_ (row.length-0) _ _ ⟨0,v,rfl,by omega,(by first|rfl|simp[upd_apply]),(by first|rfl|simp[upd_apply]),(by first|rfl|simp[upd_apply]),(by first|rfl|simp[upd_apply]),(by first|rfl|simp[upd_apply]),(by first|rfl|simp[upd_apply]),Stay.of p12,o.st.pre p12,o.out.pre p12,pre_get p2 hb1,hb2⟩
 rintro m f K1 ⟨k,sv,rfl,hk,f1,f2,f4,f5,f6,f7,sy,wv,ww,g1,g2⟩
 have hu':=hu _ sy
 have lt1:=get_lt g1
 have lt2:=get_lt g2
 have sl:=sy.len
 have fc:=rowSt_facts (st0:=x.st) hp hr hn (k:=k) hk
 by_cases hlt:(k:Int)<row.length
 ·have hk':k<row.length:=by omega
  have hrk:=allIn_iff.1 hr k hk'
  have fc':=rowSt_facts (st0:=x.st) hp hr hn (k:=k+1) hk'
  have er:rowSt x.p x.n x.st row (k+1)=if row.getD k 0=0 then rowSt x.p x.n x.st row k else if (rowSt x.p x.n x.st row k).val<0 then ⟨(rowSt x.p x.n x.st row k).st,k,row.getD k 0⟩
   else ⟨(rowSt x.p x.n x.st row k).st++[[(rowSt x.p x.n x.st row k).val,k,(row.getD k 0*invP x.p (rowSt x.p x.n x.st row k).fac).tmod x.p]],x.n+(((rowSt x.p x.n x.st row k).st.length:Int)+1)-1,(rowSt x.p x.n x.st row k).fac⟩:=rfl
  generalize hS:rowSt x.p x.n x.st row k=S0 at *
  have ix:=hu'.ix (k:=.i64) (j:=k) (by omega) (by omega)
  have rd:=hu'.rd (j:=k) (by omega) (by omega)
  by_cases h0:row.getD k 0=0
  ·rw[if_pos h0] at er
   ((try simp (maxSteps:=3000000) (dsimp:=false) (disch:=first|omega|simp only[lnx];omega) only[↓ypre,ypost,↓reduceIte,reduceEqDiff,reduceAdd,reduceSub,reduceLeDiff,zz0,ynew,f1,f2,f4,f5,f6,f7,hu'.len,decide_eq_true hlt,ix,rd,nth,Int.toNat_natCast,h0,decide_eq_true (show (0:Int)=0 from rfl),wrap64_in]);try simp only[yback])
   refine InvQ_go (row.length-(k+1)) (by omega) ⟨(k+1),sv,rfl,by omega,(by first|rfl|exact f1|(simp only[upd_apply];rfl)|(show I64 _=_;congr 1;omega)),(by first|rfl|exact f2|(simp only[upd_apply];rfl)|(show I64 _=_;congr 1;omega)),(by first|rfl|exact f4|(simp only[upd_apply];rfl)|(show I64 _=_;congr 1;omega)),(by rw[er];exact f5),(by rw[er];exact f6),(by first|rfl|exact f7|(simp only[upd_apply];rfl)|(show I64 _=_;congr 1;omega)),sy,(by rw[er];exact wv),ww,g1,g2⟩
  rw[if_neg h0] at er
  by_cases h1:S0.val<0
  ·rw[if_pos h1] at er
   ((try simp (maxSteps:=3000000) (dsimp:=false) (disch:=first|omega|simp only[lnx];omega) only[↓ypre,ypost,↓reduceIte,reduceEqDiff,reduceAdd,reduceSub,reduceLeDiff,zz0,ynew,f1,f2,f4,f5,f6,f7,hu'.len,decide_eq_true hlt,ix,rd,nth,Int.toNat_natCast,decide_eq_false h0,decide_eq_true h1,wrap64_in]);try simp only[yback])
   refine InvQ_go (row.length-(k+1)) (by omega) ⟨(k+1),sv,rfl,by omega,(by first|rfl|exact f1|(simp only[upd_apply];rfl)|(show I64 _=_;congr 1;omega)),(by first|rfl|exact f2|(simp only[upd_apply];rfl)|(show I64 _=_;congr 1;omega)),(by first|rfl|exact f4|(simp only[upd_apply];rfl)|(show I64 _=_;congr 1;omega)),(by rw[er];rfl),(by rw[er];rfl),(by first|rfl|exact f7|(simp only[upd_apply];rfl)|(show I64 _=_;congr 1;omega)),sy,(by rw[er];exact wv),ww,g1,g2⟩
  rw[if_neg h1] at er
  have iv:=invP_is hp (n:=S0.fac) (by omega)
  ((try simp (maxSteps:=3000000) (dsimp:=false) (disch:=first|omega|simp only[lnx];omega) only[↓ypre,ypost,↓reduceIte,reduceEqDiff,reduceAdd,reduceSub,reduceLeDiff,zz0,ynew,f1,f2,f4,f5,f6,f7,hu'.len,decide_eq_true hlt,ix,rd,nth,Int.toNat_natCast,decide_eq_false h0,decide_eq_false h1,rd1_of g1,wrap64_in]);try simp only[yback])
  refine s_l01Inverse hp5 (by omega) iv ?_
  have b:=mul_in (A:=5) (B:=5) (a:=row.getD k 0) (b:=invP x.p S0.fac) (by omega) (by have:=iv.1;have:=iv.2.1;omega)
  ((try simp (maxSteps:=3000000) (dsimp:=false) (disch:=first|omega|simp only[lnx];omega) only[↓ypre,ypost,↓reduceIte,reduceEqDiff,reduceAdd,reduceSub,reduceLeDiff,zz0,ynew,f1,f2,f4,f5,f6,f7,rd1_of g1,wrap64_in,bin_rem]);try simp only[yback])
  refine⟨List.prefix_refl _,?_⟩
  refine wv.app2 (q:=[S0.val,k,(row.getD k 0*invP x.p S0.fac).tmod x.p]) rfl (by omega) (by omega) (by omega) fun sv' H' l' pre' keep' wv0=>?_
  have wv':=wv0.mlo (lo':=lo) (by omega)
  have g1':=keep' _ _ (by simp) g1
  have g2':=keep' _ _ (by simp) g2
  have ww':=ww.types (by simp) keep'
  have lt1':=get_lt g1'
  have wl:=wv'.len
  rw[List.length_append,List.length_singleton] at wl
  have l1':h.length<(H'.put h.length ⟨[I64 x.p,I64 x.n,sv',w],70,false,true⟩).length:=by rw[len_put];exact lt1'
  ((try simp (maxSteps:=3000000) (dsimp:=false) (disch:=first|omega|simp only[lnx];omega) only[↓ypre,ypost,↓reduceIte,reduceEqDiff,reduceAdd,reduceSub,reduceLeDiff,zz0,ynew,f1,f2,f4,f5,f6,f7,wv'.one,wv'.cells,wr_of g1',rd1_of (get_put_same lt1'),wl,wrap64_in]);try simp only[yback])
  refine InvQ_go (row.length-(k+1)) (by omega) ⟨(k+1),sv',rfl,by omega,(by first|rfl|exact f1|(simp only[upd_apply];rfl)|(show I64 _=_;congr 1;omega)),(by first|rfl|exact f2|(simp only[upd_apply];rfl)|(show I64 _=_;congr 1;omega)),(by first|rfl|exact f4|(simp only[upd_apply];rfl)|(show I64 _=_;congr 1;omega)),(by rw[er];show I64 _=I64 _;congr 1),(by rw[er];exact f6),(by first|rfl|exact f7|(simp only[upd_apply];rfl)|(show I64 _=_;congr 1;omega)),((sy.trans ⟨by omega,pre',fun m' b' g q _=>keep' m' b' q g⟩).put (Nat.le_refl _) hlo),(by rw[er];exact wv'.put_ty g1' (by simp)),(ww'.put_ty g1' (by simp)),(get_put_same lt1'),(by rw[get_put_ne (by omega)];exact g2')⟩
 have ek:k=row.length:=by omega
 subst ek
 generalize hS:rowSt x.p x.n x.st row row.length=S0 at *
 have emx:(if (0:Int)>S0.val then (0:Int) else S0.val)=max S0.val 0:=by split<;>omega
 ((try simp (maxSteps:=3000000) (dsimp:=false) (disch:=first|omega|simp only[lnx];omega) only[↓ypre,ypost,↓reduceIte,reduceEqDiff,reduceAdd,reduceSub,reduceLeDiff,zz0,ynew,f1,f2,f4,f5,f6,f7,hu'.len,decide_eq_false hlt,rd1_of g1,↓yWX_mmx,mmx_max,emx,wrap64_in]);try simp only[yback])
 refine ww.app2 (q:=[max S0.val 0,S0.fac]) rfl (by omega) (by omega) (by omega) fun so' H' l' pre' keep' ww0'=>?_
 have ww':=ww0'.mlo (lo':=lo) (by omega)
 have g1':=keep' _ _ (by simp) g1
 have g2':=keep' _ _ (by simp) g2
 have wv':=wv.types (by simp) keep'
 have lt1':=get_lt g1'
 have lt2':=get_lt g2'
 have g2'':(H'.put h.length ⟨[I64 x.p,I64 x.n,sv,so'],70,false,true⟩).get H1.length=some ⟨[I64 0,I64 0,.slice none 0 0,.slice none 0 0],70,false,true⟩:=by rw[get_put_ne (by omega)];exact g2'
 ((try simp (maxSteps:=3000000) (dsimp:=false) (disch:=first|omega|simp only[lnx];omega) only[↓ypre,ypost,↓reduceIte,reduceEqDiff,reduceAdd,reduceSub,reduceLeDiff,zz0,ynew,f1,f2,f4,f5,f6,f7,ww'.one,ww'.cells,wv'.one,wv'.cells,wr_of g1',rdn_of (get_put_same lt1'),wr_of g2'']);try simp only[yback])
 refine hQ sv so' _ (((sy.trans ⟨by omega,pre',fun m' b' g _ q=>keep' m' b' q g⟩).put (Nat.le_refl _) hlo).put (by omega) (by omega)) ⟨?_,?_⟩ (wv.ord ww0')
 ·show WayX _ _ _ _ _ _ _ (rowSt x.p x.n x.st row row.length).st
  rw[hS]
  exact (wv'.put_ty g1' (by simp)).put_ty g2'' (by simp)
 ·show WayX _ _ _ _ _ _ _ (x.out++[[max (rowSt x.p x.n x.st row row.length).val 0,(rowSt x.p x.n x.st row row.length).fac]])
  rw[hS]
  exact (ww'.put_ty g1' (by simp)).put_ty g2'' (by simp)
def RowsS (lo:Nat) (h:AH) (u:Value) (rows:List (List Int)):Prop:=
 ∃ cs,(∀ h',Stay lo h h'→Vals h' u cs)∧cs.length=rows.length∧∀ i,i<rows.length→∀ h',Stay lo h h'→Ints h' (cs.getD i undef) (rows.getD i [])
theorem Rows.stays {h:AH} {u:Value} {rows:List (List Int)} (o:Rows h u rows):RowsS h.length h u rows:=by
 obtain⟨cs,h1,h2,h3⟩:=o
 exact⟨cs,fun h' s=>h1.pre (s.pre _ (Nat.le_refl _) (List.prefix_refl _)),h2,fun i hi h' s=>(h3 i hi).pre (s.pre _ (Nat.le_refl _) (List.prefix_refl _))⟩
theorem RowsS.trans {lo:Nat} {h h1:AH} {u:Value} {rows:List (List Int)} (o:RowsS lo h u rows) (s:Stay lo h h1):RowsS lo h1 u rows:=by
 obtain⟨cs,c1,c2,c3⟩:=o
 exact⟨cs,fun h' t=>c1 _ (s.trans t),c2,fun i hi h' t=>c3 i hi _ (s.trans t)⟩
theorem i_finished {v w u:Value} {x:Prg} {rows:List (List Int)} {lo:Nat} {h:AH} {Q:Value→AH→Prop} (hp:isP x.p=true) (hn:1≤x.n∧x.n≤30) (o:Way2 h lo v w x) (hlo:lo≤h.length)
  (hu:RowsS lo h u rows) (hr:∀ i,i<rows.length→allIn x.p (rows.getD i [])=true∧(rows.getD i []).length≤10000) (hl:rows.length≤30) (hs:x.st.length≤100000) (ho:x.out.length≤100000)
  (hQ:∀ v' w' h',Stay lo h h'→Way2 h' lo v' w' (finP x rows rows.length)→(0<rows.length→OrdB v' w')→Q (prgV (finP x rows rows.length) v' w') h'):WF S 206 [prgV x v w,u] h Q:=by
 refine WF_fn (fn:=c206) rfl rfl ?_
 dsimp only[c206,oO,oM,oS,oG,oK,oE,oL,oF,oX,oN]
 have hp5:=isP_in hp
 obtain⟨cs,hv,hcl,hri⟩:=hu
 ((try simp (maxSteps:=3000000) (dsimp:=false) (disch:=first|omega|simp only[lnx];omega) only[↓ypre,ypost,↓reduceIte,reduceEqDiff,reduceAdd,reduceSub,reduceLeDiff,zz0,ynew,prgV,o.st.one,o.out.one]);try simp only[yback])
 generalize hH1:AH.new h _=H1
 obtain⟨hb1,p1,n1⟩:=new_facts hH1
 generalize hH2:AH.new H1 _=H2
 obtain⟨hb2,p2,n2⟩:=new_facts hH2
 have p12:=p1.trans p2
 ((try simp (maxSteps:=3000000) (dsimp:=false) (disch:=first|omega|simp only[lnx];omega) only[↓ypre,ypost,↓reduceIte,reduceEqDiff,reduceAdd,reduceSub,reduceLeDiff,zz0,ynew,(hv _ (Stay.of p12)).len,hcl]);try simp only[yback])
 refine WC_loop_inv (fun m f K1=>∃ (i:Nat) (sv:Value) (so:Value),m=rows.length-i∧i≤rows.length∧f 2=.pointer (some ⟨h.length,0,none⟩)∧f 4=.pointer (some ⟨H1.length,0,none⟩)∧f 10=u∧f 11=I64 rows.length∧f 12=I64 i∧(Stay lo h K1)∧(Way2 K1 lo sv so (finP x rows i))∧(0<i→OrdB sv so)∧(K1.get h.length=some ⟨[I64 x.p,I64 x.n,sv,so],70,false,true⟩)∧(K1.get H1.length=some ⟨[I64 0,I64 0,.slice none 0 0,.slice none 0 0],70,false,true⟩)) ?_ (rows.length-0) _ _ ⟨0,v,w,rfl,by omega,(by first|rfl|simp[upd_apply]),(by first|rfl|simp[upd_apply]),(by first|rfl|simp[upd_apply]),(by first|rfl|simp[upd_apply]),(by first|rfl|simp[upd_apply]),Stay.of p12,o.pre p12,(by omega),pre_get p2 hb1,hb2⟩
 rintro m f K1 ⟨i,sv,so,rfl,hi,f2,f4,f10,f11,f12,sy,o2,ob,g1,g2⟩
 obtain⟨ep,en,sle,ole⟩:=finP_facts hp hr hn (i:=i) hi
 have lt1:=get_lt g1
 have lt2:=get_lt g2
 have sl:=sy.len
 by_cases hlt:(i:Int)<rows.length
 ·have hi':i<rows.length:=by omega
  obtain⟨hra,hrl⟩:=hr i hi'
  have ix:=(hv _ sy).ix (k:=.i64) (j:=i) (by omega) (by omega)
  have rd:=(hv _ sy).rd (j:=i) (by omega) (by omega)
  have hri:=hri i hi'
  rw[Int.toNat_natCast] at rd
  generalize cs.getD i undef=rv at *
  have fin1:finP x rows (i+1)=rowP (finP x rows i) (rows.getD i []):=rfl
  generalize hX:finP x rows i=X at *
  generalize hR:rows.getD i []=row at *
  ((try simp (maxSteps:=3000000) (dsimp:=false) (disch:=first|omega|simp only[lnx];omega) only[↓ypre,ypost,↓reduceIte,reduceEqDiff,reduceAdd,reduceSub,reduceLeDiff,zz0,ynew,f2,f4,f10,f11,f12,decide_eq_true hlt,ix,rd,nth,Int.toNat_natCast,wrap64_in]);try simp only[yback])
  generalize hHB:AH.new K1 _=HB
  obtain⟨hbB,pB,nB⟩:=new_facts hHB
  have syB:=sy.trans (Stay.of pB)
  ((try simp (maxSteps:=3000000) (dsimp:=false) (disch:=first|omega|simp only[lnx];omega) only[↓ypre,ypost,↓reduceIte,reduceEqDiff,reduceAdd,reduceSub,reduceLeDiff,zz0,ynew,f2,f4,f10,f11,f12,(hri _ syB).len]);try simp only[yback])
  have wwB:WayX (183) .i64 2 HB lo [K1.length] so X.out:=(o2.out.exc (fun m' hm=>by simp at hm;omega)).pre pB
  refine WC_loop_inv (fun m f K2=>∃ (k:Nat) (sv:Value),m=row.length-k∧k≤row.length∧f 2=.pointer (some ⟨h.length,0,none⟩)∧f 4=.pointer (some ⟨H1.length,0,none⟩)∧f 7=.pointer (some ⟨K1.length,0,none⟩)∧f 10=u∧f 11=I64 rows.length∧f 12=I64 i∧f 17=rv∧f 18=I64 row.length∧f 19=I64 k∧(Stay lo h K2)∧(WayX (181) .i64 3 K2 lo [] sv (rowSt X.p X.n X.st row k).st)∧(WayX (183) .i64 2 K2 lo [K1.length] so X.out)∧(K2.get h.length=some ⟨[I64 x.p,I64 x.n,sv,so],70,false,true⟩)∧(K2.get H1.length=some ⟨[I64 0,I64 0,.slice none 0 0,.slice none 0 0],70,false,true⟩)∧(K2.get K1.length=some ⟨[I64 (max (rowSt X.p X.n X.st row k).val 0),I64 (rowSt X.p X.n X.st row k).fac],183,false,true⟩)) ?_ (row.length-0) _ _ ⟨0,sv,rfl,by omega,(by first|rfl|exact f2|(simp[upd_apply];done)),(by first|rfl|exact f4|(simp[upd_apply];done)),(by first|rfl|simp[upd_apply]),(by first|rfl|exact f10|(simp[upd_apply];done)),(by first|rfl|exact f11|(simp[upd_apply];done)),(by first|rfl|exact f12|(simp[upd_apply];done)),(by first|rfl|simp[upd_apply]),(by first|rfl|simp[upd_apply]),(by first|rfl|simp[upd_apply]),syB,o2.st.pre pB,wwB,pre_get pB g1,pre_get pB g2,hbB⟩
  rintro m f K2 ⟨k,sv,rfl,hk,f2,f4,f7,f10,f11,f12,f17,f18,f19,sy,wv,ww,g1,g2,g7⟩
  have hu':=hri _ sy
  have lt1':=get_lt g1
  have lt2':=get_lt g2
  have lt7:=get_lt g7
  have sl2:=sy.len
  have fc:=rowSt_facts (p:=X.p) (n:=X.n) (st0:=X.st) (by rw[ep];exact hp) (by rw[ep];exact hra) (by rw[en];exact hn) (k:=k) hk
  by_cases hltk:(k:Int)<row.length
  ·have hk':k<row.length:=by omega
   have hrk:=allIn_iff.1 hra k hk'
   have fc':=rowSt_facts (p:=X.p) (n:=X.n) (st0:=X.st) (by rw[ep];exact hp) (by rw[ep];exact hra) (by rw[en];exact hn) (k:=k+1) hk'
   have er:rowSt X.p X.n X.st row (k+1)=if row.getD k 0=0 then rowSt X.p X.n X.st row k else if (rowSt X.p X.n X.st row k).val<0 then ⟨(rowSt X.p X.n X.st row k).st,k,row.getD k 0⟩
    else ⟨(rowSt X.p X.n X.st row k).st++[[(rowSt X.p X.n X.st row k).val,k,(row.getD k 0*invP X.p (rowSt X.p X.n X.st row k).fac).tmod X.p]],X.n+(((rowSt X.p X.n X.st row k).st.length:Int)+1)-1,(rowSt X.p X.n X.st row k).fac⟩:=rfl
   generalize hS:rowSt X.p X.n X.st row k=S0 at *
   have ix:=hu'.ix (k:=.i64) (j:=k) (by omega) (by omega)
   have rd:=hu'.rd (j:=k) (by omega) (by omega)
   by_cases h0:row.getD k 0=0
   ·rw[if_pos h0] at er
    ((try simp (maxSteps:=3000000) (dsimp:=false) (disch:=first|omega|simp only[lnx];omega) only[↓ypre,ypost,↓reduceIte,reduceEqDiff,reduceAdd,reduceSub,reduceLeDiff,zz0,ynew,f2,f4,f7,f10,f11,f12,f17,f18,f19,decide_eq_true hltk,ix,rd,nth,Int.toNat_natCast,h0,decide_eq_true (show (0:Int)=0 from rfl),wrap64_in]);try simp only[yback])
    refine InvQ_go (row.length-(k+1)) (by omega) ⟨(k+1),sv,rfl,by omega,(by first|rfl|exact f2|(simp only[upd_apply];rfl)|(show I64 _=_;congr 1;omega)),(by first|rfl|exact f4|(simp only[upd_apply];rfl)|(show I64 _=_;congr 1;omega)),(by first|rfl|exact f7|(simp only[upd_apply];rfl)|(show I64 _=_;congr 1;omega)),(by first|rfl|exact f10|(simp only[upd_apply];rfl)|(show I64 _=_;congr 1;omega)),(by first|rfl|exact f11|(simp only[upd_apply];rfl)|(show I64 _=_;congr 1;omega)),(by first|rfl|exact f12|(simp only[upd_apply];rfl)|(show I64 _=_;congr 1;omega)),(by first|rfl|exact f17|(simp only[upd_apply];rfl)|(show I64 _=_;congr 1;omega)),(by first|rfl|exact f18|(simp only[upd_apply];rfl)|(show I64 _=_;congr 1;omega)),(by first|rfl|exact f19|(simp only[upd_apply];rfl)|(show I64 _=_;congr 1;omega)),sy,(by rw[er];exact wv),ww,g1,g2,(by rw[er];exact g7)⟩
   rw[if_neg h0] at er
   by_cases h1:S0.val<0
   ·rw[if_pos h1] at er
    have f0:S0.fac=0:=fc.2.2.2.2.1 h1
    ((try simp (maxSteps:=3000000) (dsimp:=false) (disch:=first|omega|simp only[lnx];omega) only[↓ypre,ypost,↓reduceIte,reduceEqDiff,reduceAdd,reduceSub,reduceLeDiff,zz0,ynew,f2,f4,f7,f10,f11,f12,f17,f18,f19,decide_eq_true hltk,ix,rd,nth,Int.toNat_natCast,decide_eq_false h0,rd1_of g7,f0,decide_eq_true (show (0:Int)=0 from rfl),wr_of g7,wrap64_in]);try simp only[yback])
    refine InvQ_go (row.length-(k+1)) (by omega) ⟨(k+1),sv,rfl,by omega,(by first|rfl|exact f2|(simp only[upd_apply];rfl)|(show I64 _=_;congr 1;omega)),(by first|rfl|exact f4|(simp only[upd_apply];rfl)|(show I64 _=_;congr 1;omega)),(by first|rfl|exact f7|(simp only[upd_apply];rfl)|(show I64 _=_;congr 1;omega)),(by first|rfl|exact f10|(simp only[upd_apply];rfl)|(show I64 _=_;congr 1;omega)),(by first|rfl|exact f11|(simp only[upd_apply];rfl)|(show I64 _=_;congr 1;omega)),(by first|rfl|exact f12|(simp only[upd_apply];rfl)|(show I64 _=_;congr 1;omega)),(by first|rfl|exact f17|(simp only[upd_apply];rfl)|(show I64 _=_;congr 1;omega)),(by first|rfl|exact f18|(simp only[upd_apply];rfl)|(show I64 _=_;congr 1;omega)),(by first|rfl|exact f19|(simp only[upd_apply];rfl)|(show I64 _=_;congr 1;omega)),(sy.put (by omega) (by omega)),(by rw[er];exact wv.put_ty g7 (by simp)),(ww.put (.inr (by simp))),(by rw[get_put_ne (by omega)];exact g1),(by rw[get_put_ne (by omega)];exact g2),?_⟩
    rw[get_put_same lt7,er]
    show _=some (⟨[I64 (max (k:Int) 0),_],_,_,_⟩:Blk)
    rw[show max (k:Int) 0=k by omega]
   rw[if_neg h1] at er
   have f0:S0.fac≠0:=fun e=>h1 (fc.2.2.2.2.2 e)
   have mv:max S0.val 0=S0.val:=by omega
   have iv:=invP_is hp (n:=S0.fac) (by omega)
   ((try simp (maxSteps:=3000000) (dsimp:=false) (disch:=first|omega|simp only[lnx];omega) only[↓ypre,ypost,↓reduceIte,reduceEqDiff,reduceAdd,reduceSub,reduceLeDiff,zz0,ynew,f2,f4,f7,f10,f11,f12,f17,f18,f19,decide_eq_true hltk,ix,rd,nth,Int.toNat_natCast,decide_eq_false h0,rd1_of g7,decide_eq_false f0,rd1_of g1,mv,wrap64_in]);try simp only[yback])
   refine i_inverse hp5 (by omega) iv ?_
   have b:=mul_in (A:=5) (B:=5) (a:=row.getD k 0) (b:=invP x.p S0.fac) (by omega) (by have:=iv.1;have:=iv.2.1;omega)
   ((try simp (maxSteps:=3000000) (dsimp:=false) (disch:=first|omega|simp only[lnx];omega) only[↓ypre,ypost,↓reduceIte,reduceEqDiff,reduceAdd,reduceSub,reduceLeDiff,zz0,ynew,f2,f4,f7,f10,f11,f12,f17,f18,f19,rd1_of g1,wrap64_in,bin_rem]);try simp only[yback])
   refine⟨List.prefix_refl _,?_⟩
   refine wv.app2 (q:=[S0.val,k,(row.getD k 0*invP x.p S0.fac).tmod x.p]) rfl (by omega) (by omega) (by omega) fun sv' H' l' pre' keep' wv0=>?_
   have wv':=wv0.mlo (lo':=lo) (by omega)
   have g1':=keep' _ _ (by simp) g1
   have g2':=keep' _ _ (by simp) g2
   have g7':=keep' _ _ (by simp) g7
   have ww':WayX (183) .i64 2 H' lo [K1.length] so X.out:=ww.keep fun m' c' f' _ _ g=>keep' _ _ (by simp) g
   have lt1'':=get_lt g1'
   have lt7'':=get_lt g7'
   have wl:=wv'.len
   rw[List.length_append,List.length_singleton] at wl
   have g7'':(H'.put h.length ⟨[I64 x.p,I64 x.n,sv',so],70,false,true⟩).get K1.length=some ⟨[I64 (max S0.val 0),I64 S0.fac],183,false,true⟩:=by rw[get_put_ne (by omega)];exact g7'
   ((try simp (maxSteps:=3000000) (dsimp:=false) (disch:=first|omega|simp only[lnx];omega) only[↓ypre,ypost,↓reduceIte,reduceEqDiff,reduceAdd,reduceSub,reduceLeDiff,zz0,ynew,f2,f4,f7,f10,f11,f12,f17,f18,f19,wv'.one,wv'.cells,wr_of g1',rd1_of (get_put_same lt1''),wl,wr_of g7'',wrap64_in]);try simp only[yback])
   have lt7p:K1.length<(H'.put h.length ⟨[I64 x.p,I64 x.n,sv',so],70,false,true⟩).length:=by rw[len_put];exact lt7''
   have er':rowSt X.p X.n X.st row (k+1)=⟨S0.st++[[S0.val,k,(row.getD k 0*invP x.p S0.fac).tmod x.p]],x.n+((S0.st.length:Int)+1)-1,S0.fac⟩:=by
    rw[er,ep,en]
   refine InvQ_go (row.length-(k+1)) (by omega) ⟨(k+1),sv',rfl,by omega,(by first|rfl|exact f2|(simp only[upd_apply];rfl)|(show I64 _=_;congr 1;omega)),(by first|rfl|exact f4|(simp only[upd_apply];rfl)|(show I64 _=_;congr 1;omega)),(by first|rfl|exact f7|(simp only[upd_apply];rfl)|(show I64 _=_;congr 1;omega)),(by first|rfl|exact f10|(simp only[upd_apply];rfl)|(show I64 _=_;congr 1;omega)),(by first|rfl|exact f11|(simp only[upd_apply];rfl)|(show I64 _=_;congr 1;omega)),(by first|rfl|exact f12|(simp only[upd_apply];rfl)|(show I64 _=_;congr 1;omega)),(by first|rfl|exact f17|(simp only[upd_apply];rfl)|(show I64 _=_;congr 1;omega)),(by first|rfl|exact f18|(simp only[upd_apply];rfl)|(show I64 _=_;congr 1;omega)),(by first|rfl|exact f19|(simp only[upd_apply];rfl)|(show I64 _=_;congr 1;omega)),(((sy.trans ⟨by omega,pre',fun m' b' g q _=>keep' m' b' q g⟩).put (Nat.le_refl _) hlo).put (by omega) (by omega)),(by rw[er'];exact (wv'.put_ty g1' (by simp)).put_ty g7'' (by simp)),((ww'.put_ty g1' (by simp)).put (.inr (by simp))),(by rw[get_put_ne (by omega),get_put_same lt1'']),(by rw[get_put_ne (by omega),get_put_ne (by omega)];exact g2'),?_⟩
   rw[get_put_same lt7p,er']
   show _=some (⟨[I64 (max (x.n+((S0.st.length:Int)+1)-1) 0),_],_,_,_⟩:Blk)
   rw[show max (x.n+((S0.st.length:Int)+1)-1) 0=x.n+((S0.st.length:Int)+1)-1 by omega]
   rfl
  have ek:k=row.length:=by omega
  subst ek
  generalize hS:rowSt X.p X.n X.st row row.length=S0 at *
  ((try simp (maxSteps:=3000000) (dsimp:=false) (disch:=first|omega|simp only[lnx];omega) only[↓ypre,ypost,↓reduceIte,reduceEqDiff,reduceAdd,reduceSub,reduceLeDiff,zz0,ynew,f2,f4,f7,f10,f11,f12,f17,f18,f19,decide_eq_false hltk,rd1_of g1,rdn_of g7]);try simp only[yback])
  have ww0:WayX (183) .i64 2 K2 lo [] so X.out:=ww.exc (by simp)
  refine ww0.app2 (q:=[max S0.val 0,S0.fac]) rfl (by omega) (by omega) (by omega) fun so' H' l' pre' keep' ww0'=>?_
  have ww':=ww0'.mlo (lo':=lo) (by omega)
  have g1':=keep' _ _ (by simp) g1
  have g2':=keep' _ _ (by simp) g2
  have wv':=wv.types (by decide) keep'
  have lt1'':=get_lt g1'
  ((try simp (maxSteps:=3000000) (dsimp:=false) (disch:=first|omega|simp only[lnx];omega) only[↓ypre,ypost,↓reduceIte,reduceEqDiff,reduceAdd,reduceSub,reduceLeDiff,zz0,ynew,f2,f4,f7,f10,f11,f12,f17,f18,f19,ww'.one,ww'.cells,wr_of g1',wrap64_in]);try simp only[yback])
  refine InvQ_go (rows.length-(i+1)) (by omega) ⟨(i+1),sv,so',rfl,by omega,(by first|rfl|exact f2|(simp only[upd_apply];rfl)|(show I64 _=_;congr 1;omega)),(by first|rfl|exact f4|(simp only[upd_apply];rfl)|(show I64 _=_;congr 1;omega)),(by first|rfl|exact f10|(simp only[upd_apply];rfl)|(show I64 _=_;congr 1;omega)),(by first|rfl|exact f11|(simp only[upd_apply];rfl)|(show I64 _=_;congr 1;omega)),(by first|rfl|exact f12|(simp only[upd_apply];rfl)|(show I64 _=_;congr 1;omega)),((sy.trans ⟨by omega,pre',fun m' b' g _ q=>keep' m' b' q g⟩).put (Nat.le_refl _) hlo),?_,(fun _=>wv.ord ww0'),(get_put_same lt1''),(by rw[get_put_ne (by omega)];exact g2')⟩
  rw[fin1]
  refine⟨?_,?_⟩
  ·show WayX _ _ _ _ _ _ _ (rowSt X.p X.n X.st row row.length).st
   rw[hS]
   exact wv'.put_ty g1' (by simp)
  ·show WayX _ _ _ _ _ _ _ (X.out++[[max (rowSt X.p X.n X.st row row.length).val 0,(rowSt X.p X.n X.st row row.length).fac]])
   rw[hS]
   exact ww'.put_ty g1' (by simp)
 have ei:i=rows.length:=by omega
 subst ei
 ((try simp (maxSteps:=3000000) (dsimp:=false) (disch:=first|omega|simp only[lnx];omega) only[↓ypre,ypost,↓reduceIte,reduceEqDiff,reduceAdd,reduceSub,reduceLeDiff,zz0,ynew,f2,f4,f10,f11,f12,decide_eq_false hlt,rdn_of g1,wr_of g2,o2.st.one,o2.st.cells,o2.out.one,o2.out.cells]);try simp only[yback])
 have:=hQ sv so _ (sy.put (b:=⟨[I64 x.p,I64 x.n,sv,so],70,false,true⟩) (show h.length≤H1.length by omega) (by omega)) ⟨o2.st.put_ty g2 (by simp),o2.out.put_ty g2 (by simp)⟩ ob
 unfold prgV at this
 rw[ep,en] at this
 exact this
end Go.Proofs.Ytapafdpnmakekaa.X
