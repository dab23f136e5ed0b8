/- Texts of one claim, put together by merge.py: XT7, XT8, XT9, XU1, XD3, XS6, XS7, XS16, XS17, XS19, XD4, XD5, XD6, XD7, XD8, XQ1, XR1, XQ2, XF34, XF35, XR2, XF11, XF12, XF13, XF14, XF15, XQ3, XD9, XDA, XDB, XDC, XDF. -/
import Derived.Test.YtapafdpnmakekaaTO9
import Derived.Test.YtapafdpnmakekaaTO8
set_option linter.unusedVariables false
set_option linter.unusedSimpArgs false
set_option maxRecDepth 20000
set_option maxHeartbeats 4000000
namespace Go.Proofs.Ytapafdpnmakekaa.X
open Go Go.RowKit
theorem flat_cell {w c x:Nat} {L:List (List Int)} {v:Int} (hw:Wid w L) (hc:c<L.length) (hx:x<w):L.flatten.set (c*w+x) v=(L.set c ((L.getD c []).set x v)).flatten:=by
 have hq:(L.getD c []).length=w:=by
  rw[List.getD_eq_getElem?_getD,List.getElem?_eq_getElem hc]
  exact hw _ (List.getElem_mem hc)
 have e0:=flat_set (r:=L.getD c []) hw hc
 have e1:=flat_set (r:=(L.getD c []).set x v) hw hc
 have es:L.set c (L.getD c [])=L:=by
  rw[List.getD_eq_getElem?_getD,List.getElem?_eq_getElem hc]
  exact List.set_getElem_self hc
 rw[es] at e0
 have hrow:=mul_row (w:=w) hc
 have hl:(L.flatten.take (c*w)).length=c*w:=by
  rw[List.length_take,flat_len hw]
  omega
 rw[←e1]
 conv=>lhs;rw[←e0]
 rw[List.set_append_left _ _ (by rw[List.length_append,hl,hq];omega),List.set_append_right _ _ (by rw[hl];omega),hl,show c*w+x-c*w=x by omega]
structure ColT (h:AH) (nb:Nat) (full:Bool) (L:List (List Int)):Prop where
 g:h.get nb=some ⟨cel .u32 L.flatten,246,false,full⟩
 wid:Wid 5 L
def tv (nb len:Nat):Value:=.slice (some ⟨nb,0,none⟩) len 5
section
variable {h h':AH} {nb:Nat} {full:Bool} {L:List (List Int)}
theorem ColT.pre (o:ColT h nb full L) (p:h<+:h'):ColT h' nb full L:=⟨pre_get p o.g,o.wid⟩
theorem ColT.put_ne {m:Nat} {b:Blk} (o:ColT h nb full L) (e:m≠nb):ColT (h.put m b) nb full L:=⟨by rw[get_put_ne e];exact o.g,o.wid⟩
theorem ColT.get (o:ColT h nb full L) (hk:h'.get nb=h.get nb):ColT h' nb full L:=⟨by rw[hk];exact o.g,o.wid⟩
theorem ColT.ix {c len:Nat} {kk:IntKind} (hc:c<len):ixsV 5 (tv nb len) (.int kk (c:Int))=some (.pointer (some ⟨nb,c*5,none⟩)):=by
 unfold tv
 rw[ixsV_some,if_pos (by omega)]
 simp
theorem ColT.row (o:ColT h nb full L) {c:Nat} (hc:c<L.length):(L.getD c []).length=5:=by
 rw[List.getD_eq_getElem?_getD,List.getElem?_eq_getElem hc]
 exact o.wid _ (List.getElem_mem hc)
theorem ColT.rd (o:ColT h nb full L) {c x:Nat} (hc:c<L.length) (hx:x<5):h.rd1 nb (c*5+x)=some (.int .u32 ((L.getD c []).getD x 0)):=by
 rw[rd1_of o.g]
 have hf:=flat_len o.wid
 have hrow:=mul_row (w:=5) hc
 show (cel .u32 L.flatten)[c*5+x]?=_
 rw[cel_get (by omega)]
 have hg:=flat_get o.wid hc
 rw[←hg]
 rw[List.getD_eq_getElem?_getD,List.getD_eq_getElem?_getD,List.getElem?_take,if_pos hx,List.getElem?_drop]
theorem ColT.rdn (o:ColT h nb full L) {c:Nat} (hc:c<L.length):h.rdn nb (c*5) 5=some (cel .u32 (L.getD c [])):=by
 rw[rdn_of o.g]
 have hf:=flat_len o.wid
 have hrow:=mul_row (w:=5) hc
 show (if c*5+5≤(cel .u32 L.flatten).length then some (((cel .u32 L.flatten).drop (c*5)).take 5) else none)=_
 rw[if_pos (by rw[cel_len];omega),cel_drop,cel_take,flat_get o.wid hc]
theorem ColT.wr (o:ColT h nb full L) {c x:Nat} {v:Int} (hc:c<L.length) (hx:x<5) :
  ∃ h',h.wr nb (c*5+x) [.int .u32 v]=some h'∧h'=h.put nb ⟨cel .u32 (L.set c ((L.getD c []).set x v)).flatten,246,false,full⟩∧ColT h' nb full (L.set c ((L.getD c []).set x v)):=by
 have hf:=flat_len o.wid
 have hrow:=mul_row (w:=5) hc
 refine⟨_,?_,rfl,get_put_same (get_lt o.g),?_⟩
 ·rw[wr_of o.g,if_pos ⟨rfl,by simp only[cel_len,List.length_singleton];omega⟩,cel_set (by omega),flat_cell o.wid hc hx]
 ·intro q hq
  rcases List.mem_or_eq_of_mem_set hq with hq|rfl
  ·exact o.wid q hq
  ·rw[List.length_set]
   exact o.row hc
theorem ColT.els (o:ColT h nb full L):Els .u32 5 h (tv nb L.length) L:=by
 refine .inr ⟨nb,0,_,rfl,o.g,fun i hi=>?_⟩
 have:=mul_row (w:=5) hi
 simp only[cel_len,flat_len o.wid,Nat.zero_add,cel_drop,cel_take,flat_get o.wid hi]
 exact⟨by omega,trivial⟩
theorem ColT.way (o:ColT h nb full L) {lo:Nat} {ex:List Nat} (h1:lo≤nb) (h2:nb∉ex):WayX (246) .u32 5 h lo ex (tv nb L.length) L:=⟨o.wid,.inr ⟨nb,full,rfl,h1,h2,o.g⟩⟩
theorem WayX.colT {lo:Nat} {ex:List Nat} {sv:Value} (o:WayX (246) .u32 5 h lo ex sv L) (h0:L≠[]):∃ nb full,sv=tv nb L.length∧lo≤nb∧ColT h nb full L:=by
 obtain⟨hw,⟨_,e⟩|⟨kb,full,e1,e2,e3,e4⟩⟩:=o
 ·exact absurd e h0
 ·exact⟨kb,full,e1,e2,e4,hw⟩
end
def fl0 (rows:List (List Int)) (i c j:Nat) (x:Nat) (k:Nat):Bool:=(decide (k<i)||(decide (k=i)&&decide (j<c)))&&decide (tb rows k j=(x:Int))
def col0 (rows:List (List Int)) (i c j:Nat):List Int:=gen 5 fun x=>(bs rows.length (fl0 rows i c j x):Nat)
def cols0 (rows:List (List Int)) (N i c:Nat):List (List Int):=(List.range N).map fun j=>col0 rows i c j
section
variable {rows:List (List Int)} {N i c:Nat}
theorem cols0_len:(cols0 rows N i c).length=N:=by simp[cols0]
theorem cols0_get {j:Nat} (hj:j<N):(cols0 rows N i c).getD j []=col0 rows i c j:=by
 simp[cols0,List.getD_eq_getElem?_getD,List.getElem?_map,List.getElem?_range hj]
theorem cols0_wid:Wid 5 (cols0 rows N i c):=wid_of fun j hj=>by
 rw[cols0_len] at hj
 rw[cols0_get hj]
 exact gen_len
theorem cols0_zero:cols0 rows N 0 0=List.replicate N (List.replicate 5 0):=by
 refine getD_ext (by rw[cols0_len];simp) fun j hj=>?_
 rw[cols0_len] at hj
 rw[cols0_get hj]
 have:(List.replicate N (List.replicate 5 (0:Int))).getD j []=List.replicate 5 0:=by
  rw[List.getD_eq_getElem?_getD,List.getElem?_replicate,if_pos hj]
  rfl
 rw[this]
 refine (gen_ext (by simp) fun x hx=>?_).symm
 have e:bs rows.length (fl0 rows 0 0 j x)=0:=(bs_congr fun k hk=>by
   unfold fl0
   rw[decide_eq_false (p:=k<0) (by omega),decide_eq_false (p:=j<0) (by omega),Bool.and_false,Bool.or_false,Bool.false_and]).trans bs_none
 rw[e,List.getD_eq_getElem?_getD,List.getElem?_replicate,if_pos hx]
 rfl
theorem cols0_next:cols0 rows N i N=cols0 rows N (i+1) 0:=by
 refine getD_ext (by rw[cols0_len,cols0_len]) fun j hj=>?_
 rw[cols0_len] at hj
 rw[cols0_get hj,cols0_get hj]
 refine gen_congr fun x hx=>?_
 congr 1
 refine bs_congr fun k hk=>?_
 unfold fl0
 congr 1
 rw[decide_eq_true hj,decide_eq_false (p:=j<0) (by omega),Bool.and_true,Bool.and_false,Bool.or_false,←Bool.decide_or]
 congr 1
 exact propext ⟨by omega,by omega⟩
theorem cols0_set {x:Nat} (hc:c<N) (hi:i<rows.length) (hx:x<5) (ht:tb rows i c=(x:Int)) :
  (cols0 rows N i c).set c ((col0 rows i c c).set x ((bs rows.length (fun k=>fl0 rows i c c x k||(k==i)):Nat):Int))=cols0 rows N i (c+1):=by
 refine getD_ext (by rw[List.length_set,cols0_len,cols0_len]) fun j hj=>?_
 rw[List.length_set,cols0_len] at hj
 rw[set_getD' (by rw[cols0_len];exact hc),cols0_get hj,cols0_get hj]
 by_cases hjc:j=c
 ·subst hjc
  rw[if_pos rfl]
  refine gen_ext (by rw[List.length_set];exact gen_len) fun y hy=>?_
  have gl:(col0 rows i j j).length=5:=gen_len
  rw[set_getD (by rw[gl];exact hx)]
  by_cases hyx:y=x
  ·subst hyx
   rw[if_pos rfl]
   congr 1
   refine bs_congr fun k hk=>?_
   unfold fl0
   by_cases hki:k=i
   ·subst hki
    rw[ht]
    simp
   ·have:(k==i)=false:=by simpa using hki
    rw[this,Bool.or_false,decide_eq_false hki,Bool.false_and,Bool.false_and]
  ·rw[if_neg hyx]
   show (gen 5 _).getD y 0=_
   rw[gen_get hy]
   congr 1
   refine bs_congr fun k hk=>?_
   unfold fl0
   by_cases hki:k=i
   ·subst hki
    rw[ht,decide_eq_false (p:=(x:Int)=(y:Int)) (by omega),Bool.and_false,Bool.and_false]
   ·rw[decide_eq_false hki,Bool.false_and,Bool.false_and]
 ·rw[if_neg hjc]
  refine gen_congr fun y hy=>?_
  congr 1
  refine bs_congr fun k hk=>?_
  unfold fl0
  congr 2
  congr 1
  congr 1
  exact propext ⟨by omega,by omega⟩
theorem cols0_col {j:Nat} (hj:j<N):Col rows j ((cols0 rows N rows.length 0).getD j []):=by
 rw[cols0_get hj]
 refine⟨gen_len,fun x h1 h2=>?_⟩
 show (gen 5 _).getD x 0=_
 rw[gen_get h2]
 congr 1
 refine bs_congr fun k hk=>?_
 unfold fl0
 rw[decide_eq_true hk,Bool.true_or,Bool.true_and]
end
section
variable {p:Int} {T:List (List Int)} {s:BS}
def mvS (p:Int) (s:BS) (T:List (List Int)) (k:Nat):Bool:=mkB p T s.l s.j s.r k
def lcol (T:List (List Int)) (S:Nat→Bool) (i c:Nat) (q:List Int):List Int:=gen 5 fun x=>if 1≤x∧x≤c then (bs T.length (fun k=>decide (tb T k i=(x:Int))&&!S k):Nat) else q.getD x 0
def ncol (T:List (List Int)) (S:Nat→Bool) (i c:Nat):List Int:=gen 5 fun x=>if 1≤x∧x≤c then (bs T.length (fun k=>decide (tb T k i=(x:Int))&&S k):Nat) else 0
theorem lcol_zero {S:Nat→Bool} {i:Nat} {q:List Int} (hq:q.length=5):lcol T S i 0 q=q:=(gen_ext hq fun x hx=>by rw[if_neg (by omega)]).symm
theorem ncol_zero {S:Nat→Bool} {i:Nat}:ncol T S i 0=List.replicate 5 0:=(gen_ext (by simp) fun x hx=>by rw[if_neg (by omega),List.getD_eq_getElem?_getD,List.getElem?_replicate,if_pos hx];rfl).symm
theorem lcol_set {S:Nat→Bool} {i c:Nat} {q:List Int} (hc:c+1<5):(lcol T S i c q).set (c+1) ((bs T.length (fun k=>decide (tb T k i=((c+1:Nat):Int))&&!S k):Nat):Int)=lcol T S i (c+1) q:=by
 have gl:(lcol T S i c q).length=5:=gen_len
 refine gen_ext (by rw[List.length_set,gl]) fun x hx=>?_
 rw[set_getD (by rw[gl];exact hc)]
 by_cases h:x=c+1
 ·subst h
  rw[if_pos rfl,if_pos ⟨by omega,Nat.le_refl _⟩]
 ·rw[if_neg h]
  show (gen 5 _).getD x 0=_
  rw[gen_get hx]
  by_cases h2:1≤x∧x≤c
  ·rw[if_pos h2,if_pos (by omega)]
  ·rw[if_neg h2,if_neg (by omega)]
theorem ncol_set {S:Nat→Bool} {i c:Nat} (hc:c+1<5):(ncol T S i c).set (c+1) ((bs T.length (fun k=>decide (tb T k i=((c+1:Nat):Int))&&S k):Nat):Int)=ncol T S i (c+1):=by
 have gl:(ncol T S i c).length=5:=gen_len
 refine gen_ext (by rw[List.length_set,gl]) fun x hx=>?_
 rw[set_getD (by rw[gl];exact hc)]
 by_cases h:x=c+1
 ·subst h
  rw[if_pos rfl,if_pos ⟨by omega,Nat.le_refl _⟩]
 ·rw[if_neg h]
  show (gen 5 _).getD x 0=_
  rw[gen_get hx]
  by_cases h2:1≤x∧x≤c
  ·rw[if_pos h2,if_pos (by omega)]
  ·rw[if_neg h2,if_neg (by omega)]
theorem lcol_at {S:Nat→Bool} {i c:Nat} {q:List Int} (cq:Col T i q) (hc:c+1<5):(lcol T S i c q).getD (c+1) 0=((bs T.length fun k=>decide (tb T k i=((c+1:Nat):Int)):Nat):Int):=by
 show (gen 5 _).getD (c+1) 0=_
 rw[gen_get hc,if_neg (by omega)]
 exact cq.2 (c+1) (by omega) hc
theorem tb_mv {W k i:Nat} (g:GT p W T) (hk:k<T.length) (hl:s.l<W) (hj:s.j<W) (hi:i≤W) :
  tb (mvT p s T) k i=if i=W then (if mvS p s T k=true then tb T k s.l else 0) else if mvS p s T k=true∧(i=s.l∨i=s.j) then 0 else tb T k i:=by
 obtain⟨gw,gi⟩:=g k hk
 have e:tb (mvT p s T) k i=(mvRow p s.l s.j s.r (T.getD k [])).getD i 0:=by unfold tb;rw[mvT_get hk]
 rw[e,mvRow_at (by omega) (by omega) (by omega),gw]
 rfl
theorem col_left {W:Nat} {q:List Int} (g:GT p W T) (hp:2≤p∧p≤5) (hl:s.l<W) (hj:s.j<W) {i:Nat} (hi:i=s.l∨i=s.j) (cq:Col T i q):Col (mvT p s T) i (lcol T (mvS p s T) i (p.toNat-1) q):=by
 refine⟨gen_len,fun x h1 h2=>?_⟩
 have hiW:i<W:=by rcases hi with rfl|rfl<;>assumption
 have e:(lcol T (mvS p s T) i (p.toNat-1) q).getD x 0=((bs T.length (fun k=>decide (tb T k i=(x:Int))&&!mvS p s T k):Nat):Int):=by
  show (gen 5 _).getD x 0=_
  rw[gen_get h2]
  by_cases hx:x≤p.toNat-1
  ·rw[if_pos ⟨h1,hx⟩]
  ·rw[if_neg (by omega),cq.2 x h1 h2]
   congr 1
   refine bs_congr fun k hk=>?_
   have:=(g k hk).2 i hiW
   rw[decide_eq_false (by omega),Bool.false_and]
 rw[e,mvT_len]
 congr 1
 refine bs_congr fun k hk=>?_
 rw[tb_mv g hk hl hj (by omega),if_neg (by omega)]
 cases hS:mvS p s T k with
 | true=>
  rw[if_pos ⟨rfl,hi⟩,decide_eq_false (p:=(0:Int)=(x:Int)) (by omega)]
  simp
 | false=>
  rw[if_neg (by simp)]
  simp
theorem col_new {W:Nat} (g:GT p W T) (hp:2≤p∧p≤5) (hl:s.l<W) (hj:s.j<W):Col (mvT p s T) W (ncol T (mvS p s T) s.l (p.toNat-1)):=by
 refine⟨gen_len,fun x h1 h2=>?_⟩
 have e:(ncol T (mvS p s T) s.l (p.toNat-1)).getD x 0=((bs T.length (fun k=>decide (tb T k s.l=(x:Int))&&mvS p s T k):Nat):Int):=by
  show (gen 5 _).getD x 0=_
  rw[gen_get h2]
  by_cases hx:x≤p.toNat-1
  ·rw[if_pos ⟨h1,hx⟩]
  ·rw[if_neg (by omega),show (0:Int)=((bs T.length (fun _=>false):Nat):Int) by rw[bs_none];rfl]
   congr 1
   refine bs_congr fun k hk=>?_
   have:=(g k hk).2 s.l hl
   rw[decide_eq_false (by omega),Bool.false_and]
 rw[e,mvT_len]
 congr 1
 refine bs_congr fun k hk=>?_
 rw[tb_mv g hk hl hj (Nat.le_refl _),if_pos rfl]
 cases hS:mvS p s T k with
 | true=>simp
 | false=>
  rw[if_neg (by simp),decide_eq_false (p:=(0:Int)=(x:Int)) (by omega)]
  simp
theorem col_other {W i:Nat} {q:List Int} (g:GT p W T) (hl:s.l<W) (hj:s.j<W) (hi:i<W) (h1:i≠s.l) (h2:i≠s.j) (cq:Col T i q):Col (mvT p s T) i q:=by
 refine⟨cq.1,fun x hx1 hx2=>?_⟩
 rw[cq.2 x hx1 hx2,mvT_len]
 congr 1
 refine bs_congr fun k hk=>?_
 rw[tb_mv g hk hl hj (by omega),if_neg (by omega),if_neg (fun h=>h.2.elim h1 h2)]
end
end Go.Proofs.Ytapafdpnmakekaa.X

set_option linter.unusedVariables false
set_option linter.unusedSimpArgs false
set_option maxRecDepth 20000
set_option maxHeartbeats 4000000
namespace Go.Proofs.Ytapafdpnmakekaa.X
open Go Go.RowKit
open Nat (reduceEqDiff reduceAdd reduceSub reduceLeDiff)
theorem zeros5u:([.int .u32 0,.int .u32 0,.int .u32 0,.int .u32 0,.int .u32 0]:List Value)=cel .u32 (List.replicate 5 0):=rfl
theorem U_one {n:Nat}:isOne (U32 n)=true:=rfl
theorem U_cells {n:Nat}:cellsL (U32 n)=[U32 n]:=rfl
theorem set2_next {α:Type} {L:List α} {l j:Nat} {a b a' b':α} (h:l≠j):(((L.set l a).set j b).set l a').set j b'=(L.set l a').set j b':=by
 rw[List.set_comm b a' h.symm,List.set_set,List.set_set]
theorem get2_l {L:List (List Int)} {l j:Nat} {a b:List Int} (h:l≠j) (hl:l<L.length) (hj:j<L.length):((L.set l a).set j b).getD l []=a:=by
 rw[set_getD' (by rw[List.length_set];exact hj),if_neg h,set_getD' hl,if_pos rfl]
theorem get2_j {L:List (List Int)} {l j:Nat} {a b:List Int} (hj:j<L.length):((L.set l a).set j b).getD j []=b:=by
 rw[set_getD' (by rw[List.length_set];exact hj),if_pos rfl]
theorem get2_o {L:List (List Int)} {l j i:Nat} {a b:List Int} (h1:i≠l) (h2:i≠j) (hl:l<L.length) (hj:j<L.length):((L.set l a).set j b).getD i []=L.getD i []:=by
 rw[set_getD' (by rw[List.length_set];exact hj),if_neg h2,set_getD' hl,if_neg h1]
theorem i_sharedProgram {u:Value} {p n:Int} {rows:List (List Int)} {h:AH} {Q:Value→AH→Prop} (hu:Rows h u rows) (hok:lsOK p n rows=true)
  (hQ:∀ v' w' h',h<+:h'→Way2 h' h.length v' w' (shP p n rows)→OrdB v' w'→Q (prgV (shP p n rows) v' w') h'):WF S 203 [I64 p,I64 n,u] h Q:=by
 refine WF_fn (fn:=c203) rfl rfl ?_
 dsimp only[c203,oO,oM,oS,oG,oK,oE,oL,oF,oX,oN]
 obtain⟨hp,hn,hl,hm⟩:=lsOK_iff.1 hok
 have hp5:=isP_in hp
 obtain⟨N,hN⟩:∃ N:Nat,n=N:=⟨n.toNat,by omega⟩
 have hNt:n.toNat=N:=by omega
 ((try simp (maxSteps:=3000000) (dsimp:=false) (disch:=first|omega|simp only[lnx];omega) only[↓ypre,ypost,↓reduceIte,reduceEqDiff,reduceAdd,reduceSub,reduceLeDiff,zz0,ynew]);try simp only[yback])
 generalize hH1:AH.new h _=H1
 obtain⟨hb1,p1,n1⟩:=new_facts hH1
 refine⟨by omega,?_⟩
 rw[hNt,zeros5u,zrep_cel]
 generalize hH2:AH.new H1 _=H2
 obtain⟨hb2,p2,n2⟩:=new_facts hH2
 ((try simp (maxSteps:=3000000) (dsimp:=false) (disch:=first|omega|simp only[lnx];omega) only[↓ypre,ypost,↓reduceIte,reduceEqDiff,reduceAdd,reduceSub,reduceLeDiff,zz0,ynew]);try simp only[yback])
 generalize hH3:AH.new H2 _=H3
 obtain⟨hb3,p3,n3⟩:=new_facts hH3
 have p23:=p2.trans p3
 obtain⟨cs,hvS,hcsl,hrS⟩:=(hu.pre p1).stays
 have ct0:ColT H3 H1.length true (cols0 rows N 0 0):=by
  rw[cols0_zero]
  exact⟨pre_get p3 hb2,by rw[←cols0_zero (rows:=rows)];exact cols0_wid⟩
 have sy0:Stay H1.length H1 H3:=Stay.of p23
 ((try simp (maxSteps:=3000000) (dsimp:=false) (disch:=first|omega|simp only[lnx];omega) only[↓ypre,ypost,↓reduceIte,reduceEqDiff,reduceAdd,reduceSub,reduceLeDiff,zz0,ynew,(hvS _ sy0).len,hcsl]);try simp only[yback])
 refine WC_loop_inv (fun m f K1=>∃ (i:Nat),m=rows.length-i∧i≤rows.length∧f 0=I64 p∧f 2=u∧f 6=.pointer (some ⟨h.length,0,none⟩)∧f 7=.pointer (some ⟨H2.length,0,none⟩)∧f 8=tv H1.length N∧f 29=u∧f 30=I64 rows.length∧f 31=I64 i∧(Stay H1.length H1 K1)∧(ColT K1 H1.length true (cols0 rows N i 0))∧(K1.get H2.length=some ⟨[I64 p,I64 n,.slice none 0 0,.slice none 0 0],70,false,true⟩)) ?_ (rows.length-0) _ _ ⟨0,rfl,by omega,(by first|rfl|simp[upd_apply]),(by first|rfl|simp[upd_apply]),(by first|rfl|simp[upd_apply]),(by first|rfl|simp[upd_apply]),(by first|rfl|simp[upd_apply]),(by first|rfl|simp[upd_apply]),(by first|rfl|simp[upd_apply]),(by first|rfl|simp[upd_apply]),sy0,ct0,hb3⟩
 rintro m f K1 ⟨i,rfl,hi,f0,f2,f6,f7,f8,f29,f30,f31,sy,ct,g7⟩
 by_cases hlt:(i:Int)<rows.length
 ·have hi':i<rows.length:=by omega
  obtain⟨hw,ha⟩:=isMat_iff.1 hm i hi'
  have ix:=(hvS _ sy).ix (k:=.i64) (j:=i) (by omega) (by omega)
  have rd:=(hvS _ sy).rd (j:=i) (by omega) (by omega)
  have hri:=hrS i hi'
  rw[Int.toNat_natCast] at rd
  generalize cs.getD i undef=rv at *
  have lnr:=(hri _ sy).len
  have rlen:(rows.getD i []).length=N:=by omega
  rw[rlen] at lnr
  ((try simp (maxSteps:=3000000) (dsimp:=false) (disch:=first|omega|simp only[lnx];omega) only[↓ypre,ypost,↓reduceIte,reduceEqDiff,reduceAdd,reduceSub,reduceLeDiff,zz0,ynew,f0,f2,f6,f7,f8,f29,f30,f31,decide_eq_true hlt,ix,rd,lnr,wrap64_in]);try simp only[yback])
  refine WC_loop_inv (fun m f K2=>∃ (c:Nat),m=N-c∧c≤N∧f 0=I64 p∧f 2=u∧f 6=.pointer (some ⟨h.length,0,none⟩)∧f 7=.pointer (some ⟨H2.length,0,none⟩)∧f 8=tv H1.length N∧f 9=I64 i∧f 29=u∧f 30=I64 rows.length∧f 31=I64 i∧f 36=rv∧f 37=I64 N∧f 38=I64 c∧(Stay H1.length H1 K2)∧(ColT K2 H1.length true (cols0 rows N i c))∧(K2.get H2.length=some ⟨[I64 p,I64 n,.slice none 0 0,.slice none 0 0],70,false,true⟩)) ?_ (N-0) _ _ ⟨0,rfl,by omega,(by first|rfl|exact f0|(simp[upd_apply];done)),(by first|rfl|exact f2|(simp[upd_apply];done)),(by first|rfl|exact f6|(simp[upd_apply];done)),(by first|rfl|exact f7|(simp[upd_apply];done)),(by first|rfl|exact f8|(simp[upd_apply];done)),(by first|rfl|simp[upd_apply]),(by first|rfl|exact f29|(simp[upd_apply];done)),(by first|rfl|exact f30|(simp[upd_apply];done)),(by first|rfl|exact f31|(simp[upd_apply];done)),(by first|rfl|simp[upd_apply]),(by first|rfl|simp[upd_apply]),(by first|rfl|simp[upd_apply]),sy,ct,g7⟩
  rintro m f K2 ⟨c,rfl,hc,f0,f2,f6,f7,f8,f9,f29,f30,f31,f36,f37,f38,sy,ct,g7⟩
  by_cases hltc:(c:Int)<N
  ·have hc':c<N:=by omega
   have hx:=hri _ sy
   have ixx:=hx.ix (k:=.i64) (j:=c) (by omega) (by omega)
   have rdx:=hx.rd (j:=c) (by omega) (by omega)
   simp only[nth,Int.toNat_natCast] at rdx
   have tin:=allIn_iff.1 ha c (by omega)
   obtain⟨xv,hxv⟩:∃ xv:Nat,(rows.getD i []).getD c 0=xv:=⟨_,(Int.toNat_of_nonneg tin.1).symm⟩
   rw[hxv] at rdx tin
   have hxt:tb rows i c=(xv:Int):=hxv
   have cl:(cols0 rows N i c).length=N:=cols0_len
   have ixc:∀ kk:IntKind,ixsV 5 (tv H1.length N) (.int kk (c:Int))=_:=fun kk=>ColT.ix hc'
   have ixa1:=ixa_u (n:=H1.length) (off:=c*5) (len:=5) (kk:=.i64) (j:=xv) (by omega)
   have rd1:=ct.rd (c:=c) (x:=xv) (by omega) (by omega)
   have e1:((cols0 rows N i c).getD c []).getD xv 0=((bs rows.length (fl0 rows i c c xv):Nat):Int):=by
    rw[cols0_get hc']
    exact gen_get (by omega)
   rw[e1] at rd1
   have rd1:K2.rd1 H1.length (c*5+xv)=some (U32 (bs rows.length (fl0 rows i c c xv))):=rd1
   have sh:=bin_shl (R:=rows.length) (r:=i) hi' (by omega)
   have orr:=bin_or (R:=rows.length) (f:=fl0 rows i c c xv) (g:=fun k=>k==i) (by omega)
   obtain⟨H5,w5,e5,ct5⟩:=ct.wr (c:=c) (x:=xv) (v:=((bs rows.length (fun k=>fl0 rows i c c xv k||(k==i)):Nat):Int)) (by omega) (by omega)
   have w5:K2.wr H1.length (c*5+xv) [U32 (bs rows.length (fun k=>fl0 rows i c c xv k||(k==i)))]=some H5:=w5
   rw[cols0_get hc',cols0_set hc' hi' (by omega) hxt] at ct5
   ((try simp (maxSteps:=3000000) (dsimp:=false) (disch:=first|omega|simp only[lnx];omega) only[↓ypre,ypost,↓reduceIte,reduceEqDiff,reduceAdd,reduceSub,reduceLeDiff,zz0,ynew,f0,f2,f6,f7,f8,f9,f29,f30,f31,f36,f37,f38,decide_eq_true hltc,ixx,rdx,ixc,ixa1,rd1,sh,orr,U_one,U_cells,w5,wrap64_in]);try simp only[yback])
   refine InvQ_go (N-(c+1)) (by omega) ⟨(c+1),rfl,by omega,(by first|rfl|exact f0|(simp only[upd_apply];rfl)|(show I64 _=_;congr 1;omega)),(by first|rfl|exact f2|(simp only[upd_apply];rfl)|(show I64 _=_;congr 1;omega)),(by first|rfl|exact f6|(simp only[upd_apply];rfl)|(show I64 _=_;congr 1;omega)),(by first|rfl|exact f7|(simp only[upd_apply];rfl)|(show I64 _=_;congr 1;omega)),(by first|rfl|exact f8|(simp only[upd_apply];rfl)|(show I64 _=_;congr 1;omega)),(by first|rfl|exact f9|(simp only[upd_apply];rfl)|(show I64 _=_;congr 1;omega)),(by first|rfl|exact f29|(simp only[upd_apply];rfl)|(show I64 _=_;congr 1;omega)),(by first|rfl|exact f30|(simp only[upd_apply];rfl)|(show I64 _=_;congr 1;omega)),(by first|rfl|exact f31|(simp only[upd_apply];rfl)|(show I64 _=_;congr 1;omega)),(by first|rfl|exact f36|(simp only[upd_apply];rfl)|(show I64 _=_;congr 1;omega)),(by first|rfl|exact f37|(simp only[upd_apply];rfl)|(show I64 _=_;congr 1;omega)),(by first|rfl|exact f38|(simp only[upd_apply];rfl)|(show I64 _=_;congr 1;omega)),(by rw[e5];exact sy.put (Nat.le_refl _) (Nat.le_refl _)),ct5,(by rw[e5,get_put_ne (by omega)];exact g7)⟩
  have ec:c=N:=by omega
  subst ec
  rw[cols0_next] at ct
  ((try simp (maxSteps:=3000000) (dsimp:=false) (disch:=first|omega|simp only[lnx];omega) only[↓ypre,ypost,↓reduceIte,reduceEqDiff,reduceAdd,reduceSub,reduceLeDiff,zz0,ynew,f0,f2,f6,f7,f8,f9,f29,f30,f31,f36,f37,f38,decide_eq_false hltc,wrap64_in]);try simp only[yback])
  refine InvQ_go (rows.length-(i+1)) (by omega) ⟨(i+1),rfl,by omega,(by first|rfl|exact f0|(simp only[upd_apply];rfl)|(show I64 _=_;congr 1;omega)),(by first|rfl|exact f2|(simp only[upd_apply];rfl)|(show I64 _=_;congr 1;omega)),(by first|rfl|exact f6|(simp only[upd_apply];rfl)|(show I64 _=_;congr 1;omega)),(by first|rfl|exact f7|(simp only[upd_apply];rfl)|(show I64 _=_;congr 1;omega)),(by first|rfl|exact f8|(simp only[upd_apply];rfl)|(show I64 _=_;congr 1;omega)),(by first|rfl|exact f29|(simp only[upd_apply];rfl)|(show I64 _=_;congr 1;omega)),(by first|rfl|exact f30|(simp only[upd_apply];rfl)|(show I64 _=_;congr 1;omega)),(by first|rfl|exact f31|(simp only[upd_apply];rfl)|(show I64 _=_;congr 1;omega)),sy,ct,g7⟩
 have ei:i=rows.length:=by omega
 subst ei
 ((try simp (maxSteps:=3000000) (dsimp:=false) (disch:=first|omega|simp only[lnx];omega) only[↓ypre,ypost,↓reduceIte,reduceEqDiff,reduceAdd,reduceSub,reduceLeDiff,zz0,ynew,f0,f2,f6,f7,f8,f29,f30,f31,decide_eq_false hlt]);try simp only[yback])
 have si0:=ShI.start hok
 rw[hNt] at si0
 have hcl0:(cols0 rows N rows.length 0).length=N+([]:List (List Int)).length:=cols0_len
 have hc0:∀ i,i<N+([]:List (List Int)).length→Col rows i ((cols0 rows N rows.length 0).getD i []):=fun i hi=>cols0_col hi
 have pp1:H1<+:K1:=sy.pre _ (Nat.le_refl _) (List.prefix_refl _)
 have nz0:nzT rows=nzT rows-0:=rfl
 have wv0:WayX (181) .i64 3 K1 H1.length [] (.slice none 0 0) ([]:List (List Int)):=⟨fun r hr=>by simp at hr,.inl ⟨rfl,rfl⟩⟩
 refine WC_loop_inv (fun m f K3=>∃ (d:Nat) (s:SS) (sv:Value) (nb:Nat) (fl:Bool) (cols:List (List Int)),m=((nzT rows))-d∧d≤((nzT rows))∧f 0=I64 p∧f 2=u∧f 6=.pointer (some ⟨h.length,0,none⟩)∧f 7=.pointer (some ⟨H2.length,0,none⟩)∧f 8=tv nb (N+s.st.length)∧(nzT s.T=nzT rows-d)∧(ShI p N rows s)∧(H1<+:K3)∧(H1.length≤nb)∧(ColT K3 nb fl cols)∧(cols.length=N+s.st.length)∧(∀ i,i<N+s.st.length→Col s.T i (cols.getD i []))∧(WayX (181) .i64 3 K3 H1.length [] sv s.st)∧(K3.get H2.length=some ⟨[I64 p,I64 n,sv,.slice none 0 0],70,false,true⟩)) ?_ (((nzT rows))-0) _ _ ⟨0,⟨rows,[]⟩,.slice none 0 0,H1.length,true,cols0 rows N rows.length 0,rfl,by omega,(by first|rfl|exact f0|(simp[upd_apply];done)),(by first|rfl|exact f2|(simp[upd_apply];done)),(by first|rfl|exact f6|(simp[upd_apply];done)),(by first|rfl|exact f7|(simp[upd_apply];done)),(by first|rfl|exact f8|(simp[upd_apply];done)),nz0,si0,pp1,Nat.le_refl _,ct,hcl0,hc0,wv0,g7⟩
 rintro m f K3 ⟨d,s,sv,nb,fl,cols,rfl,hd,f0,f2,f6,f7,f8,hz,si,pp,lnb,ct,hcl,hcol,wv,g7⟩
 have nzb:=si.nz
 have hT1:1≤s.T.length:=by rw[si.len];omega
 have hT30:s.T.length≤30:=by rw[si.len];omega
 have elsK:=ct.els
 rw[hcl] at elsK
 ((try simp (maxSteps:=3000000) (dsimp:=false) (disch:=first|omega|simp only[lnx];omega) only[↓ypre,ypost,↓reduceIte,reduceEqDiff,reduceAdd,reduceSub,reduceLeDiff,zz0,ynew,f0,f2,f6,f7,f8]);try simp only[yback])
 refine i_mostRows elsK hcl hcol hp si.gt ⟨hT1,hT30⟩ (by omega) fun H6 p6=>?_
 ((try simp (maxSteps:=3000000) (dsimp:=false) (disch:=first|omega|simp only[lnx];omega) only[↓ypre,ypost,↓reduceIte,reduceEqDiff,reduceAdd,reduceSub,reduceLeDiff,zz0,ynew,f0,f2,f6,f7,f8,wrap64_in]);try simp only[yback])
 generalize hH7:AH.new H6 _=H7
 obtain⟨hb7,p7,n7⟩:=new_facts hH7
 have p67:=p6.trans p7
 have k6:=pre_len p6
 by_cases hbm:(1:Int)<((bst p s.T).m:Int)
 case neg=>
  have es:=si.stop (by omega)
  have pp7:=pp.trans p67
  have hu7:=hu.pre (p1.trans pp7)
  ((try simp (maxSteps:=3000000) (dsimp:=false) (disch:=first|omega|simp only[lnx];omega) only[↓ypre,ypost,↓reduceIte,reduceEqDiff,reduceAdd,reduceSub,reduceLeDiff,zz0,ynew,f0,f2,f6,f7,f8,decide_eq_false hbm,rd1_new_lt]);try simp only[yback])
  generalize hHA:AH.new H7 _=HA
  obtain⟨hbA,pA,nA⟩:=new_facts hHA
  have p6A:=p67.trans pA
  have huA:=hu7.pre pA
  ((try simp (maxSteps:=3000000) (dsimp:=false) (disch:=first|omega|simp only[lnx];omega) only[↓ypre,ypost,↓reduceIte,reduceEqDiff,reduceAdd,reduceSub,reduceLeDiff,zz0,ynew,f0,f2,f6,f7,f8,huA.len]);try simp only[yback])
  have ctA:=ct.pre p6A
  have g7A:=pre_get p6A g7
  have wvA:=wv.pre p6A
  have gT:=si.gt
  have sl':=si.len
  have hp1A:=pp7.trans pA
  have eSP:shP p n rows=finP ⟨p,n,s.st,[]⟩ s.T s.T.length:=by unfold shP;rw[←es]
  rw[eSP] at hQ
  generalize hTT:s.T=T at *
  generalize hst:s.st=st0 at *
  obtain⟨W,hW⟩:∃ W,W=N+st0.length:=⟨_,rfl⟩
  rw[←hW] at f8 hcl hcol gT
  have tl0:TabL HA H1.length H7.length true []:=⟨hbA,by have:=pre_len pp7;omega,fun i hi=>by simp at hi,fun a b ha=>by simp at ha⟩
  have k7:=pre_len pp7
  refine WC_loop_inv (fun m f K4=>∃ (i:Nat) (nr:Nat) (fr:Bool) (L:List (Nat×List Int)),m=rows.length-i∧i≤rows.length∧f 0=I64 p∧f 6=.pointer (some ⟨h.length,0,none⟩)∧f 7=.pointer (some ⟨H2.length,0,none⟩)∧f 8=tv nb W∧f 18=sl nr L.length∧f 134=u∧f 135=I64 rows.length∧f 136=I64 i∧(StayT H1.length HA K4)∧(TabL K4 H1.length nr fr L)∧(L.map Prod.snd=T.take i)) ?_ (rows.length-0) _ _ ⟨0,H7.length,true,[],rfl,by omega,(by first|rfl|exact f0|(simp[upd_apply];done)),(by first|rfl|exact f6|(simp[upd_apply];done)),(by first|rfl|exact f7|(simp[upd_apply];done)),(by first|rfl|exact f8|(simp[upd_apply];done)),(by first|rfl|simp[upd_apply]),(by first|rfl|simp[upd_apply]),(by first|rfl|simp[upd_apply]),(by first|rfl|simp[upd_apply]),StayT.refl,tl0,(by simp)⟩
  rintro m f K4 ⟨i,nr,fr,L,rfl,hi,f0,f6,f7,f8,f18,f134,f135,f136,sy,tl,hL⟩
  have hLl:L.length=i:=by
   have:=congrArg List.length hL
   rw[List.length_map,List.length_take] at this
   omega
  have sl4:=sy.len
  by_cases hlt:(i:Int)<rows.length
  ·have hi':i<rows.length:=by omega
   have hiT:i<T.length:=by omega
   obtain⟨gw,gi⟩:=gT i hiT
   ((try simp (maxSteps:=3000000) (dsimp:=false) (disch:=first|omega|simp only[lnx];omega) only[↓ypre,ypost,↓reduceIte,reduceEqDiff,reduceAdd,reduceSub,reduceLeDiff,zz0,ynew,f0,f6,f7,f8,f18,f134,f135,f136,decide_eq_true hlt,show lenV (tv nb W)=some (I64 W) from rfl,wrap64_in]);try simp only[yback])
   refine⟨by omega,?_⟩
   rw[Int.toNat_natCast,zrep_ints]
   generalize hHB:AH.new K4 _=HB
   obtain⟨hbB,pB,nB⟩:=new_facts hHB
   have ls0:Lst HB K4.length (gen W fun y=>if y<0 then tb T i y else 0) true:=by
    have e:gen W (fun y=>if y<0 then tb T i y else 0)=List.replicate W 0:=(gen_ext (by simp) fun y hy=>by simp[List.getD_eq_getElem?_getD,List.getElem?_replicate,hy]).symm
    rw[e]
    exact hbB
   rw[show Value.slice (some ⟨K4.length,0,none⟩) W 1=sl K4.length W from rfl]
   ((try simp (maxSteps:=3000000) (dsimp:=false) (disch:=first|omega|simp only[lnx];omega) only[↓ypre,ypost,↓reduceIte,reduceEqDiff,reduceAdd,reduceSub,reduceLeDiff,zz0,ynew,f0,f6,f7,f8,f18,f134,f135,f136,show lenV (tv nb W)=some (I64 W) from rfl]);try simp only[yback])
   refine WC_loop_inv (fun m f K5=>∃ (c:Nat),m=W-c∧c≤W∧f 0=I64 p∧f 6=.pointer (some ⟨h.length,0,none⟩)∧f 7=.pointer (some ⟨H2.length,0,none⟩)∧f 8=tv nb W∧f 18=sl nr L.length∧f 19=I64 i∧f 20=sl K4.length W∧f 134=u∧f 135=I64 rows.length∧f 136=I64 i∧f 142=tv nb W∧f 143=I64 W∧f 144=I64 c∧(K4<+:K5)∧(Lst K5 K4.length (gen W fun y=>if y<c then tb T i y else 0) true)) ?_ (W-0) _ _ ⟨0,rfl,by omega,(by first|rfl|exact f0|(simp[upd_apply];done)),(by first|rfl|exact f6|(simp[upd_apply];done)),(by first|rfl|exact f7|(simp[upd_apply];done)),(by first|rfl|exact f8|(simp[upd_apply];done)),(by first|rfl|exact f18|(simp[upd_apply];done)),(by first|rfl|simp[upd_apply]),(by first|rfl|simp[upd_apply]),(by first|rfl|exact f134|(simp[upd_apply];done)),(by first|rfl|exact f135|(simp[upd_apply];done)),(by first|rfl|exact f136|(simp[upd_apply];done)),(by first|rfl|simp[upd_apply]),(by first|rfl|simp[upd_apply]),(by first|rfl|simp[upd_apply]),pB,ls0⟩
   rintro m f K5 ⟨c,rfl,hc,f0,f6,f7,f8,f18,f19,f20,f134,f135,f136,f142,f143,f144,pp,ls⟩
   by_cases hltc:(c:Int)<W
   ·have hcW:c<W:=by omega
    have ct5:ColT K5 nb fl cols:=⟨pre_get pp (sy.get _ _ ctA.g (by simp) (by simp)),ctA.wid⟩
    have rnc:=ct5.rdn (c:=c) (by omega)
    have cq:=hcol c hcW
    have wq:=cq.1
    have tcb:=gi c hcW
    generalize cols.getD c []=q at *
    have ixc:∀ kk:IntKind,ixsV 5 (tv nb W) (.int kk (c:Int))=_:=fun kk=>ColT.ix hcW
    have w1:∀ (h1:AH) (e:TypeId),(h1.new ⟨cel .u32 (List.replicate 5 0),e,false,true⟩).wr h1.length 0 (cel .u32 q)=some (h1.new ⟨cel .u32 q,e,false,true⟩):=fun h1 e=>wr_all (by rw[cel_len,cel_len,wq];rfl)
    ((try simp (maxSteps:=3000000) (dsimp:=false) (disch:=first|omega|simp only[lnx];omega) only[↓ypre,ypost,↓reduceIte,reduceEqDiff,reduceAdd,reduceSub,reduceLeDiff,zz0,ynew,f0,f6,f7,f8,f18,f19,f20,f134,f135,f136,f142,f143,f144,decide_eq_true hltc,ixc,rnc,cel_all,cellsL_cel,cel_len,wq,↓w1,wrap64_in]);try simp only[yback])
    generalize hHC:AH.new K5 _=HC
    obtain⟨hbC,pC,nC⟩:=new_facts hHC
    have lsC:Lst HC K4.length (gen W fun z=>if z<c then tb T i z else if z=c∧1≤tb T i c∧tb T i c≤((0:Nat):Int) then tb T i c else 0) true:=by
     have e:gen W (fun z=>if z<c then tb T i z else if z=c∧1≤tb T i c∧tb T i c≤((0:Nat):Int) then tb T i c else 0)=gen W (fun y=>if y<c then tb T i y else 0):=gen_congr fun z hz=>by
      by_cases h1:z<c
      ·rw[if_pos h1,if_pos h1]
      ·rw[if_neg h1,if_neg h1,if_neg (by omega)]
     rw[e]
     exact ls.pre pC
    refine WC_loop_inv (fun m f K6=>∃ (y:Nat),m=((p.toNat-1))-y∧y≤((p.toNat-1))∧f 0=I64 p∧f 6=.pointer (some ⟨h.length,0,none⟩)∧f 7=.pointer (some ⟨H2.length,0,none⟩)∧f 8=tv nb W∧f 18=sl nr L.length∧f 19=I64 i∧f 20=sl K4.length W∧f 21=I64 c∧f 22=.pointer (some ⟨K5.length,0,none⟩)∧f 23=I64 ((y:Int)+1)∧f 134=u∧f 135=I64 rows.length∧f 136=I64 i∧f 142=tv nb W∧f 143=I64 W∧f 144=I64 c∧(K4<+:K6)∧(Lst K6 K4.length (gen W fun z=>if z<c then tb T i z else if z=c∧1≤tb T i c∧tb T i c≤(y:Int) then tb T i c else 0) true)∧(K6.get K5.length=some ⟨cel .u32 q,246,false,true⟩)) ?_ (((p.toNat-1))-0) _ _ ⟨0,rfl,by omega,(by first|rfl|exact f0|(simp[upd_apply];done)),(by first|rfl|exact f6|(simp[upd_apply];done)),(by first|rfl|exact f7|(simp[upd_apply];done)),(by first|rfl|exact f8|(simp[upd_apply];done)),(by first|rfl|exact f18|(simp[upd_apply];done)),(by first|rfl|exact f19|(simp[upd_apply];done)),(by first|rfl|exact f20|(simp[upd_apply];done)),(by first|rfl|simp[upd_apply]),(by first|rfl|simp[upd_apply]),(by first|rfl|simp[upd_apply]),(by first|rfl|exact f134|(simp[upd_apply];done)),(by first|rfl|exact f135|(simp[upd_apply];done)),(by first|rfl|exact f136|(simp[upd_apply];done)),(by first|rfl|exact f142|(simp[upd_apply];done)),(by first|rfl|exact f143|(simp[upd_apply];done)),(by first|rfl|exact f144|(simp[upd_apply];done)),pp.trans pC,lsC,hbC⟩
    rintro m f K6 ⟨y,rfl,hy,f0,f6,f7,f8,f18,f19,f20,f21,f22,f23,f134,f135,f136,f142,f143,f144,pp,ls,gC⟩
    by_cases hlty:(y:Int)+1<p
    ·have eI:(y:Int)+1=((y+1:Nat):Int):=by omega
     rw[eI] at f23
     have ra:=cq.at (x:=y+1) (by omega)
     have ixA:=ixa_u (n:=K5.length) (off:=0) (len:=5) (kk:=.i64) (j:=y+1) (by omega)
     rw[Nat.zero_add] at ixA
     obtain⟨pk1,pk2⟩:=bin_pick (R:=T.length) (f:=fun k=>decide (tb T k c=((y+1:Nat):Int))) (r:=i) (by omega) hiT
     by_cases e:tb T i c=((y+1:Nat):Int)
     ·rw[if_pos (decide_eq_true e)] at pk2
      have ixl:=Lst.ix (n:=K4.length) (j:=(c:Int)) (len:=W) (by omega)
      rw[Int.toNat_natCast] at ixl
      obtain⟨H9,w9,e9,l9⟩:=ls.wr (j:=c) (x:=((y+1:Nat):Int)) (by rw[gen_len];exact hcW)
      have eL:(gen W fun z=>if z<c then tb T i z else if z=c∧1≤tb T i c∧tb T i c≤(y:Int) then tb T i c else 0).set c ((y+1:Nat):Int)=gen W fun z=>if z<c then tb T i z else if z=c∧1≤tb T i c∧tb T i c≤((y+1:Nat):Int) then tb T i c else 0:=gen_ext (by rw[List.length_set,gen_len]) fun z hz=>by
       rw[set_getD (by rw[gen_len];exact hcW)]
       by_cases h1:z=c
       ·subst h1
        rw[if_pos rfl,if_neg (by omega),if_pos ⟨rfl,by omega,by omega⟩,e]
       ·rw[if_neg h1,gen_get hz]
        by_cases h2:z<c
        ·rw[if_pos h2,if_pos h2]
        ·rw[if_neg h2,if_neg h2,if_neg (by omega),if_neg (by omega)]
      rw[eL] at l9
      ((try simp (maxSteps:=3000000) (dsimp:=false) (disch:=first|omega|simp only[lnx];omega) only[↓ypre,ypost,↓reduceIte,reduceEqDiff,reduceAdd,reduceSub,reduceLeDiff,zz0,ynew,f0,f6,f7,f8,f18,f19,f20,f21,f22,f23,f134,f135,f136,f142,f143,f144,decide_eq_true (show ((y+1:Nat):Int)<p by omega),ixA,rd1_of gC,ra,pk1,pk2,decide_eq_true (show (1:Int)=1 from rfl),ixl,w9,wrap64_in]);try simp only[yback])
      refine InvQ_go (((p.toNat-1))-(y+1)) (by omega) ⟨(y+1),rfl,by omega,(by first|rfl|exact f0|(simp only[upd_apply];rfl)|(show I64 _=_;congr 1;omega)),(by first|rfl|exact f6|(simp only[upd_apply];rfl)|(show I64 _=_;congr 1;omega)),(by first|rfl|exact f7|(simp only[upd_apply];rfl)|(show I64 _=_;congr 1;omega)),(by first|rfl|exact f8|(simp only[upd_apply];rfl)|(show I64 _=_;congr 1;omega)),(by first|rfl|exact f18|(simp only[upd_apply];rfl)|(show I64 _=_;congr 1;omega)),(by first|rfl|exact f19|(simp only[upd_apply];rfl)|(show I64 _=_;congr 1;omega)),(by first|rfl|exact f20|(simp only[upd_apply];rfl)|(show I64 _=_;congr 1;omega)),(by first|rfl|exact f21|(simp only[upd_apply];rfl)|(show I64 _=_;congr 1;omega)),(by first|rfl|exact f22|(simp only[upd_apply];rfl)|(show I64 _=_;congr 1;omega)),(by show I64 _=I64 _;congr 1),(by first|rfl|exact f134|(simp only[upd_apply];rfl)|(show I64 _=_;congr 1;omega)),(by first|rfl|exact f135|(simp only[upd_apply];rfl)|(show I64 _=_;congr 1;omega)),(by first|rfl|exact f136|(simp only[upd_apply];rfl)|(show I64 _=_;congr 1;omega)),(by first|rfl|exact f142|(simp only[upd_apply];rfl)|(show I64 _=_;congr 1;omega)),(by first|rfl|exact f143|(simp only[upd_apply];rfl)|(show I64 _=_;congr 1;omega)),(by first|rfl|exact f144|(simp only[upd_apply];rfl)|(show I64 _=_;congr 1;omega)),(by rw[e9];exact pre_put pp (Nat.le_refl _)),l9,(by rw[e9,get_put_ne (by have:=pre_len (show K4<+:K5 from by assumption);have:=(show Lst K5 K4.length _ true from by assumption).lt;omega)];exact gC)⟩
     ·have ef:(if decide (tb T i c=((y+1:Nat):Int))=true then (1:Int) else 0)=0:=by rw[decide_eq_false e];rfl
      rw[ef] at pk2
      have eL:(gen W fun z=>if z<c then tb T i z else if z=c∧1≤tb T i c∧tb T i c≤(y:Int) then tb T i c else 0)=gen W fun z=>if z<c then tb T i z else if z=c∧1≤tb T i c∧tb T i c≤((y+1:Nat):Int) then tb T i c else 0:=gen_congr fun z hz=>by
       by_cases h2:z<c
       ·rw[if_pos h2,if_pos h2]
       ·rw[if_neg h2,if_neg h2]
        by_cases h3:z=c∧1≤tb T i c∧tb T i c≤(y:Int)
        ·rw[if_pos h3,if_pos (by omega)]
        ·rw[if_neg h3,if_neg (by omega)]
      rw[eL] at ls
      ((try simp (maxSteps:=3000000) (dsimp:=false) (disch:=first|omega|simp only[lnx];omega) only[↓ypre,ypost,↓reduceIte,reduceEqDiff,reduceAdd,reduceSub,reduceLeDiff,zz0,ynew,f0,f6,f7,f8,f18,f19,f20,f21,f22,f23,f134,f135,f136,f142,f143,f144,decide_eq_true (show ((y+1:Nat):Int)<p by omega),ixA,rd1_of gC,ra,pk1,pk2,decide_eq_false (show ¬ (0:Int)=1 by decide),wrap64_in]);try simp only[yback])
      refine InvQ_go (((p.toNat-1))-(y+1)) (by omega) ⟨(y+1),rfl,by omega,(by first|rfl|exact f0|(simp only[upd_apply];rfl)|(show I64 _=_;congr 1;omega)),(by first|rfl|exact f6|(simp only[upd_apply];rfl)|(show I64 _=_;congr 1;omega)),(by first|rfl|exact f7|(simp only[upd_apply];rfl)|(show I64 _=_;congr 1;omega)),(by first|rfl|exact f8|(simp only[upd_apply];rfl)|(show I64 _=_;congr 1;omega)),(by first|rfl|exact f18|(simp only[upd_apply];rfl)|(show I64 _=_;congr 1;omega)),(by first|rfl|exact f19|(simp only[upd_apply];rfl)|(show I64 _=_;congr 1;omega)),(by first|rfl|exact f20|(simp only[upd_apply];rfl)|(show I64 _=_;congr 1;omega)),(by first|rfl|exact f21|(simp only[upd_apply];rfl)|(show I64 _=_;congr 1;omega)),(by first|rfl|exact f22|(simp only[upd_apply];rfl)|(show I64 _=_;congr 1;omega)),(by show I64 _=I64 _;congr 1),(by first|rfl|exact f134|(simp only[upd_apply];rfl)|(show I64 _=_;congr 1;omega)),(by first|rfl|exact f135|(simp only[upd_apply];rfl)|(show I64 _=_;congr 1;omega)),(by first|rfl|exact f136|(simp only[upd_apply];rfl)|(show I64 _=_;congr 1;omega)),(by first|rfl|exact f142|(simp only[upd_apply];rfl)|(show I64 _=_;congr 1;omega)),(by first|rfl|exact f143|(simp only[upd_apply];rfl)|(show I64 _=_;congr 1;omega)),(by first|rfl|exact f144|(simp only[upd_apply];rfl)|(show I64 _=_;congr 1;omega)),pp,ls,gC⟩
    have ey:y=p.toNat-1:=by omega
    subst ey
    have eL:(gen W fun z=>if z<c then tb T i z else if z=c∧1≤tb T i c∧tb T i c≤((p.toNat-1:Nat):Int) then tb T i c else 0)=gen W fun z=>if z<c+1 then tb T i z else 0:=gen_congr fun z hz=>by
     by_cases h2:z<c
     ·rw[if_pos h2,if_pos (by omega)]
     ·rw[if_neg h2]
      by_cases h3:z=c
      ·subst h3
       rw[if_pos (show z<z+1 by omega)]
       by_cases h4:tb T i z=0
       ·rw[if_neg (by omega),h4]
       ·rw[if_pos ⟨rfl,by omega,by omega⟩]
      ·rw[if_neg (by omega),if_neg (by omega)]
    rw[eL] at ls
    ((try simp (maxSteps:=3000000) (dsimp:=false) (disch:=first|omega|simp only[lnx];omega) only[↓ypre,ypost,↓reduceIte,reduceEqDiff,reduceAdd,reduceSub,reduceLeDiff,zz0,ynew,f0,f6,f7,f8,f18,f19,f20,f21,f22,f23,f134,f135,f136,f142,f143,f144,decide_eq_false hlty,wrap64_in]);try simp only[yback])
    refine InvQ_go (W-(c+1)) (by omega) ⟨(c+1),rfl,by omega,(by first|rfl|exact f0|(simp only[upd_apply];rfl)|(show I64 _=_;congr 1;omega)),(by first|rfl|exact f6|(simp only[upd_apply];rfl)|(show I64 _=_;congr 1;omega)),(by first|rfl|exact f7|(simp only[upd_apply];rfl)|(show I64 _=_;congr 1;omega)),(by first|rfl|exact f8|(simp only[upd_apply];rfl)|(show I64 _=_;congr 1;omega)),(by first|rfl|exact f18|(simp only[upd_apply];rfl)|(show I64 _=_;congr 1;omega)),(by first|rfl|exact f19|(simp only[upd_apply];rfl)|(show I64 _=_;congr 1;omega)),(by first|rfl|exact f20|(simp only[upd_apply];rfl)|(show I64 _=_;congr 1;omega)),(by first|rfl|exact f134|(simp only[upd_apply];rfl)|(show I64 _=_;congr 1;omega)),(by first|rfl|exact f135|(simp only[upd_apply];rfl)|(show I64 _=_;congr 1;omega)),(by first|rfl|exact f136|(simp only[upd_apply];rfl)|(show I64 _=_;congr 1;omega)),(by first|rfl|exact f142|(simp only[upd_apply];rfl)|(show I64 _=_;congr 1;omega)),(by first|rfl|exact f143|(simp only[upd_apply];rfl)|(show I64 _=_;congr 1;omega)),(by first|rfl|exact f144|(simp only[upd_apply];rfl)|(show I64 _=_;congr 1;omega)),pp,ls⟩
   have ec:c=W:=by omega
   subst ec
   have eT':(gen c fun y=>if y<c then tb T i y else 0)=T.getD i []:=(gen_ext gw fun z hz=>by rw[if_pos hz];rfl).symm
   rw[eT'] at ls
   have pK5:=pre_len pp
   ((try simp (maxSteps:=3000000) (dsimp:=false) (disch:=first|omega|simp only[lnx];omega) only[↓ypre,ypost,↓reduceIte,reduceEqDiff,reduceAdd,reduceSub,reduceLeDiff,zz0,ynew,f0,f6,f7,f8,f18,f19,f20,f134,f135,f136,f142,f143,f144,decide_eq_false hltc,sl_cells,sl_one]);try simp only[yback])
   rw[←gw]
   have tl5:=tl.pre pp
   refine tl5.app (by omega) (fun j hj=>by
    obtain⟨fu,o⟩:=(tl.rows j hj).2
    have:=o.lt
    omega) ls (by omega) (by omega) fun H9 l9 tl9 keep9 pre9=>?_
   have st9:StayT H1.length K5 H9:=⟨by omega,fun h0 hh q=>pre9 h0 (Nat.le_trans hh tl.low) q,fun m' b' g q1 q2=>keep9 m' b' (fun e=>by
    have g3:=tl5.g
    rw[e,g3] at g
    cases g
    exact q2 rfl) g⟩
   ((try simp (maxSteps:=3000000) (dsimp:=false) (disch:=first|omega|simp only[lnx];omega) only[↓ypre,ypost,↓reduceIte,reduceEqDiff,reduceAdd,reduceSub,reduceLeDiff,zz0,ynew,f0,f6,f7,f8,f18,f19,f20,f134,f135,f136,f142,f143,f144,wrap64_in]);try simp only[yback])
   refine InvQ_go (rows.length-(i+1)) (by omega) ⟨(i+1),(K5.length+1),false,(L++[(K4.length,T.getD i [])]),rfl,by omega,(by first|rfl|exact f0|(simp only[upd_apply];rfl)|(show I64 _=_;congr 1;omega)),(by first|rfl|exact f6|(simp only[upd_apply];rfl)|(show I64 _=_;congr 1;omega)),(by first|rfl|exact f7|(simp only[upd_apply];rfl)|(show I64 _=_;congr 1;omega)),(by rw[gw];exact f8),(by first|rfl|exact f18|(simp only[upd_apply];rfl)|(show I64 _=_;congr 1;omega)),(by first|rfl|exact f134|(simp only[upd_apply];rfl)|(show I64 _=_;congr 1;omega)),(by first|rfl|exact f135|(simp only[upd_apply];rfl)|(show I64 _=_;congr 1;omega)),(by first|rfl|exact f136|(simp only[upd_apply];rfl)|(show I64 _=_;congr 1;omega)),(sy.trans ((StayT.of pp).trans st9)),tl9,(by rw[List.map_append,hL,take_next (d:=[]) hiT];rfl)⟩
  have ei:i=rows.length:=by omega
  subst ei
  rw[←sl',List.take_of_length_le (Nat.le_refl _)] at hL
  have g7K:=sy.get _ _ g7A (by simp) (by simp)
  ((try simp (maxSteps:=3000000) (dsimp:=false) (disch:=first|omega|simp only[lnx];omega) only[↓ypre,ypost,↓reduceIte,reduceEqDiff,reduceAdd,reduceSub,reduceLeDiff,zz0,ynew,f0,f6,f7,f8,f18,f134,f135,f136,decide_eq_false hlt,rdn_of g7K]);try simp only[yback])
  have hrs:=tl.rowsS
  rw[hL] at hrs
  have o0:Way2 K4 H1.length sv (.slice none 0 0) ⟨p,n,st0,[]⟩:=⟨wvA.keep fun m' c' f' _ _ g=>sy.get _ _ g (by simp) (by simp),⟨fun r hr=>by simp at hr,.inl ⟨rfl,rfl⟩⟩⟩
  rw[show Value.agg #[I64 p,I64 n,sv,.slice none 0 0]=prgV ⟨p,n,st0,[]⟩ sv (.slice none 0 0) from rfl]
  have kA:=pre_len hp1A
  refine i_finished hp hn o0 (by omega) hrs (fun i hi=>by
   obtain⟨q1,q2⟩:=gT i hi
   exact⟨allIn_iff.2 fun j hj=>q2 j (by omega),by omega⟩) (by omega) (by show st0.length≤100000;omega) (by simp) fun v' w' H' sy' o' ob'=>?_
  have pH:H1<+:H':=sy'.pre _ (Nat.le_refl _) (sy.pre _ (Nat.le_refl _) hp1A)
  have g6:=pre_get pH hb1
  have lt6:=get_lt g6
  obtain⟨ep,en,_,_⟩:=finP_facts (x:=⟨p,n,st0,[]⟩) (rows:=T) (N:=10000) hp (fun i hi=>by
   obtain⟨q1,q2⟩:=gT i hi
   exact⟨allIn_iff.2 fun j hj=>q2 j (by omega),by omega⟩) hn (i:=T.length) (Nat.le_refl _)
  ((try simp (maxSteps:=3000000) (dsimp:=false) (disch:=first|omega|simp only[lnx];omega) only[↓ypre,ypost,↓reduceIte,reduceEqDiff,reduceAdd,reduceSub,reduceLeDiff,zz0,ynew,f0,f6,f7,f8,f18,f134,f135,f136,prgV,o'.st.one,o'.st.cells,o'.out.one,o'.out.cells,wr_of g6]);try simp only[yback])
  have:=hQ v' w' _ (pre_put (b:=⟨[I64 (finP ⟨p,n,st0,[]⟩ T T.length).p,I64 (finP ⟨p,n,st0,[]⟩ T T.length).n,v',w'],70,false,true⟩) (p1.trans pH) (Nat.le_refl _)) ⟨(o'.st.put_ty g6 (by simp)).mlo (by omega),(o'.out.put_ty g6 (by simp)).mlo (by omega)⟩ (ob' (by omega))
  unfold prgV at this
  exact this
 obtain⟨b1,b2,b3,b4,_⟩:=bst_ok hp si.gt hT1 (by omega)
 have sg:=si.go hp (by omega) (by omega)
 have est:(stepS p s).st=s.st++[[((bst p s.T).l:Int),((bst p s.T).j:Int),((bst p s.T).r:Int)]]:=rfl
 have eT:(stepS p s).T=mvT p (bst p s.T) s.T:=rfl
 generalize hbb:bst p s.T=bb at *
 have ct7:=ct.pre p67
 have ixl:∀ kk:IntKind,ixsV 5 (tv nb (N+s.st.length)) (.int kk (bb.l:Int))=_:=fun kk=>ColT.ix (by omega)
 have ixj:∀ kk:IntKind,ixsV 5 (tv nb (N+s.st.length)) (.int kk (bb.j:Int))=_:=fun kk=>ColT.ix (by omega)
 have rnl:=ct7.rdn (c:=bb.l) (by omega)
 have rnj:=ct7.rdn (c:=bb.j) (by omega)
 have ca:=hcol bb.l (by omega)
 have cb:=hcol bb.j (by omega)
 generalize hqa:cols.getD bb.l []=qa at *
 generalize hqb:cols.getD bb.j []=qb at *
 ((try simp (maxSteps:=3000000) (dsimp:=false) (disch:=first|omega|simp only[lnx];omega) only[↓ypre,ypost,↓reduceIte,reduceEqDiff,reduceAdd,reduceSub,reduceLeDiff,zz0,ynew,f0,f2,f6,f7,f8,decide_eq_true hbm,rd1_of hb7,ixl,rnl,ixj,rnj]);try simp only[yback])
 refine i_rowsWith (qa:=qa) (qb:=qb) hp si.gt hT30 (i:=bb.l) (j:=bb.j) (by omega) (by omega) ca cb ⟨b3,b4⟩ fun H8 p8=>?_
 ((try simp (maxSteps:=3000000) (dsimp:=false) (disch:=first|omega|simp only[lnx];omega) only[↓ypre,ypost,↓reduceIte,reduceEqDiff,reduceAdd,reduceSub,reduceLeDiff,zz0,ynew,f0,f2,f6,f7,f8,cel_all,cel_len,List.length_replicate,cellsL_cel]);try simp only[yback])
 generalize hH9:AH.new H8 _=H9
 obtain⟨hb9,p9,n9⟩:=new_facts hH9
 have p89:=p8.trans p9
 have k8:=pre_len p8
 have ct9:=ct7.pre p89
 have g13:=pre_get p89 hb7
 have g79:=pre_get (p67.trans p89) g7
 have wv9:=wv.pre (p67.trans p89)
 have pp9:=pp.trans (p67.trans p89)
 have lnbK:=get_lt ct.g
 obtain⟨SS',hSS⟩:∃ SS':Nat→Bool,SS'=mvS p bb s.T:=⟨_,rfl⟩
 have eS:mkB p s.T bb.l bb.j bb.r=SS':=by rw[hSS];rfl
 have lne:bb.l≠bb.j:=by omega
 rw[eS]
 have ctS:ColT H9 nb fl ((cols.set bb.l (lcol s.T SS' bb.l 0 qa)).set bb.j (lcol s.T SS' bb.j 0 qb)):=by
  rw[lcol_zero ca.1,lcol_zero cb.1]
  have e1:cols.set bb.l qa=cols:=by
   rw[←hqa,List.getD_eq_getElem?_getD,List.getElem?_eq_getElem (by omega)]
   exact List.set_getElem_self (by omega)
  have e2:cols.set bb.j qb=cols:=by
   rw[←hqb,List.getD_eq_getElem?_getD,List.getElem?_eq_getElem (by omega)]
   exact List.set_getElem_self (by omega)
  rw[e1,e2]
  exact ct9
 have gN0:H9.get H8.length=some ⟨cel .u32 (ncol s.T SS' bb.l 0),246,false,true⟩:=by
  rw[ncol_zero]
  exact hb9
 refine WC_loop_inv (fun m f K7=>∃ (c:Nat),m=((p.toNat-1))-c∧c≤((p.toNat-1))∧f 0=I64 p∧f 2=u∧f 6=.pointer (some ⟨h.length,0,none⟩)∧f 7=.pointer (some ⟨H2.length,0,none⟩)∧f 8=tv nb (N+s.st.length)∧f 13=.pointer (some ⟨H6.length,0,none⟩)∧f 15=U32 (bs s.T.length SS')∧f 16=.pointer (some ⟨H8.length,0,none⟩)∧f 17=I64 ((c:Int)+1)∧(ColT K7 nb fl ((cols.set bb.l (lcol s.T SS' bb.l c qa)).set bb.j (lcol s.T SS' bb.j c qb)))∧(K7.get H8.length=some ⟨cel .u32 (ncol s.T SS' bb.l c),246,false,true⟩)∧(∀ m b,m≠nb→m≠H8.length→H9.get m=some b→K7.get m=some b)∧(K7.length=H9.length)∧(H1<+:K7)) ?_ (((p.toNat-1))-0) _ _ ⟨0,rfl,by omega,(by first|rfl|exact f0|(simp[upd_apply];done)),(by first|rfl|exact f2|(simp[upd_apply];done)),(by first|rfl|exact f6|(simp[upd_apply];done)),(by first|rfl|exact f7|(simp[upd_apply];done)),(by first|rfl|exact f8|(simp[upd_apply];done)),(by first|rfl|simp[upd_apply]),(by first|rfl|simp[upd_apply]),(by first|rfl|simp[upd_apply]),(by first|rfl|simp[upd_apply]),ctS,gN0,fun m b _ _ g=>g,rfl,pp9⟩
 rintro m f K7 ⟨c,rfl,hc,f0,f2,f6,f7,f8,f13,f15,f16,f17,ctS,gN,hk,lK,pp⟩
 have g13K:=hk _ _ (by omega) (by omega) g13
 by_cases hltc:(c:Int)+1<p
 ·have hc5:c+1<5:=by omega
  have eI:(c:Int)+1=((c+1:Nat):Int):=by omega
  rw[eI] at f17
  have cl2:((cols.set bb.l (lcol s.T SS' bb.l c qa)).set bb.j (lcol s.T SS' bb.j c qb)).length=cols.length:=by simp
  have ixa1:=ixa_u (n:=nb) (off:=bb.l*5) (len:=5) (kk:=.i64) (j:=c+1) hc5
  have ixa2:=ixa_u (n:=nb) (off:=bb.j*5) (len:=5) (kk:=.i64) (j:=c+1) hc5
  have ixaN:=ixa_u (n:=H8.length) (off:=0) (len:=5) (kk:=.i64) (j:=c+1) hc5
  rw[Nat.zero_add] at ixaN
  have rA:=ctS.rd (c:=bb.l) (x:=c+1) (by omega) hc5
  rw[get2_l lne (by omega) (by omega),lcol_at ca hc5] at rA
  have rA:K7.rd1 nb (bb.l*5+(c+1))=some (U32 (bs s.T.length fun k=>decide (tb s.T k bb.l=((c+1:Nat):Int)))):=rA
  have an1:=bin_and (R:=s.T.length) (f:=fun k=>decide (tb s.T k bb.l=((c+1:Nat):Int))) (g:=SS') (by omega)
  have ltN:=get_lt gN
  have nl:(ncol s.T SS' bb.l c).length=5:=gen_len
  have wN:K7.wr H8.length (c+1) [U32 (bs s.T.length fun k=>decide (tb s.T k bb.l=((c+1:Nat):Int))&&SS' k)]=some (K7.put H8.length ⟨cel .u32 (ncol s.T SS' bb.l (c+1)),246,false,true⟩):=by
   rw[wr_of gN,if_pos ⟨rfl,by simp only[cel_len,nl,List.length_singleton];omega⟩,←ncol_set hc5]
   unfold U32
   rw[cel_set (by rw[nl];exact hc5)]
  generalize hKN:K7.put H8.length ⟨cel .u32 (ncol s.T SS' bb.l (c+1)),246,false,true⟩=KN at *
  have gN':KN.get H8.length=some ⟨cel .u32 (ncol s.T SS' bb.l (c+1)),246,false,true⟩:=by rw[←hKN];exact get_put_same ltN
  have ctN:ColT KN nb fl ((cols.set bb.l (lcol s.T SS' bb.l c qa)).set bb.j (lcol s.T SS' bb.j c qb)):=by rw[←hKN];exact ctS.put_ne (by omega)
  have hkN:∀ m b,m≠nb→m≠H8.length→H9.get m=some b→KN.get m=some b:=fun m b h1 h2 g=>by rw[←hKN,get_put_ne (fun e=>h2 e.symm)];exact hk m b h1 h2 g
  have g13N:=hkN _ _ (by omega) (by omega) g13
  have lKN:KN.length=K7.length:=by rw[←hKN,len_put]
  have rA2:=ctN.rd (c:=bb.l) (x:=c+1) (by omega) hc5
  rw[get2_l lne (by omega) (by omega),lcol_at ca hc5] at rA2
  have rA2:KN.rd1 nb (bb.l*5+(c+1))=some (U32 (bs s.T.length fun k=>decide (tb s.T k bb.l=((c+1:Nat):Int)))):=rA2
  have an2:=bin_andNot (R:=s.T.length) (f:=fun k=>decide (tb s.T k bb.l=((c+1:Nat):Int))) (g:=SS') (by omega)
  obtain⟨KA,wA,eA,ctA'⟩:=ctN.wr (c:=bb.l) (x:=c+1) (v:=((bs s.T.length (fun k=>decide (tb s.T k bb.l=((c+1:Nat):Int))&&!SS' k):Nat):Int)) (by omega) hc5
  have wA:KN.wr nb (bb.l*5+(c+1)) [U32 (bs s.T.length (fun k=>decide (tb s.T k bb.l=((c+1:Nat):Int))&&!SS' k))]=some KA:=wA
  rw[get2_l lne (by omega) (by omega),lcol_set hc5] at ctA'
  have gN'':KA.get H8.length=some ⟨cel .u32 (ncol s.T SS' bb.l (c+1)),246,false,true⟩:=by rw[eA,get_put_ne (by omega)];exact gN'
  have hkA:∀ m b,m≠nb→m≠H8.length→H9.get m=some b→KA.get m=some b:=fun m b h1 h2 g=>by rw[eA,get_put_ne (fun e=>h1 e.symm)];exact hkN m b h1 h2 g
  have g13A:=hkA _ _ (by omega) (by omega) g13
  have lKA:KA.length=K7.length:=by rw[eA,len_put,lKN]
  have cl3:(((cols.set bb.l (lcol s.T SS' bb.l c qa)).set bb.j (lcol s.T SS' bb.j c qb)).set bb.l (lcol s.T SS' bb.l (c+1) qa)).length=cols.length:=by simp
  have eB:(((cols.set bb.l (lcol s.T SS' bb.l c qa)).set bb.j (lcol s.T SS' bb.j c qb)).set bb.l (lcol s.T SS' bb.l (c+1) qa)).getD bb.j []=lcol s.T SS' bb.j c qb:=by
   rw[set_getD' (by rw[cl2];omega),if_neg (fun e=>lne e.symm),get2_j (by omega)]
  have rB:=ctA'.rd (c:=bb.j) (x:=c+1) (by omega) hc5
  rw[eB,lcol_at cb hc5] at rB
  have rB:KA.rd1 nb (bb.j*5+(c+1))=some (U32 (bs s.T.length fun k=>decide (tb s.T k bb.j=((c+1:Nat):Int)))):=rB
  have an3:=bin_andNot (R:=s.T.length) (f:=fun k=>decide (tb s.T k bb.j=((c+1:Nat):Int))) (g:=SS') (by omega)
  obtain⟨KB,wB,eKB,ctB'⟩:=ctA'.wr (c:=bb.j) (x:=c+1) (v:=((bs s.T.length (fun k=>decide (tb s.T k bb.j=((c+1:Nat):Int))&&!SS' k):Nat):Int)) (by omega) hc5
  have wB:KA.wr nb (bb.j*5+(c+1)) [U32 (bs s.T.length (fun k=>decide (tb s.T k bb.j=((c+1:Nat):Int))&&!SS' k))]=some KB:=wB
  rw[eB,lcol_set hc5,set2_next lne] at ctB'
  have gNB:KB.get H8.length=some ⟨cel .u32 (ncol s.T SS' bb.l (c+1)),246,false,true⟩:=by rw[eKB,get_put_ne (by omega)];exact gN''
  have hkB:∀ m b,m≠nb→m≠H8.length→H9.get m=some b→KB.get m=some b:=fun m b h1 h2 g=>by rw[eKB,get_put_ne (fun e=>h1 e.symm)];exact hkA m b h1 h2 g
  have lKB:KB.length=K7.length:=by rw[eKB,len_put,lKA]
  have ppB:H1<+:KB:=by
   rw[eKB,eA,←hKN]
   exact pre_put (pre_put (pre_put pp (by have:=pre_len pp9;omega)) lnb) lnb
  ((try simp (maxSteps:=3000000) (dsimp:=false) (disch:=first|omega|simp only[lnx];omega) only[↓ypre,ypost,↓reduceIte,reduceEqDiff,reduceAdd,reduceSub,reduceLeDiff,zz0,ynew,f0,f2,f6,f7,f8,f13,f15,f16,f17,decide_eq_true (show ((c+1:Nat):Int)<p by omega),rd1_of g13K,ixl,ixa1,rA,an1,ixaN,U_one,U_cells,wN,rd1_of g13N,rA2,an2,wA,rd1_of g13A,ixj,ixa2,rB,an3,wB,wrap64_in]);try simp only[yback])
  refine InvQ_go (((p.toNat-1))-(c+1)) (by omega) ⟨(c+1),rfl,by omega,(by first|rfl|exact f0|(simp only[upd_apply];rfl)|(show I64 _=_;congr 1;omega)),(by first|rfl|exact f2|(simp only[upd_apply];rfl)|(show I64 _=_;congr 1;omega)),(by first|rfl|exact f6|(simp only[upd_apply];rfl)|(show I64 _=_;congr 1;omega)),(by first|rfl|exact f7|(simp only[upd_apply];rfl)|(show I64 _=_;congr 1;omega)),(by first|rfl|exact f8|(simp only[upd_apply];rfl)|(show I64 _=_;congr 1;omega)),(by first|rfl|exact f13|(simp only[upd_apply];rfl)|(show I64 _=_;congr 1;omega)),(by first|rfl|exact f15|(simp only[upd_apply];rfl)|(show I64 _=_;congr 1;omega)),(by first|rfl|exact f16|(simp only[upd_apply];rfl)|(show I64 _=_;congr 1;omega)),(by show I64 _=I64 _;congr 1),ctB',gNB,hkB,(by rw[lKB,lK]),ppB⟩
 have ec:c=p.toNat-1:=by omega
 subst ec
 have nl:(ncol s.T SS' bb.l (p.toNat-1)).length=5:=gen_len
 have tkN:(cel .u32 (ncol s.T SS' bb.l (p.toNat-1))).take 5=cel .u32 (ncol s.T SS' bb.l (p.toNat-1)):=List.take_of_length_le (by rw[cel_len];omega)
 have spl:splice (cel .u32 (List.replicate 5 0)) 0 (cel .u32 (ncol s.T SS' bb.l (p.toNat-1)))=cel .u32 (ncol s.T SS' bb.l (p.toNat-1)):=by
  rw[cel_splice,nl]
  simp
 have cl2:((cols.set bb.l (lcol s.T SS' bb.l (p.toNat-1) qa)).set bb.j (lcol s.T SS' bb.j (p.toNat-1) qb)).length=N+s.st.length:=by simp[hcl]
 have wc:WayX (246) .u32 5 K7 H1.length [] (tv nb (N+s.st.length)) ((cols.set bb.l (lcol s.T SS' bb.l (p.toNat-1) qa)).set bb.j (lcol s.T SS' bb.j (p.toNat-1) qb)):=by
  have:=ctS.way (ex:=[]) lnb (by simp)
  rw[cl2] at this
  exact this
 have k19:=pre_len pp9
 ((try simp (maxSteps:=3000000) (dsimp:=false) (disch:=first|omega|simp only[lnx];omega) only[↓ypre,ypost,↓reduceIte,reduceEqDiff,reduceAdd,reduceSub,reduceLeDiff,zz0,ynew,f0,f2,f6,f7,f8,f13,f15,f16,f17,decide_eq_false hltc,rdn_of gN,cel_len,nl,tkN,cel_all,cellsL_cel,List.length_replicate,spl]);try simp only[yback])
 refine wc.appK (q:=ncol s.T SS' bb.l (p.toNat-1)) nl (by rw[cl2];omega) (by rw[cl2];omega) (by omega) (by simp) fun cv H10 l10 pre10 keep10 wc10=>?_
 obtain⟨nb',fl',rfl,hnb',ct10⟩:=wc10.colT (by simp)
 have g13b:=keep10 _ _ (.inr (by simp)) (hk _ _ (by omega) (by omega) g13)
 have g7b:=keep10 _ _ (.inr (by simp)) (hk _ _ (by
  rintro rfl
  have:=ct9.g
  rw[g79] at this
  have:=congrArg (fun b:Option Blk=>b.map (·.e)) this
  simp at this) (by omega) g79)
 have wv10:WayX (181) .i64 3 H10 H1.length [] sv s.st:=wv9.keep fun m' c' f' _ _ g=>keep10 _ _ (.inr (by simp)) (hk _ _ (by
  rintro rfl
  have:=ct9.g
  rw[g] at this
  cases this) (by
  rintro rfl
  rw[hb9] at g
  cases g) g)
 have pp10:H1<+:H10:=pre10 _ (Nat.le_refl _) pp
 ((try simp (maxSteps:=3000000) (dsimp:=false) (disch:=first|omega|simp only[lnx];omega) only[↓ypre,ypost,↓reduceIte,reduceEqDiff,reduceAdd,reduceSub,reduceLeDiff,zz0,ynew,f0,f2,f6,f7,f8,f13,f15,f16,f17,rd1_of g7b,rd1_of g13b]);try simp only[yback])
 refine wv10.appK (q:=[(bb.l:Int),(bb.j:Int),(bb.r:Int)]) rfl (by omega) (by omega) (by omega) (by simp) fun sv' H11 l11 pre11 keep11 wv11=>?_
 have g7c:=keep11 _ _ (.inr (by simp)) g7b
 have lt7:=get_lt g7c
 have ct11:ColT H11 nb' fl' (((cols.set bb.l (lcol s.T SS' bb.l (p.toNat-1) qa)).set bb.j (lcol s.T SS' bb.j (p.toNat-1) qb))++[ncol s.T SS' bb.l (p.toNat-1)]):=⟨keep11 _ _ (.inr (by simp)) ct10.g,ct10.wid⟩
 ((try simp (maxSteps:=3000000) (dsimp:=false) (disch:=first|omega|simp only[lnx];omega) only[↓ypre,ypost,↓reduceIte,reduceEqDiff,reduceAdd,reduceSub,reduceLeDiff,zz0,ynew,f0,f2,f6,f7,f8,f13,f15,f16,f17,wv11.one,wv11.cells,wr_of g7c,wrap64_in]);try simp only[yback])
 have hlt:=sg.2
 have lst:(stepS p s).st.length=s.st.length+1:=by rw[est];simp
 have sg1:=sg.1
 have f8':tv nb' (((cols.set bb.l (lcol s.T SS' bb.l (p.toNat-1) qa)).set bb.j (lcol s.T SS' bb.j (p.toNat-1) qb))++[ncol s.T SS' bb.l (p.toNat-1)]).length=tv nb' (N+(stepS p s).st.length):=by rw[List.length_append,cl2,lst];rfl
 refine InvQ_go (nzT rows-(nzT rows-nzT (stepS p s).T)) (by omega) ⟨nzT rows-nzT (stepS p s).T,stepS p s,sv',nb',fl',_,rfl,by omega,f0,f2,f6,f7,f8',by omega,sg1,pre_put (pre11 _ (Nat.le_refl _) pp10) (by omega),by omega,ct11.put_ne ?_,by rw[List.length_append,cl2,lst];rfl,fun i hi=>?_,?_,get_put_same lt7⟩
 ·rintro rfl
  have:=ct11.g
  rw[g7c] at this
  have:=congrArg (fun b:Option Blk=>b.map (·.e)) this
  simp at this
 ·rw[eT]
  have g:=si.gt
  by_cases e1:i<N+s.st.length
  ·rw[getD_app_l (by rw[cl2];exact e1)]
   by_cases e2:i=bb.l
   ·subst e2
    rw[get2_l lne (by omega) (by omega),hSS]
    exact col_left g hp5 (by omega) (by omega) (.inl rfl) ca
   ·by_cases e3:i=bb.j
    ·subst e3
     rw[get2_j (by omega),hSS]
     exact col_left g hp5 (by omega) (by omega) (.inr rfl) cb
    ·rw[get2_o e2 e3 (by omega) (by omega)]
     exact col_other g (by omega) (by omega) e1 e2 e3 (hcol i e1)
  ·have e2:i=N+s.st.length:=by omega
   subst e2
   rw[getD_app_r (by rw[cl2];exact Nat.le_refl _),cl2,Nat.sub_self,hSS]
   exact col_new g hp5 (by omega) (by omega)
 ·rw[est]
  exact (wv11.put_ty g7c (by simp)).mlo (by omega)
end Go.Proofs.Ytapafdpnmakekaa.X

set_option linter.unusedVariables false
set_option linter.unusedSimpArgs false
set_option maxRecDepth 20000
set_option maxHeartbeats 4000000
namespace Go.Proofs.Ytapafdpnmakekaa.X
open Go Go.RowKit
def lsF (x:Sch) (i n:Nat):List (List Int):=x.ps.map fun q=>(seg q i).take n
theorem lsF_len {x:Sch} {i n:Nat}:(lsF x i n).length=x.ps.length:=by simp[lsF]
theorem lsF_get {x:Sch} {i n j:Nat} (hj:j<x.ps.length):(lsF x i n).getD j []=(seg (x.ps.getD j []) i).take n:=by
 simp[lsF,List.getD_eq_getElem?_getD,List.getElem?_map,List.getElem?_eq_getElem hj]
def fmX (x:Sch) (i:Nat):List (List Int):=if i=2 then trL (lsF x 2 (x.n*x.k).toNat) (x.n*x.k).toNat else lsF x i (pl x i).toNat
def nuX (x:Sch) (i:Nat):Int:=if i=2 then x.ps.length else pl x i
def pgO (p n:Int) (rows:List (List Int)) (b:Bool):Prg:=if b=true then shP p n rows else finP ⟨p,n,[],[]⟩ rows rows.length
def pgX (x:Sch) (b:Bool) (i:Nat):Prg:=pgO x.p (nuX x i) (fmX x i) b
theorem seg_in {x:Sch} {q:List Int} {i j:Nat} (hq:By 27 q) (ho:okProd x q=true) (hi:i<3) (hj:j<9):0≤(seg q i).getD j 0∧(seg q i).getD j 0<x.p:=by
 have hb:=(hq.seg hi).2 j hj
 have hf:okForm x.p (pl x i) (seg q i)=true:=by
  unfold okProd at ho
  simp only[Bool.and_eq_true] at ho
  have:i=0∨i=1∨i=2:=by omega
  rcases this with rfl|rfl|rfl
  ·exact ho.1.1.1
  ·exact ho.1.1.2
  ·exact ho.1.2
 unfold okForm at hf
 rw[List.all_eq_true] at hf
 have:=hf j (List.mem_range.2 hj)
 unfold okAt at this
 rw[decide_eq_true_eq] at this
 exact⟨hb.1,this.1⟩
theorem isX_facts {x:Sch} (h:isX x=true):SZ x∧isP x.p=true∧x.ps.length≤30∧∀ j,j<x.ps.length→okProd x (x.ps.getD j [])=true:=by
 unfold isX at h
 simp only[Bool.and_eq_true,decide_eq_true_eq] at h
 obtain⟨⟨h1,h2⟩,h3⟩:=h
 refine⟨szX_facts h1,?_,h2,fun j hj=>?_⟩
 ·unfold szX at h1
  simp only[Bool.and_eq_true] at h1
  exact h1.1.1.1
 ·rw[List.all_eq_true] at h3
  refine h3 _ ?_
  rw[List.getD_eq_getElem?_getD,List.getElem?_eq_getElem hj]
  exact List.getElem_mem hj
theorem take_getD {l:List Int} {n j:Nat} (h:j<n):(l.take n).getD j 0=l.getD j 0:=by
 rw[List.getD_eq_getElem?_getD,List.getElem?_take,if_pos h,←List.getD_eq_getElem?_getD]
theorem fmX_ok {x:Sch} {h:AH} {v:Value} (hv:Prods h v x.ps) (hx:isX x=true) (h0:1≤x.ps.length) {i:Nat} (hi:i<3):lsOK x.p (nuX x i) (fmX x i)=true:=by
 obtain⟨z,hp,hl,ho⟩:=isX_facts hx
 have zn:=z.nm
 have zm:=z.mk2
 have zk:=z.nk
 have hpl:1≤pl x i∧pl x i≤9:=by
  have:i=0∨i=1∨i=2:=by omega
  rcases this with rfl|rfl|rfl<;>simp[pl]<;>omega
 refine lsOK_iff.2 ⟨hp,?_,?_,?_⟩
 ·unfold nuX
  split
  ·omega
  ·omega
 ·unfold fmX
  split
  ·rw[trL_len]
   omega
  ·rw[lsF_len]
   omega
 ·refine isMat_iff.2 fun j hj=>?_
  by_cases h2:i=2
  ·subst h2
   rw[show fmX x 2=trL (lsF x 2 (x.n*x.k).toNat) (x.n*x.k).toNat from rfl] at hj ⊢
   rw[show nuX x 2=(x.ps.length:Int) from rfl]
   rw[trL_len] at hj
   rw[trL_get hj,gen_len,lsF_len]
   refine⟨rfl,allIn_iff.2 fun c hc=>?_⟩
   rw[gen_len] at hc
   rw[gen_get hc,lsF_get hc,take_getD hj]
   exact seg_in (hv.by hc) (ho c hc) (by omega) (by omega)
  ·unfold fmX at hj ⊢
   unfold nuX
   rw[if_neg h2] at hj
   rw[if_neg h2,if_neg h2]
   rw[lsF_len] at hj
   rw[lsF_get hj]
   have sl:=((hv.by hj).seg hi).1
   refine⟨by rw[List.length_take,sl];omega,allIn_iff.2 fun c hc=>?_⟩
   rw[List.length_take,sl] at hc
   rw[take_getD (by omega)]
   exact seg_in (hv.by hj) (ho j hj) hi (by omega)
end Go.Proofs.Ytapafdpnmakekaa.X

set_option linter.unusedVariables false
set_option linter.unusedSimpArgs false
set_option maxRecDepth 20000
set_option maxHeartbeats 4000000
namespace Go.Proofs.Ytapafdpnmakekaa.X
open Go Go.RowKit
open Nat (reduceEqDiff reduceAdd reduceSub reduceLeDiff)
theorem wrap8_in {x:Int} (h0:0≤x) (h1:x≤255):IntKind.u8.wrap x=x:=by
 simp only[IntKind.wrap]
 have:IntKind.u8.bits=8:=rfl
 rw[this,show IntKind.u8.signed=false from rfl,Bool.false_and,if_neg (by decide)]
 omega
theorem By.set {w:Nat} {q:List Int} {j:Nat} {x:Int} (hq:By w q) (hx:0≤x∧x≤255) (hj:j<w):By w (q.set j x):=by
 refine⟨by rw[List.length_set];exact hq.1,fun i hi=>?_⟩
 rw[set_getD (by rw[hq.1];exact hj)]
 split
 ·exact hx
 ·exact hq.2 i hi
def FQ (p m:Int) (q:List Int):Prop:=By 9 q∧okForm p m q=true
theorem okForm_at {p m:Int} {q:List Int} (h:okForm p m q=true) {j:Nat} (hj:j<9):q.getD j 0<p∧(m≤(j:Int)→q.getD j 0=0):=by
 unfold okForm at h
 have:=List.all_eq_true.1 h j (List.mem_range.2 hj)
 exact of_decide_eq_true this
theorem FQ.set {p m:Int} {q:List Int} {j:Nat} {x:Int} (f:FQ p m q) (hp:p≤255) (hx:0≤x∧x<p) (hj:j<9) (hm:(j:Int)<m):FQ p m (q.set j x):=by
 refine⟨f.1.set ⟨hx.1,by omega⟩ hj,okForm_t fun i hi=>?_⟩
 have:=okForm_at f.2 hi
 refine decide_eq_true ?_
 rw[set_getD (by rw[f.1.1];exact hj)]
 split
 ·exact⟨hx.2,fun h=>by omega⟩
 ·exact this
theorem FQ.zero {p m:Int} (hp:1≤p):FQ p m z9:=by
 have hz:∀ j,z9.getD j 0=0:=fun j=>by
  show (List.replicate 9 (0:Int)).getD j 0=0
  rw[List.getD_eq_getElem?_getD,List.getElem?_replicate]
  split<;>rfl
 refine⟨⟨rfl,fun j _=>by rw[hz];omega⟩,okForm_t fun j hj=>decide_eq_true ?_⟩
 rw[hz]
 omega
theorem isZ_set {q:List Int} {j:Nat} {x:Int} (hq:q.length=9) (hj:j<9) (hx:x≠0):isZ (q.set j x)=false:=by
 cases e:isZ (q.set j x) with
 | false=>rfl
 | true=>
  exfalso
  have h1:q.set j x=z9:=by simpa [isZ] using e
  have h2:(q.set j x).getD j 0=x:=by rw[set_getD (by omega),if_pos rfl]
  rw[h1] at h2
  have:z9.getD j 0=0:=by
   show (List.replicate 9 (0:Int)).getD j 0=0
   rw[List.getD_eq_getElem?_getD,List.getElem?_replicate]
   split<;>rfl
  omega
theorem Kp.len {n:Nat} {h h':AH} (k:Kp n h h'):h.length≤h'.length:=k.1
theorem sp9:splice (cel .u8 (List.replicate 9 0)) 0 (cel .u8 (List.replicate 9 0))=cel .u8 z9:=rfl
theorem s_l01DrawForm {h0 h:AH} {n w:Nat} {p:Int} {Q:Value→AH→Prop} (s:Src h0 h n) (hp:2≤p∧p≤5) (hw:1≤w∧w≤9)
  (hQ:∀ q h',Kp n h h'→Src h0 h' n→FQ p w q→isZ q=false→Q (aggV .u8 q) h'):WF S 334 [srcP n,I64 p,I64 w] h Q:=by
 refine WF_fn (fn:=c334) rfl rfl ?_
 dsimp only[c334,oO,oM,oS,oG,oK,oE,oL,oF,oX,oN]
 have lt:=s.lt
 ((try simp (maxSteps:=3000000) (dsimp:=false) (disch:=first|omega|simp only[lnx];omega) only[↓ypre,ypost,↓reduceIte,reduceEqDiff,reduceAdd,reduceSub,reduceLeDiff,zz0,ynew,zeros9,fillL]);try simp only[yback])
 generalize hH1:AH.new h _=H1
 obtain⟨hb1,p1,n1⟩:=new_facts hH1
 ((try simp (maxSteps:=3000000) (dsimp:=false) (disch:=first|omega|simp only[lnx];omega) only[↓ypre,ypost,↓reduceIte,reduceEqDiff,reduceAdd,reduceSub,reduceLeDiff,zz0,ynew,zeros9,cel_len,List.length_replicate,cel_all,sp9]);try simp only[yback])
 generalize hH2:AH.new H1 _=H2
 obtain⟨hb2,p2,n2⟩:=new_facts hH2
 refine WC_loop_inv (fun m f K1=>∃ (i:Nat) (q:List Int),m=w-i∧i≤w∧f 0=srcP n∧f 1=I64 p∧f 2=I64 w∧f 6=.pointer (some ⟨h.length,0,none⟩)∧f 7=.pointer (some ⟨H1.length,0,none⟩)∧f 8=I64 i∧(Kp n h K1)∧(Src h0 K1 n)∧(FQ p w q)∧(K1.get h.length=some ⟨cel .u8 (List.replicate 9 0),136,false,true⟩)∧(K1.get H1.length=some ⟨cel .u8 q,136,false,true⟩)) ?_ (w-0) _ _ ⟨0,z9,rfl,by omega,(by first|rfl|simp[upd_apply]),(by first|rfl|simp[upd_apply]),(by first|rfl|simp[upd_apply]),(by first|rfl|simp[upd_apply]),(by first|rfl|simp[upd_apply]),(by first|rfl|simp[upd_apply]),Kp.of (p1.trans p2),s.kp (p1.trans p2),FQ.zero (by omega),pre_get p2 hb1,hb2⟩
 rintro m f K1 ⟨i,q,rfl,hi,f0,f1,f2,f6,f7,f8,kk,ss,fq,hg1,hg2⟩
 have q9:=fq.1.1
 by_cases hlt:(i:Int)<w
 ·((try simp (maxSteps:=3000000) (dsimp:=false) (disch:=first|omega|simp only[lnx];omega) only[↓ypre,ypost,↓reduceIte,reduceEqDiff,reduceAdd,reduceSub,reduceLeDiff,zz0,ynew,f0,f1,f2,f6,f7,f8,decide_eq_true hlt]);try simp only[yback])
  refine s_l01Next ss fun r h1 k1 l1 s1 hr _=>?_
  have g1:=k1.get (by omega) hg1
  have g2:=k1.get (by omega) hg2
  by_cases h0':r=0
  ·((try simp (maxSteps:=3000000) (dsimp:=false) (disch:=first|omega|simp only[lnx];omega) only[↓ypre,ypost,↓reduceIte,reduceEqDiff,reduceAdd,reduceSub,reduceLeDiff,zz0,ynew,f0,f1,f2,f6,f7,f8,decide_eq_true h0']);try simp only[yback])
   refine s_l01Next s1 fun r2 h2 k2 l2 s2 hr2 _=>?_
   have g1:=k2.get (by omega) g1
   have g2:=k2.get (by omega) g2
   have hr2:=hr2 (by omega)
   have st:=cel_set (k:=.u8) (q:=q) (j:=i) (x:=r2) (by omega)
   ((try simp (maxSteps:=3000000) (dsimp:=false) (disch:=first|omega|simp only[lnx];omega) only[↓ypre,ypost,↓reduceIte,reduceEqDiff,reduceAdd,reduceSub,reduceLeDiff,zz0,ynew,f0,f1,f2,f6,f7,f8,wrap8_in,↓WX_ixa,ixaV_ptr,Int.toNat_natCast,Nat.mul_one,wr_of g2,st,cel_len,q9]);try simp only[yback])
   refine⟨by omega,?_⟩
   ((try simp (maxSteps:=3000000) (dsimp:=false) (disch:=first|omega|simp only[lnx];omega) only[↓ypre,ypost,↓reduceIte,reduceEqDiff,reduceAdd,reduceSub,reduceLeDiff,zz0,ynew,f0,f1,f2,f6,f7,f8,wrap64_in]);try simp only[yback])
   refine InvQ_go (w-(i+1)) (by omega) ⟨(i+1),(_),rfl,by omega,(by first|rfl|exact f0|(simp only[upd_apply];rfl)|(show I64 _=_;congr 1;omega)),(by first|rfl|exact f1|(simp only[upd_apply];rfl)|(show I64 _=_;congr 1;omega)),(by first|rfl|exact f2|(simp only[upd_apply];rfl)|(show I64 _=_;congr 1;omega)),(by first|rfl|exact f6|(simp only[upd_apply];rfl)|(show I64 _=_;congr 1;omega)),(by first|rfl|exact f7|(simp only[upd_apply];rfl)|(show I64 _=_;congr 1;omega)),(by first|rfl|exact f8|(simp only[upd_apply];rfl)|(show I64 _=_;congr 1;omega)),((kk.trans (k1.trans k2)).putb (by omega)),(s2.putb (by omega) (by have:=pre_len s.p;omega)),(fq.set (by omega) hr2 (by omega) (by omega)),(by rw[get_put_ne (by omega)];exact g1),(get_put_same (get_lt g2))⟩
  ·((try simp (maxSteps:=3000000) (dsimp:=false) (disch:=first|omega|simp only[lnx];omega) only[↓ypre,ypost,↓reduceIte,reduceEqDiff,reduceAdd,reduceSub,reduceLeDiff,zz0,ynew,f0,f1,f2,f6,f7,f8,decide_eq_false h0',wrap64_in]);try simp only[yback])
   refine InvQ_go (w-(i+1)) (by omega) ⟨(i+1),(_),rfl,by omega,(by first|rfl|exact f0|(simp only[upd_apply];rfl)|(show I64 _=_;congr 1;omega)),(by first|rfl|exact f1|(simp only[upd_apply];rfl)|(show I64 _=_;congr 1;omega)),(by first|rfl|exact f2|(simp only[upd_apply];rfl)|(show I64 _=_;congr 1;omega)),(by first|rfl|exact f6|(simp only[upd_apply];rfl)|(show I64 _=_;congr 1;omega)),(by first|rfl|exact f7|(simp only[upd_apply];rfl)|(show I64 _=_;congr 1;omega)),(by first|rfl|exact f8|(simp only[upd_apply];rfl)|(show I64 _=_;congr 1;omega)),(kk.trans k1),s1,fq,g1,g2⟩
 ·((try simp (maxSteps:=3000000) (dsimp:=false) (disch:=first|omega|simp only[lnx];omega) only[↓ypre,ypost,↓reduceIte,reduceEqDiff,reduceAdd,reduceSub,reduceLeDiff,zz0,ynew,f0,f1,f2,f6,f7,f8,decide_eq_false hlt]);try simp only[yback])
  have t9:∀ q:List Int,q.length=9→(cel .u8 q).take 9=cel .u8 q:=fun q h=>List.take_of_length_le (by rw[cel_len,h];exact Nat.le_refl _)
  have fin:∀ (q':List Int) (h':AH),FQ p w q'→isZ q'=false→Kp n h h'→Src h0 h' n→h'.get h.length=some ⟨cel .u8 (List.replicate 9 0),136,false,true⟩ →
    Q (aggV .u8 q') (h'.put h.length ⟨cel .u8 q',136,false,true⟩):=fun q' h' fq' z kp' ss' g=>
   hQ q' _ (kp'.putb (Nat.le_refl _)) (ss'.putb (by omega) (pre_len s.p)) fq' z
  ((try simp (maxSteps:=3000000) (dsimp:=false) (disch:=first|omega|simp only[lnx];omega) only[↓ypre,ypost,↓reduceIte,reduceEqDiff,reduceAdd,reduceSub,reduceLeDiff,zz0,ynew,f0,f1,f2,f6,f7,f8,rdn_of hg2,cel_len,q9,t9]);try simp only[yback])
  refine s_l01Zero q9 fun h1 p1'=>?_
  have g1:=pre_get p1' hg1
  have g2:=pre_get p1' hg2
  cases z:isZ q with
  | true=>
   ((try simp (maxSteps:=3000000) (dsimp:=false) (disch:=first|omega|simp only[lnx];omega) only[↓ypre,ypost,↓reduceIte,reduceEqDiff,reduceAdd,reduceSub,reduceLeDiff,zz0,ynew,f0,f1,f2,f6,f7,f8]);try simp only[yback])
   refine s_l01Next (ss.kp p1') fun r h2 k2 l2 s2 hr _=>?_
   ((try simp (maxSteps:=3000000) (dsimp:=false) (disch:=first|omega|simp only[lnx];omega) only[↓ypre,ypost,↓reduceIte,reduceEqDiff,reduceAdd,reduceSub,reduceLeDiff,zz0,ynew,f0,f1,f2,f6,f7,f8,wrap64_in]);try simp only[yback])
   refine s_l01Next s2 fun r2 h3 k3 l3 s3 hr2 _=>?_
   have g1:=(k2.trans k3).get (by omega) g1
   have g2:=(k2.trans k3).get (by omega) g2
   have hr:=hr (by omega)
   have hr2:=hr2 (by omega)
   obtain⟨j,rfl⟩:∃ j:Nat,r=j:=⟨r.toNat,by omega⟩
   have st:=cel_set (k:=.u8) (q:=q) (j:=j) (x:=1+r2) (by omega)
   ((try simp (maxSteps:=3000000) (dsimp:=false) (disch:=first|omega|simp only[lnx];omega) only[↓ypre,ypost,↓reduceIte,reduceEqDiff,reduceAdd,reduceSub,reduceLeDiff,zz0,ynew,f0,f1,f2,f6,f7,f8,wrap64_in,wrap8_in,↓WX_ixa,ixaV_ptr,Int.toNat_natCast,Nat.mul_one,wr_of g2,st,cel_len,q9]);try simp only[yback])
   refine⟨by omega,?_⟩
   have fq':FQ p w (q.set j (1+r2)):=fq.set (by omega) (by omega) (by omega) (by omega)
   generalize hP:AH.put h3 _ _=H5
   have g5:H5.get H1.length=some ⟨cel .u8 (q.set j (1+r2)),136,false,true⟩:=by rw[←hP];exact get_put_same (get_lt g2)
   have g51:H5.get h.length=some ⟨cel .u8 (List.replicate 9 0),136,false,true⟩:=by rw[←hP,get_put_ne (by omega)];exact g1
   have w5:=wr_full (vs:=cel .u8 (q.set j (1+r2))) g51 (by rw[cel_len,cel_len,fq'.1.1];rfl)
   have s5:Src h0 H5 n:=by rw[←hP];exact s3.putb (by omega) (by have:=pre_len s.p;omega)
   have k5:Kp n h H5:=by rw[←hP];exact (((kk.trans (Kp.of p1')).trans k2).trans k3).putb (by omega)
   have lg:=get_lt g51
   have l9:=fq'.1.1
   ((try simp (maxSteps:=3000000) (dsimp:=false) (disch:=first|omega|simp only[lnx];omega) only[↓ypre,ypost,↓reduceIte,reduceEqDiff,reduceAdd,reduceSub,reduceLeDiff,zz0,ynew,f0,f1,f2,f6,f7,f8,rdn_of g5,cel_len,l9,t9,cel_all,w5,rdn_put_same]);try simp only[yback])
   exact fin _ _ fq' (isZ_set q9 (by omega) (by omega)) k5 s5 g51
  | false=>
   have w5:=wr_full (vs:=cel .u8 q) g1 (by rw[cel_len,cel_len,q9];rfl)
   have lg:=get_lt g1
   ((try simp (maxSteps:=3000000) (dsimp:=false) (disch:=first|omega|simp only[lnx];omega) only[↓ypre,ypost,↓reduceIte,reduceEqDiff,reduceAdd,reduceSub,reduceLeDiff,zz0,ynew,f0,f1,f2,f6,f7,f8,rdn_of g2,cel_len,q9,t9,cel_all,w5,rdn_put_same]);try simp only[yback])
   exact fin _ _ fq z (kk.trans (Kp.of p1')) (ss.kp p1') g1
end Go.Proofs.Ytapafdpnmakekaa.X

set_option linter.unusedVariables false
set_option linter.unusedSimpArgs false
set_option maxRecDepth 20000
set_option maxHeartbeats 4000000
namespace Go.Proofs.Ytapafdpnmakekaa.X
open Go Go.RowKit
theorem isX_sz {x:Sch} (h:isX x=true):SZ x∧x.ps.length≤30:=by
 unfold isX at h
 simp only[Bool.and_eq_true,decide_eq_true_eq] at h
 exact⟨szX_facts h.1.1,h.1.2⟩
end Go.Proofs.Ytapafdpnmakekaa.X

set_option linter.unusedVariables false
set_option linter.unusedSimpArgs false
set_option maxRecDepth 20000
set_option maxHeartbeats 4000000
namespace Go.Proofs.Ytapafdpnmakekaa.X
open Go Go.RowKit
open Nat (reduceEqDiff reduceAdd reduceSub reduceLeDiff)
def smT (g:Nat→Int):Nat→Int
 | 0=>0
 | n+1=>smT g n+g n
theorem smT_in {g:Nat→Int} {b:Int}:∀ {n:Nat},(∀ j,j<n→0≤g j∧g j≤b)→0≤smT g n∧smT g n≤b*n
 | 0,_=>by simp[smT]
 | n+1,h=>by
  have h1:=smT_in (n:=n) (fun j hj=>h j (by omega))
  have h2:=h n (by omega)
  simp only[smT]
  rw[show ((n+1:Nat):Int)=(n:Int)+1 by omega,Int.mul_add,Int.mul_one]
  omega
def tm (q:List Int) (a b c:Nat):Int:=q.getD a 0*q.getD (9+b) 0*q.getD (18+c) 0
def lsS (L:List (List Int)) (a b c i:Nat):Int:=smT (fun j=>tm (L.getD j []) a b c) i
def lsX (x:Sch) (a b c:Nat):Int:=(lsS x.ps a b c x.ps.length).tmod x.p
theorem tm_in {q:List Int} (hq:By 27 q) {a b c:Nat} (ha:a<9) (hb:b<9) (hc:c<9):(0≤q.getD a 0*q.getD (9+b) 0∧q.getD a 0*q.getD (9+b) 0≤65025)∧0≤tm q a b c∧tm q a b c≤16581375:=by
 have h1:=hq.2 a (by omega)
 have h2:=hq.2 (9+b) (by omega)
 have h3:=hq.2 (18+c) (by omega)
 have m1:=mul_in (A:=255) (B:=255) h1 h2
 exact⟨m1,mul_in (A:=65025) (B:=255) m1 h3⟩
theorem i_leftSide {v:Value} {x:Sch} {a b c:Nat} {h:AH} {Q:Value→AH→Prop} (hv:Prods h v x.ps) (z:SZ x) (hl:x.ps.length≤30) (ha:a<9) (hb:b<9) (hc:c<9)
  (hQ:∀ h',h<+:h'→Q (I64 (lsX x a b c)) h'):WF S 218 [schV x v,I64 a,I64 b,I64 c] h Q:=by
 refine WF_fn (fn:=c218) rfl rfl ?_
 dsimp only[c218,oO,oM,oS,oG,oK,oE,oL,oF,oX,oN]
 have zp:=z.p
 try simp (maxSteps:=3000000) (disch:=first|omega|simp only[lnx];omega) only[↓xpre,xpost,↓reduceIte,reduceEqDiff,reduceAdd,reduceSub,reduceLeDiff,zz0,schV,hv.one]
 generalize hH1:AH.new h _=H1
 obtain⟨hb1,p1,n1⟩:=new_facts hH1
 try simp (maxSteps:=3000000) (disch:=first|omega|simp only[lnx];omega) only[↓xpre,xpost,↓reduceIte,reduceEqDiff,reduceAdd,reduceSub,reduceLeDiff,zz0,rd1_of hb1,(hv.pre p1).1.len]
 refine WC_loop_inv (fun m f K1=>∃ (i:Nat),m=x.ps.length-i∧i≤x.ps.length∧f 1=I64 a∧f 2=I64 b∧f 3=I64 c∧f 4=.pointer (some ⟨h.length,0,none⟩)∧f 9=I64 (lsS x.ps a b c i)∧f 13=v∧f 14=I64 x.ps.length∧f 15=I64 i∧(H1<+:K1)) ?_ (x.ps.length-0) _ _ ⟨0,rfl,by omega,(by first|rfl|simp[upd_apply]),(by first|rfl|simp[upd_apply]),(by first|rfl|simp[upd_apply]),(by first|rfl|simp[upd_apply]),(by first|rfl|simp[upd_apply]),(by first|rfl|simp[upd_apply]),(by first|rfl|simp[upd_apply]),(by first|rfl|simp[upd_apply]),List.prefix_refl _⟩
 rintro m f K1 ⟨i,rfl,hi,f1,f2,f3,f4,f9,f13,f14,f15,pp⟩
 have hbK:=pre_get pp hb1
 have hvK:=hv.pre (p1.trans pp)
 by_cases hlt:(i:Int)<x.ps.length
 ·have hi':i<x.ps.length:=by omega
  obtain⟨n,off,hix,hrn,hr1⟩:=hvK.1.at hi'
  have r27:=hrn 0 27 (by omega)
  have wi:=hvK.1.wid hi'
  rw[List.drop_zero,List.take_of_length_le (by omega),Nat.add_zero] at r27
  have byq:=hvK.by hi'
  have bs:=smT_in (g:=fun j=>tm (x.ps.getD j []) a b c) (b:=16581375) (n:=i) (fun j hj=>(tm_in (hv.by (by omega)) ha hb hc).2)
  have es:lsS x.ps a b c (i+1)=lsS x.ps a b c i+tm (x.ps.getD i []) a b c:=rfl
  have bs':0≤lsS x.ps a b c i∧lsS x.ps a b c i≤497441250:=⟨bs.1,by have:=bs.2;show smT _ i≤_;omega⟩
  generalize hq:x.ps.getD i []=q at *
  have w1:∀ (h1:AH) (e:TypeId),(h1.new ⟨[.int .u8 0,.int .u8 0,.int .u8 0,.int .u8 0,.int .u8 0,.int .u8 0,.int .u8 0,.int .u8 0,.int .u8 0,.int .u8 0,.int .u8 0,.int .u8 0,.int .u8 0,.int .u8 0,.int .u8 0,.int .u8 0,.int .u8 0,.int .u8 0,.int .u8 0,.int .u8 0,.int .u8 0,.int .u8 0,.int .u8 0,.int .u8 0,.int .u8 0,.int .u8 0,.int .u8 0],e,false,true⟩).wr h1.length 0 (cel .u8 q)=some (h1.new ⟨cel .u8 q,e,false,true⟩):=fun h1 e=>wr_all (by rw[cel_len,wi];rfl)
  have ga:=cel_get (k:=.u8) (q:=q) (j:=a) (by omega)
  have gb:=cel_get (k:=.u8) (q:=q) (j:=9+b) (by omega)
  have gc:=cel_get (k:=.u8) (q:=q) (j:=18+c) (by omega)
  have ba:=byq.2 a (by omega)
  have bb:=byq.2 (9+b) (by omega)
  have bc:=byq.2 (18+c) (by omega)
  have bt:=tm_in byq ha hb hc
  have et:q.getD a 0*q.getD (9+b) 0*q.getD (18+c) 0=tm q a b c:=rfl
  try simp (maxSteps:=3000000) (disch:=first|omega|simp only[lnx];omega) only[↓xpre,xpost,↓reduceIte,reduceEqDiff,reduceAdd,reduceSub,reduceLeDiff,zz0,f1,f2,f3,f4,f9,f13,f14,f15,decide_eq_true hlt,hix,r27,cel_all,cel_len,wi,↓w1,↓WX_ixa,ixaV_ptr,Int.toNat_natCast,Nat.mul_one,ga,gb,gc,wrap64_in,et]
  refine InvQ_go (x.ps.length-(i+1)) (by omega) ⟨(i+1),rfl,by omega,(by first|rfl|exact f1|(simp only[upd_apply];rfl)|(show I64 _=_;congr 1;omega)),(by first|rfl|exact f2|(simp only[upd_apply];rfl)|(show I64 _=_;congr 1;omega)),(by first|rfl|exact f3|(simp only[upd_apply];rfl)|(show I64 _=_;congr 1;omega)),(by first|rfl|exact f4|(simp only[upd_apply];rfl)|(show I64 _=_;congr 1;omega)),(by show I64 _=I64 _;rw[es]),(by first|rfl|exact f13|(simp only[upd_apply];rfl)|(show I64 _=_;congr 1;omega)),(by first|rfl|exact f14|(simp only[upd_apply];rfl)|(show I64 _=_;congr 1;omega)),(by first|rfl|exact f15|(simp only[upd_apply];rfl)|(show I64 _=_;congr 1;omega)),(pp.trans (pre_new (List.prefix_refl _)))⟩
 ·have ei:i=x.ps.length:=by omega
  subst ei
  try simp (maxSteps:=3000000) (disch:=first|omega|simp only[lnx];omega) only[↓xpre,xpost,↓reduceIte,reduceEqDiff,reduceAdd,reduceSub,reduceLeDiff,zz0,f1,f2,f3,f4,f9,f13,f14,f15,rd1_of hbK,decide_eq_false hlt,bin_rem]
  exact hQ _ (p1.trans pp)
def lsN (x:Sch) (a b c:Int):Int:=lsX x a.toNat b.toNat c.toNat
def tofX (x:Sch):Ten:=tenT x.p (x.n*x.m) (x.m*x.k) (x.n*x.k) (lsN x)
theorem i_tensorOf1 {v:Value} {x:Sch} {n:Nat} {e:TypeId} {ro full:Bool} {h0:AH} (hv:Prods h0 v x.ps) (z:SZ x) (hl:x.ps.length≤30) (hb:h0.get n=some ⟨[I64 x.p,I64 x.n,I64 x.m,I64 x.k,v],e,ro,full⟩) :
  Tells S h0 (.func (.func 284) #[] #[.pointer (some ⟨n,0,none⟩)]) (x.n*x.m) (x.m*x.k) (x.n*x.k) (lsN x):=by
 intro a b c ha hb' hc h1 hp Q hQ
 rw[WK_func]
 have zi:=z.nm
 have zj:=z.mk2
 have zk:=z.nk
 obtain⟨A,rfl⟩:∃ A:Nat,a=A:=⟨a.toNat,by omega⟩
 obtain⟨B,rfl⟩:∃ B:Nat,b=B:=⟨b.toNat,by omega⟩
 obtain⟨C,rfl⟩:∃ C:Nat,c=C:=⟨c.toNat,by omega⟩
 have hb1:=pre_get hp hb
 refine WF_fn (fn:=c284) rfl rfl ?_
 dsimp only[c284,oO,oM,oS,oG,oK,oE,oL,oF,oX,oN]
 try simp (maxSteps:=3000000) (disch:=first|omega|simp only[lnx];omega) only[↓xpre,xpost,↓reduceIte,reduceEqDiff,reduceAdd,reduceSub,reduceLeDiff,zz0,rdn_of hb1]
 refine i_leftSide (hv.pre hp) z hl (by omega) (by omega) (by omega) fun h2 p2=>?_
 try simp (maxSteps:=3000000) (disch:=first|omega|simp only[lnx];omega) only[↓xpre,xpost,↓reduceIte,reduceEqDiff,reduceAdd,reduceSub,reduceLeDiff,zz0]
 have:=hQ h2 p2
 unfold lsN at this
 rw[Int.toNat_natCast,Int.toNat_natCast,Int.toNat_natCast] at this
 exact this
theorem i_tensorOf {v:Value} {x:Sch} {h:AH} {Q:Value→AH→Prop} (hv:Prods h v x.ps) (z:SZ x) (hl:x.ps.length≤30)
  (hQ:∀ v' h',h<+:h'→OwnR h h' v' (tofX x).ns→Q (tenV (tofX x) v') h'):WF S 161 [schV x v] h Q:=by
 refine WF_fn (fn:=c161) rfl rfl ?_
 dsimp only[c161,oO,oM,oS,oG,oK,oE,oL,oF,oX,oN]
 try simp (maxSteps:=3000000) (disch:=first|omega|simp only[lnx];omega) only[↓xpre,xpost,↓reduceIte,reduceEqDiff,reduceAdd,reduceSub,reduceLeDiff,zz0,schV,hv.one]
 generalize hH1:AH.new h _=H1
 obtain⟨hb1,p1,n1⟩:=new_facts hH1
 generalize hH2:AH.new H1 _=H2
 obtain⟨hb2,p2,n2⟩:=new_facts hH2
 have hb1:=pre_get p2 hb1
 try simp (maxSteps:=3000000) (disch:=first|omega|simp only[lnx];omega) only[↓xpre,xpost,↓reduceIte,reduceEqDiff,reduceAdd,reduceSub,reduceLeDiff,zz0,rdn_of hb1]
 refine i_placesOf hv.one z fun H3 p3=>?_
 have hb1:=pre_get p3 hb1
 have hb2:=pre_get p3 hb2
 have ix0:∀ n:Nat,ixaV 3 1 (.pointer (some ⟨n,0,none⟩)) (I64 0)=some (.pointer (some ⟨n,0,none⟩)):=fun n=>rfl
 have ix1:∀ n:Nat,ixaV 3 1 (.pointer (some ⟨n,0,none⟩)) (I64 1)=some (.pointer (some ⟨n,1,none⟩)):=fun n=>rfl
 have ix2:∀ n:Nat,ixaV 3 1 (.pointer (some ⟨n,0,none⟩)) (I64 2)=some (.pointer (some ⟨n,2,none⟩)):=fun n=>rfl
 have lt1:=get_lt hb1
 try simp (maxSteps:=3000000) (disch:=first|omega|simp only[lnx];omega) only[↓xpre,xpost,↓reduceIte,reduceEqDiff,reduceAdd,reduceSub,reduceLeDiff,zz0,↓WX_ixa,ix0,ix1,ix2,rd1_of hb1]
 generalize hH4:AH.new H3 _=H4
 obtain⟨hb4,p4,n4⟩:=new_facts hH4
 have hb1:=pre_get p4 hb1
 have hb2:=pre_get p4 hb2
 have zi:=z.nm
 have zj:=z.mk2
 have zk:=z.nk
 have zp:=z.p
 refine i_tensor (num:=lsN x) (by omega) zi zj zk (i_tensorOf1 (hv.pre ((p1.trans p2).trans (p3.trans p4))) z hl hb1) fun v' H5 p5 o=>?_
 have hb2:=pre_get p5 hb2
 have lt2:=get_lt hb2
 try simp (maxSteps:=3000000) (disch:=first|omega|simp only[lnx];omega) only[↓xpre,xpost,↓reduceIte,reduceEqDiff,reduceAdd,reduceSub,reduceLeDiff,zz0,tenV,o.ints.one,wr_of hb2]
 have l3:=pre_len p3
 exact hQ v' _ (pre_put (((p1.trans p2).trans (p3.trans p4)).trans p5) (show h.length≤H1.length by omega)) ((o.put_ne (by omega)).lo (by omega))
def tsR (x:Sch):Ten×Int:=if isX x=true then (tofX x,0) else (noT,1)
theorem tofX_small {x:Sch} (z:SZ x):SmallS (tofX x).ns:=by
 have ij:=mul_in1 (A:=9) (B:=9) z.nm z.mk2
 have ijk:=mul_in1 (A:=81) (B:=9) ij z.nk
 unfold SmallS tofX tenT
 rw[gen_len]
 omega
theorem i_TensorOfScheme {v:Value} {x:Sch} {h:AH} {Q:Value→AH→Prop} (hv:Prods h v x.ps) (hl:SmallX x.ps)
  (hQ:∀ v' h',h<+:h'→OwnR h h' v' (tsR x).1.ns→Q (.tuple #[tenV (tsR x).1 v',I64 (tsR x).2]) h'):WF S 19 [schV x v] h Q:=by
 refine WF_fn (fn:=c19) rfl rfl ?_
 dsimp only[c19,oO,oM,oS,oG,oK,oE,oL,oF,oX,oN]
 try simp (maxSteps:=3000000) (disch:=first|omega|simp only[lnx];omega) only[↓xpre,xpost,↓reduceIte,reduceEqDiff,reduceAdd,reduceSub,reduceLeDiff,zz0,schV,hv.one]
 generalize hH1:AH.new h _=H1
 obtain⟨hb1,p1,n1⟩:=new_facts hH1
 generalize hH2:AH.new H1 _=H2
 obtain⟨hb2,p2,n2⟩:=new_facts hH2
 have hb1:=pre_get p2 hb1
 try simp (maxSteps:=3000000) (disch:=first|omega|simp only[lnx];omega) only[↓xpre,xpost,↓reduceIte,reduceEqDiff,reduceAdd,reduceSub,reduceLeDiff,zz0,rdn_of hb1]
 refine i_IsScheme (hv.pre (p1.trans p2)) hl fun H3 p3=>?_
 have hb1:=pre_get p3 hb1
 have hb2:=pre_get p3 hb2
 have l3:=get_lt hb2
 unfold tsR at hQ
 cases ht:isX x with
 | false=>
  rw[ht,if_neg (by decide)] at hQ
  try simp (maxSteps:=3000000) (disch:=first|omega|simp only[lnx];omega) only[↓xpre,xpost,↓reduceIte,reduceEqDiff,reduceAdd,reduceSub,reduceLeDiff,zz0,fillL,wr_of hb2]
  exact hQ (.slice none 0 0) _ (pre_put ((p1.trans p2).trans p3) (by omega)) (.inl ⟨rfl,rfl⟩)
 | true=>
  rw[ht,if_pos rfl] at hQ
  try simp (maxSteps:=3000000) (disch:=first|omega|simp only[lnx];omega) only[↓xpre,xpost,↓reduceIte,reduceEqDiff,reduceAdd,reduceSub,reduceLeDiff,zz0,rdn_of hb1]
  refine i_tensorOf (hv.pre ((p1.trans p2).trans p3)) (isX_sz ht).1 (isX_sz ht).2 fun v' H4 p4 o=>?_
  have hb2:=pre_get p4 hb2
  have l4:=get_lt hb2
  try simp (maxSteps:=3000000) (disch:=first|omega|simp only[lnx];omega) only[↓xpre,xpost,↓reduceIte,reduceEqDiff,reduceAdd,reduceSub,reduceLeDiff,zz0,tenV,o.ints.one,wr_of hb2]
  exact hQ v' _ (pre_put (((p1.trans p2).trans p3).trans p4) (by omega)) ((o.put_ne (by have:=pre_len p3;omega)).lo (by have:=pre_len p3;omega))
def o9:List Int:=List.replicate 9 0
def un9 (a:Nat):List Int:=o9.set a 1
def un27 (a b c:Nat):List Int:=un9 a++(un9 b++un9 c)
theorem un9_len {a:Nat}:(un9 a).length=9:=by simp[un9,o9]
theorem un27_len {a b c:Nat}:(un27 a b c).length=27:=by simp[un27,un9_len]
theorem un27_set {a b c:Nat} (ha:a<9) (hb:b<9) (hc:c<9):(((List.replicate 27 0).set a 1).set (9+b) 1).set (18+c) 1=un27 a b c:=by
 have e:List.replicate 27 (0:Int)=o9++(o9++o9):=rfl
 have lz:o9.length=9:=rfl
 have l1:(o9.set a 1).length=9:=by rw[List.length_set,lz]
 have l2:(o9.set b 1).length=9:=by rw[List.length_set,lz]
 rw[e,List.set_append_left _ _ (by rw[lz];exact ha),List.set_append_right _ _ (by rw[l1];omega),List.set_append_right _ _ (by rw[l1];omega),l1,Nat.add_sub_cancel_left,
  List.set_append_left _ _ (by rw[lz];exact hb),List.set_append_right _ _ (by rw[l2];omega),l2]
 rw[show 18+c-9-9=c by omega]
 rfl
theorem un9_in {a j:Nat}:0≤(un9 a).getD j 0∧(un9 a).getD j 0≤1:=by
 unfold un9
 rw[List.getD_eq_getElem?_getD,List.getElem?_set]
 split
 ·split<;>simp
 ·unfold o9
  rw[List.getElem?_replicate]
  split<;>simp
theorem un27_in {a b c j:Nat}:0≤(un27 a b c).getD j 0∧(un27 a b c).getD j 0≤255:=by
 unfold un27
 by_cases h:j<9
 ·rw[getD_app_l (by rw[un9_len];exact h)]
  have:=un9_in (a:=a) (j:=j)
  omega
 ·rw[getD_app_r (by rw[un9_len];omega),un9_len]
  by_cases h2:j-9<9
  ·rw[getD_app_l (by rw[un9_len];exact h2)]
   have:=un9_in (a:=b) (j:=j-9)
   omega
  ·rw[getD_app_r (by rw[un9_len];omega),un9_len]
   have:=un9_in (a:=c) (j:=j-9-9)
   omega
def stdG (m k t:Nat):List Int:=un27 (t / k / m*m+t / k%m) (t / k%m*k+t%k) (t / k / m*k+t%k)
def stdL (m k:Nat):Nat→List (List Int)
 | 0=>[]
 | t+1=>stdL m k t++[stdG m k t]
theorem stdL_len {m k:Nat}:∀ {t:Nat},(stdL m k t).length=t
 | 0=>rfl
 | t+1=>by simp[stdL,stdL_len (t:=t)]
theorem stdL_byt {m k:Nat}:∀ {t:Nat},Byt 27 (stdL m k t)
 | 0=>fun i hi=>by simp[stdL] at hi
 | t+1=>fun i hi j hj=>by
  rw[stdL_len] at hi
  unfold stdL
  by_cases h:i<t
  ·rw[getD_app_l (by rw[stdL_len];exact h)]
   exact stdL_byt (t:=t) i (by rw[stdL_len];exact h) j hj
  ·rw[getD_app_r (by rw[stdL_len];omega),stdL_len,show i-t=0 by omega]
   exact un27_in
theorem stdG_at {m k i j l:Nat} (hj:j<m) (hl:l<k):stdG m k ((i*m+j)*k+l)=un27 (i*m+j) (j*k+l) (i*k+l):=by
 unfold stdG
 have e1:((i*m+j)*k+l) / k=i*m+j:=by
  rw[Nat.mul_comm,Nat.mul_add_div (by omega),Nat.div_eq_of_lt hl,Nat.add_zero]
 have e2:((i*m+j)*k+l)%k=l:=by
  rw[Nat.mul_comm,Nat.mul_add_mod,Nat.mod_eq_of_lt hl]
 have e3:(i*m+j) / m=i:=by
  rw[Nat.mul_comm,Nat.mul_add_div (by omega),Nat.div_eq_of_lt hj,Nat.add_zero]
 have e4:(i*m+j)%m=j:=by
  rw[Nat.mul_comm,Nat.mul_add_mod,Nat.mod_eq_of_lt hj]
 rw[e1,e2,e3,e4]
def stdX (p n m k:Int):Sch:=⟨p,n,m,k,stdL m.toNat k.toNat (n*m*k).toNat⟩
theorem splice_27 {q:List Int} (hq:q.length=27):splice [.int .u8 0,.int .u8 0,.int .u8 0,.int .u8 0,.int .u8 0,.int .u8 0,.int .u8 0,.int .u8 0,.int .u8 0,.int .u8 0,.int .u8 0,.int .u8 0,.int .u8 0,.int .u8 0,.int .u8 0,.int .u8 0,.int .u8 0,.int .u8 0,.int .u8 0,.int .u8 0,.int .u8 0,.int .u8 0,.int .u8 0,.int .u8 0,.int .u8 0,.int .u8 0,.int .u8 0] 0 (cel .u8 q)=cel .u8 q:=by
 rw[splice_eq,cel_len,hq]
 simp
theorem splice_lenW {c vs:List Value} {off:Nat} (h:off+vs.length≤c.length):(splice c off vs).length=c.length:=by
 rw[splice_eq]
 simp
 omega
theorem wr_27 {h1:AH} {e:TypeId}:(h1.new ⟨[.int .u8 0,.int .u8 0,.int .u8 0,.int .u8 0,.int .u8 0,.int .u8 0,.int .u8 0,.int .u8 0,.int .u8 0,.int .u8 0,.int .u8 0,.int .u8 0,.int .u8 0,.int .u8 0,.int .u8 0,.int .u8 0,.int .u8 0,.int .u8 0,.int .u8 0,.int .u8 0,.int .u8 0,.int .u8 0,.int .u8 0,.int .u8 0,.int .u8 0,.int .u8 0,.int .u8 0],e,false,true⟩).wr h1.length 0 [.int .u8 0,.int .u8 0,.int .u8 0,.int .u8 0,.int .u8 0,.int .u8 0,.int .u8 0,.int .u8 0,.int .u8 0,.int .u8 0,.int .u8 0,.int .u8 0,.int .u8 0,.int .u8 0,.int .u8 0,.int .u8 0,.int .u8 0,.int .u8 0,.int .u8 0,.int .u8 0,.int .u8 0,.int .u8 0,.int .u8 0,.int .u8 0,.int .u8 0,.int .u8 0,.int .u8 0]=some (h1.new ⟨cel .u8 (List.replicate 27 0),e,false,true⟩):=wr_all rfl
theorem wr_set1 {h1:AH} {e:TypeId} {q:List Int} {j:Nat} {x:Int} (hj:j<q.length):(h1.new ⟨cel .u8 q,e,false,true⟩).wr h1.length j [.int .u8 x]=some (h1.new ⟨cel .u8 (q.set j x),e,false,true⟩):=by
 rw[wr_new_same,if_pos ⟨rfl,by rw[cel_len];simp only[List.length_singleton];omega⟩,cel_set hj]
theorem s_l01Standard {p n m k:Int} {h:AH} {Q:Value→AH→Prop} (z:SZ (stdX p n m k)) (hQ:∀ v' h',h<+:h'→InX h.length h'.length h' v' (stdX p n m k).ps→Q (schV (stdX p n m k) v') h'):WF S 303 [I64 p,I64 n,I64 m,I64 k] h Q:=by
 obtain⟨zp,zn,zm,zk,znm,zmk,znk⟩:=z
 simp only[stdX] at zp zn zm zk znm zmk znk
 unfold stdX at hQ
 obtain⟨N,rfl⟩:∃ N:Nat,n=N:=⟨n.toNat,by omega⟩
 obtain⟨M,rfl⟩:∃ N:Nat,m=N:=⟨m.toNat,by omega⟩
 obtain⟨K,rfl⟩:∃ N:Nat,k=N:=⟨k.toNat,by omega⟩
 rw[Int.toNat_natCast,Int.toNat_natCast,show (N:Int)*(M:Int)*(K:Int)=((N*M*K:Nat):Int) by push_cast;rfl,Int.toNat_natCast] at hQ
 have enm:(N:Int)*(M:Int)=((N*M:Nat):Int):=by push_cast;rfl
 have emk:(M:Int)*(K:Int)=((M*K:Nat):Int):=by push_cast;rfl
 have enk:(N:Int)*(K:Int)=((N*K:Nat):Int):=by push_cast;rfl
 have zijk:N*M*K≤27:=by
  have:=mul_in1 (A:=9) (B:=3) znm zk
  rw[enm,←Int.natCast_mul] at this
  omega
 rw[enm] at znm
 rw[emk] at zmk
 rw[enk] at znk
 refine WF_fn (fn:=c303) rfl rfl ?_
 dsimp only[c303,oO,oM,oS,oG,oK,oE,oL,oF,oX,oN]
 try simp (maxSteps:=3000000) (disch:=first|omega|simp only[lnx];omega) only[↓xpre,xpost,↓reduceIte,reduceEqDiff,reduceAdd,reduceSub,reduceLeDiff,zz0]
 generalize hH1:AH.new h _=H1
 obtain⟨hb1,p1,n1⟩:=new_facts hH1
 try simp (maxSteps:=3000000) (disch:=first|omega|simp only[lnx];omega) only[↓xpre,xpost,↓reduceIte,reduceEqDiff,reduceAdd,reduceSub,reduceLeDiff,zz0,zrep,fillL]
 generalize hH2:AH.new H1 _=H2
 obtain⟨hb2,p2,n2⟩:=new_facts hH2
 try simp (maxSteps:=3000000) (disch:=first|omega|simp only[lnx];omega) only[↓xpre,xpost,↓reduceIte,reduceEqDiff,reduceAdd,reduceSub,reduceLeDiff,zz0,zrep,fillL,wr_all]
 generalize hH3:AH.new H2 _=H3
 obtain⟨hb3,p3,n3⟩:=new_facts hH3
 have w0:WayE (138) .u8 27 H3 H1.length H2.length (.slice (some ⟨H1.length,0,none⟩) 0 27) (stdL M K 0):=⟨fun r hr=>by simp[stdL] at hr,.inr ⟨H1.length,true,rfl,Nat.le_refl _,by omega,pre_get p3 hb2⟩⟩
 refine WC_loop_inv (fun m f K1=>∃ (i:Nat) (sv:Value),m=N-i∧i≤N∧f 1=I64 N∧f 2=I64 M∧f 3=I64 K∧f 8=.pointer (some ⟨h.length,0,none⟩)∧f 9=.pointer (some ⟨H2.length,0,none⟩)∧f 10=I64 i∧(H1<+:K1)∧(H3.length≤K1.length)∧(OwnB K1 H2.length [I64 p,I64 N,I64 M,I64 K,sv] true)∧(WayE (138) .u8 27 K1 H1.length H2.length sv (stdL M K (i*M*K)))) ?_ (N-0) _ _ ⟨0,.slice (some ⟨H1.length,0,none⟩) 0 27,rfl,by omega,(by first|rfl|simp[upd_apply]),(by first|rfl|simp[upd_apply]),(by first|rfl|simp[upd_apply]),(by first|rfl|simp[upd_apply]),(by first|rfl|simp[upd_apply]),(by first|rfl|simp[upd_apply]),p2.trans p3,Nat.le_refl _,⟨_,hb3⟩,(by rw[Nat.zero_mul,Nat.zero_mul];exact w0)⟩
 rintro m f K1 ⟨i,sv,rfl,hi,f1,f2,f3,f8,f9,f10,pp,l1,g,w⟩
 by_cases hla:(i:Int)<N
 ·try simp (maxSteps:=3000000) (disch:=first|omega|simp only[lnx];omega) only[↓xpre,xpost,↓reduceIte,reduceEqDiff,reduceAdd,reduceSub,reduceLeDiff,zz0,f1,f2,f3,f8,f9,f10,decide_eq_true hla]
  refine WC_loop_inv (fun m f K2=>∃ (j:Nat) (sv:Value),m=M-j∧j≤M∧f 1=I64 N∧f 2=I64 M∧f 3=I64 K∧f 8=.pointer (some ⟨h.length,0,none⟩)∧f 9=.pointer (some ⟨H2.length,0,none⟩)∧f 10=I64 i∧f 11=I64 j∧(H1<+:K2)∧(H3.length≤K2.length)∧(OwnB K2 H2.length [I64 p,I64 N,I64 M,I64 K,sv] true)∧(WayE (138) .u8 27 K2 H1.length H2.length sv (stdL M K ((i*M+j)*K)))) ?_ (M-0) _ _ ⟨0,sv,rfl,by omega,(by first|rfl|exact f1|(simp[upd_apply];done)),(by first|rfl|exact f2|(simp[upd_apply];done)),(by first|rfl|exact f3|(simp[upd_apply];done)),(by first|rfl|exact f8|(simp[upd_apply];done)),(by first|rfl|exact f9|(simp[upd_apply];done)),(by first|rfl|exact f10|(simp[upd_apply];done)),(by first|rfl|simp[upd_apply]),pp,l1,g,(by rw[Nat.add_zero];exact w)⟩
  rintro m f K2 ⟨j,sv,rfl,hj,f1,f2,f3,f8,f9,f10,f11,pp,l1,g,w⟩
  by_cases hlb:(j:Int)<M
  ·try simp (maxSteps:=3000000) (disch:=first|omega|simp only[lnx];omega) only[↓xpre,xpost,↓reduceIte,reduceEqDiff,reduceAdd,reduceSub,reduceLeDiff,zz0,f1,f2,f3,f8,f9,f10,f11,decide_eq_true hlb]
   refine WC_loop_inv (fun m f K3=>∃ (l:Nat) (sv:Value),m=K-l∧l≤K∧f 1=I64 N∧f 2=I64 M∧f 3=I64 K∧f 8=.pointer (some ⟨h.length,0,none⟩)∧f 9=.pointer (some ⟨H2.length,0,none⟩)∧f 10=I64 i∧f 11=I64 j∧f 12=I64 l∧(H1<+:K3)∧(H3.length≤K3.length)∧(OwnB K3 H2.length [I64 p,I64 N,I64 M,I64 K,sv] true)∧(WayE (138) .u8 27 K3 H1.length H2.length sv (stdL M K ((i*M+j)*K+l)))) ?_ (K-0) _ _ ⟨0,sv,rfl,by omega,(by first|rfl|exact f1|(simp[upd_apply];done)),(by first|rfl|exact f2|(simp[upd_apply];done)),(by first|rfl|exact f3|(simp[upd_apply];done)),(by first|rfl|exact f8|(simp[upd_apply];done)),(by first|rfl|exact f9|(simp[upd_apply];done)),(by first|rfl|exact f10|(simp[upd_apply];done)),(by first|rfl|exact f11|(simp[upd_apply];done)),(by first|rfl|simp[upd_apply]),pp,l1,g,w⟩
   rintro m f K3 ⟨l,sv,rfl,hl,f1,f2,f3,f8,f9,f10,f11,f12,pp,l1,g,w⟩
   by_cases hlc:(l:Int)<K
   ·have m1:i*M+M≤N*M:=mul_row (by omega)
    have m2:(i*M+j)*K+K≤N*M*K:=mul_row (by omega)
    have m3:j*K+K≤M*K:=mul_row (by omega)
    have m4:i*K+K≤N*K:=mul_row (by omega)
    have e1:(i:Int)*(M:Int)=((i*M:Nat):Int):=by push_cast;rfl
    have e2:((i*M:Nat):Int)+(j:Int)=((i*M+j:Nat):Int):=by push_cast;rfl
    have e3:(j:Int)*(K:Int)=((j*K:Nat):Int):=by push_cast;rfl
    have e4:((j*K:Nat):Int)+(l:Int)=((j*K+l:Nat):Int):=by push_cast;rfl
    have e5:(i:Int)*(K:Int)=((i*K:Nat):Int):=by push_cast;rfl
    have e6:((i*K:Nat):Int)+(l:Int)=((i*K+l:Nat):Int):=by push_cast;rfl
    have lt27:(i*M+j)*K+l<27:=by omega
    obtain⟨eg,hg⟩:=g
    have hgn:∀ b,(AH.new K3 b).get H2.length=some ⟨[I64 p,I64 N,I64 M,I64 K,sv],eg,false,true⟩:=fun b=>get_new_any hg
    have w2:∀ e:TypeId,(K3.new ⟨cel .u8 (List.replicate 27 0),e,false,true⟩).wr K3.length (i*M+j) [.int .u8 1]=_:=fun e=>wr_set1 (by rw[List.length_replicate];omega)
    have w3:∀ e:TypeId,(K3.new ⟨cel .u8 ((List.replicate 27 0).set (i*M+j) 1),e,false,true⟩).wr K3.length (9+(j*K+l)) [.int .u8 1]=_:=fun e=>wr_set1 (by rw[List.length_set,List.length_replicate];omega)
    have w4:∀ e:TypeId,(K3.new ⟨cel .u8 (((List.replicate 27 0).set (i*M+j) 1).set (9+(j*K+l)) 1),e,false,true⟩).wr K3.length (18+(i*K+l)) [.int .u8 1]=_:=fun e=>wr_set1 (by rw[List.length_set,List.length_set,List.length_replicate];omega)
    rw[un27_set (by omega) (by omega) (by omega)] at w4
    have r1:∀ e:TypeId,(K3.new ⟨cel .u8 (un27 (i*M+j) (j*K+l) (i*K+l)),e,false,true⟩).rdn K3.length 0 27=some (cel .u8 (un27 (i*M+j) (j*K+l) (i*K+l))):=fun e=>by
     rw[rdn_new_same,if_pos (by simp only[cel_len,un27_len];omega),List.drop_zero,List.take_of_length_le (by rw[cel_len,un27_len];omega)]
    have sp1:=splice_27 (q:=un27 (i*M+j) (j*K+l) (i*K+l)) un27_len
    ((try simp (maxSteps:=3000000) (dsimp:=false) (disch:=first|omega|simp only[lnx];omega) only[↓ypre,ypost,↓reduceIte,reduceEqDiff,reduceAdd,reduceSub,reduceLeDiff,zz0,f1,f2,f3,f8,f9,f10,f11,f12,decide_eq_true hlc,wr_27,e1,e2,e3,e4,e5,e6,wrap64_in,ixaV_ptr,Int.toNat_natCast,Nat.mul_one,w2,w3,w4,r1,sp1,cel_all,cel_len,un27_len,rd1_of (hgn _)]);try simp only[yback])
    generalize hK4:AH.new K3 _=K4
    obtain⟨hb4,p4,n4⟩:=new_facts hK4
    refine (w.pre p4).app un27_len (by rw[stdL_len];omega) (by rw[stdL_len];omega) (by omega) (by omega) fun sv' H' l' pre' _ own' w'=>?_
    obtain⟨e5,g5⟩:=own' _ _ ⟨eg,pre_get p4 hg⟩
    have lt5:=get_lt g5
    ((try simp (maxSteps:=3000000) (dsimp:=false) (disch:=first|omega|simp only[lnx];omega) only[↓ypre,ypost,↓reduceIte,reduceEqDiff,reduceAdd,reduceSub,reduceLeDiff,zz0,ynew,f1,f2,f3,f8,f9,f10,f11,f12,w'.one,w'.cells,wr_of g5,wrap64_in]);try simp only[yback])
    have lts:=lt27
    refine InvQ_go (K-(l+1)) (by omega) ⟨(l+1),sv',rfl,by omega,(by first|rfl|exact f1|(simp only[upd_apply];rfl)|(show I64 _=_;congr 1;omega)),(by first|rfl|exact f2|(simp only[upd_apply];rfl)|(show I64 _=_;congr 1;omega)),(by first|rfl|exact f3|(simp only[upd_apply];rfl)|(show I64 _=_;congr 1;omega)),(by first|rfl|exact f8|(simp only[upd_apply];rfl)|(show I64 _=_;congr 1;omega)),(by first|rfl|exact f9|(simp only[upd_apply];rfl)|(show I64 _=_;congr 1;omega)),(by first|rfl|exact f10|(simp only[upd_apply];rfl)|(show I64 _=_;congr 1;omega)),(by first|rfl|exact f11|(simp only[upd_apply];rfl)|(show I64 _=_;congr 1;omega)),(by first|rfl|exact f12|(simp only[upd_apply];rfl)|(show I64 _=_;congr 1;omega)),(pre_put (pre' _ (Nat.le_refl _) (pp.trans p4)) (by omega)),(by rw[len_put];omega),⟨_,get_put_same lt5⟩,(by have:=w'.put (b:=⟨[I64 p,I64 N,I64 M,I64 K,sv'],e5,false,true⟩);rw[←stdG_at (by omega) (by omega)] at this;exact this)⟩
   ·have ec:l=K:=by omega
    subst ec
    try simp (maxSteps:=3000000) (disch:=first|omega|simp only[lnx];omega) only[↓xpre,xpost,↓reduceIte,reduceEqDiff,reduceAdd,reduceSub,reduceLeDiff,zz0,f1,f2,f3,f8,f9,f10,f11,f12,decide_eq_false hlc,wrap64_in]
    refine InvQ_go (M-(j+1)) (by omega) ⟨(j+1),sv,rfl,by omega,(by first|rfl|exact f1|(simp only[upd_apply];rfl)|(show I64 _=_;congr 1;omega)),(by first|rfl|exact f2|(simp only[upd_apply];rfl)|(show I64 _=_;congr 1;omega)),(by first|rfl|exact f3|(simp only[upd_apply];rfl)|(show I64 _=_;congr 1;omega)),(by first|rfl|exact f8|(simp only[upd_apply];rfl)|(show I64 _=_;congr 1;omega)),(by first|rfl|exact f9|(simp only[upd_apply];rfl)|(show I64 _=_;congr 1;omega)),(by first|rfl|exact f10|(simp only[upd_apply];rfl)|(show I64 _=_;congr 1;omega)),(by first|rfl|exact f11|(simp only[upd_apply];rfl)|(show I64 _=_;congr 1;omega)),pp,l1,g,(by rw[show (i*M+(j+1))*l=(i*M+j)*l+l by rw[←Nat.add_assoc,Nat.succ_mul]];exact w)⟩
  ·have eb:j=M:=by omega
   subst eb
   try simp (maxSteps:=3000000) (disch:=first|omega|simp only[lnx];omega) only[↓xpre,xpost,↓reduceIte,reduceEqDiff,reduceAdd,reduceSub,reduceLeDiff,zz0,f1,f2,f3,f8,f9,f10,f11,decide_eq_false hlb,wrap64_in]
   refine InvQ_go (N-(i+1)) (by omega) ⟨(i+1),sv,rfl,by omega,(by first|rfl|exact f1|(simp only[upd_apply];rfl)|(show I64 _=_;congr 1;omega)),(by first|rfl|exact f2|(simp only[upd_apply];rfl)|(show I64 _=_;congr 1;omega)),(by first|rfl|exact f3|(simp only[upd_apply];rfl)|(show I64 _=_;congr 1;omega)),(by first|rfl|exact f8|(simp only[upd_apply];rfl)|(show I64 _=_;congr 1;omega)),(by first|rfl|exact f9|(simp only[upd_apply];rfl)|(show I64 _=_;congr 1;omega)),(by first|rfl|exact f10|(simp only[upd_apply];rfl)|(show I64 _=_;congr 1;omega)),pp,l1,g,(by rw[Nat.succ_mul];exact w)⟩
 ·have ea:i=N:=by omega
  subst ea
  obtain⟨e6,g6⟩:=g
  have hb1K:=pre_get pp hb1
  have lt2:=get_lt hb1K
  try simp (maxSteps:=3000000) (disch:=first|omega|simp only[lnx];omega) only[↓xpre,xpost,↓reduceIte,reduceEqDiff,reduceAdd,reduceSub,reduceLeDiff,zz0,f1,f2,f3,f8,f9,f10,decide_eq_false hla,rdn_of g6,wr_of hb1K]
  exact⟨w.one,hQ sv _ (pre_put (p1.trans pp) (Nat.le_refl _)) ⟨(w.putb (by omega)).inE.mono (by omega) (Nat.le_refl _),stdL_byt⟩⟩
theorem sp27 {a b c:List Int} (ha:a.length=9) (hb:b.length=9) (hc:c.length=9) :
  (splice (cel .u8 (List.replicate 27 0)) 0 (cel .u8 a)).length=27∧(splice (splice (cel .u8 (List.replicate 27 0)) 0 (cel .u8 a)) 9 (cel .u8 b)).length=27 ∧
  splice (splice (splice (cel .u8 (List.replicate 27 0)) 0 (cel .u8 a)) 9 (cel .u8 b)) 18 (cel .u8 c)=cel .u8 (a++b++c):=by
 have l27:(cel .u8 (List.replicate 27 0)).length=27:=rfl
 have s1:(splice (cel .u8 (List.replicate 27 0)) 0 (cel .u8 a)).length=27:=by rw[splice_lenW (by rw[cel_len,ha,l27];omega),l27]
 have s2:(splice (splice (cel .u8 (List.replicate 27 0)) 0 (cel .u8 a)) 9 (cel .u8 b)).length=27:=by rw[splice_lenW (by rw[cel_len,hb,s1];omega),s1]
 refine⟨s1,s2,?_⟩
 rw[cel_splice,cel_splice,cel_splice]
 congr 1
 have h0:(List.replicate 27 (0:Int)).length=27:=rfl
 generalize List.replicate 27 (0:Int)=o at h0
 simp[List.take_append,List.drop_append,ha,hb,hc,h0,List.take_of_length_le,List.drop_of_length_le]
section
variable {a b c:List Int}
theorem seg_0 (ha:a.length=9):seg (a++b++c) 0=a:=by simp[seg,ha,List.append_assoc]
theorem seg_1 (ha:a.length=9) (hb:b.length=9):seg (a++b++c) 1=b:=by
 unfold seg
 rw[List.append_assoc,List.drop_append,List.drop_of_length_le (by omega),ha]
 simp[hb]
theorem seg_2 (ha:a.length=9) (hb:b.length=9) (hc:c.length=9):seg (a++b++c) 2=c:=by
 unfold seg
 rw[List.drop_append,List.drop_of_length_le (by simp[ha,hb]),List.length_append,ha,hb]
 simp[hc,List.take_of_length_le]
theorem by_27 (ha:By 9 a) (hb:By 9 b) (hc:By 9 c):By 27 (a++b++c):=by
 refine⟨by simp[ha.1,hb.1,hc.1],fun j hj=>?_⟩
 by_cases h1:j<9
 ·rw[List.append_assoc,getD_app_l (by rw[ha.1];exact h1)]
  exact ha.2 j h1
 ·by_cases h2:j<18
  ·rw[getD_app_l (by simp[ha.1,hb.1];omega),getD_app_r (by rw[ha.1];omega),ha.1]
   exact hb.2 _ (by omega)
  ·rw[getD_app_r (by simp[ha.1,hb.1];omega)]
   simp only[List.length_append,ha.1,hb.1]
   exact hc.2 _ (by omega)
end
theorem okProd_of {x:Sch} {a b c:List Int} (fa:FQ x.p (pl x 0) a) (fb:FQ x.p (pl x 1) b) (fc:FQ x.p (pl x 2) c) (za:isZ a=false) (zb:isZ b=false) (zc:isZ c=false):okProd x (a++b++c)=true:=by
 unfold okProd hasZ
 rw[seg_0 fa.1.1,seg_1 fa.1.1 fb.1.1,seg_2 fa.1.1 fb.1.1 fc.1.1,fa.2,fb.2,fc.2,za,zb,zc]
 rfl
theorem s_l01DrawOf {h0 h:AH} {n:Nat} {x:Sch} {v:Value} {Q:Value→AH→Prop} (s:Src h0 h n) (z:SZ x) (hv:isOne v=true)
  (hQ:∀ q h',Kp n h h'→Src h0 h' n→By 27 q→okProd x q=true→Q (aggV .u8 q) h'):WF S 305 [srcP n,schV x v] h Q:=by
 refine WF_fn (fn:=c305) rfl rfl ?_
 dsimp only[c305,oO,oM,oS,oG,oK,oE,oL,oF,oX,oN]
 have lt:=s.lt
 have l0:=pre_len s.p
 have znm:=z.nm
 have zmk:=z.mk2
 have znk:=z.nk
 obtain⟨A,hA⟩:∃ A:Nat,x.n*x.m=A:=⟨(x.n*x.m).toNat,by omega⟩
 obtain⟨B,hB⟩:∃ B:Nat,x.m*x.k=B:=⟨(x.m*x.k).toNat,by omega⟩
 obtain⟨C,hC⟩:∃ C:Nat,x.n*x.k=C:=⟨(x.n*x.k).toNat,by omega⟩
 ((try simp (maxSteps:=3000000) (dsimp:=false) (disch:=first|omega|simp only[lnx];omega) only[↓ypre,ypost,↓reduceIte,reduceEqDiff,reduceAdd,reduceSub,reduceLeDiff,zz0,ynew,schV,hv,zeros27]);try simp only[yback])
 generalize hH1:AH.new h _=H1
 obtain⟨hb1,p1,n1⟩:=new_facts hH1
 generalize hH2:AH.new H1 _=H2
 obtain⟨hb2,p2,n2⟩:=new_facts hH2
 have hb1:=pre_get p2 hb1
 ((try simp (maxSteps:=3000000) (dsimp:=false) (disch:=first|omega|simp only[lnx];omega) only[↓ypre,ypost,↓reduceIte,reduceEqDiff,reduceAdd,reduceSub,reduceLeDiff,zz0,ynew,rdn_of hb1,List.length_cons,List.length_nil,List.drop_zero,List.take_succ_cons,List.take_nil]);try simp only[yback])
 refine s_l01Lengths hv z fun H3 p3=>?_
 have k3:Kp n h H3:=Kp.of ((p1.trans p2).trans p3)
 have s3:Src h0 H3 n:=s.kp ((p1.trans p2).trans p3)
 have g1:=pre_get p3 hb1
 have g2:=pre_get p3 hb2
 rw[hA,hB,hC]
 ((try simp (maxSteps:=3000000) (dsimp:=false) (disch:=first|omega|simp only[lnx];omega) only[↓ypre,ypost,↓reduceIte,reduceEqDiff,reduceAdd,reduceSub,reduceLeDiff,zz0,ynew,rd1_of g1]);try simp only[yback])
 refine s_l01DrawForm s3 z.p (by omega) fun a H4 k4 s4 fa za=>?_
 have g1:=k4.get (by omega) g1
 have g2:=k4.get (by omega) g2
 ((try simp (maxSteps:=3000000) (dsimp:=false) (disch:=first|omega|simp only[lnx];omega) only[↓ypre,ypost,↓reduceIte,reduceEqDiff,reduceAdd,reduceSub,reduceLeDiff,zz0,ynew,rd1_of g1]);try simp only[yback])
 refine⟨k4,by omega,?_⟩
 refine s_l01DrawForm s4 z.p (by omega) fun b H5 k5 s5 fb zb=>?_
 have g1:=k5.get (by omega) g1
 have g2:=k5.get (by omega) g2
 ((try simp (maxSteps:=3000000) (dsimp:=false) (disch:=first|omega|simp only[lnx];omega) only[↓ypre,ypost,↓reduceIte,reduceEqDiff,reduceAdd,reduceSub,reduceLeDiff,zz0,ynew,rd1_of g1]);try simp only[yback])
 refine⟨k5,by omega,?_⟩
 refine s_l01DrawForm s5 z.p (by omega) fun c H6 k6 s6 fc zc=>?_
 have g2:=k6.get (by omega) g2
 have ha:=fa.1.1
 have hb:=fb.1.1
 have hc:=fc.1.1
 have lf:(a++b++c).length=27:=by simp[ha,hb,hc]
 have w5:=wr_full (vs:=cel .u8 (a++b++c)) g2 (by rw[cel_len,lf];rfl)
 have tk:(cel .u8 (a++b++c)).take 27=cel .u8 (a++b++c):=List.take_of_length_le (by rw[cel_len,lf];exact Nat.le_refl _)
 have lg:=get_lt g2
 obtain⟨sp1,sp2,sp3⟩:=sp27 ha hb hc
 ((try simp (maxSteps:=3000000) (dsimp:=false) (disch:=first|omega|simp only[lnx];omega) only[↓ypre,ypost,↓reduceIte,reduceEqDiff,reduceAdd,reduceSub,reduceLeDiff,zz0,ynew,aggV,zeros27,ha,hb,hc,List.length_replicate,sp1,sp2,sp3,cel_all,cel_len,lf,w5,rdn_put_same,tk]);try simp only[yback])
 refine hQ _ _ (Kp.putb (m:=H1.length) ((k3.trans (k4.trans k5)).trans k6) (by omega)) (Src.putb (m:=H1.length) s6 (by omega) (by omega)) (by_27 fa.1 fb.1 fc.1) (okProd_of ?_ ?_ ?_ za zb zc)
 ·show FQ x.p (x.n*x.m) a
  rw[hA];exact fa
 ·show FQ x.p (x.m*x.k) b
  rw[hB];exact fb
 ·show FQ x.p (x.n*x.k) c
  rw[hC];exact fc
theorem sz_of {n:Int} (h:n=1∨n=2∨n=3):sz n=true:=by
 rcases h with rfl|rfl|rfl<;>rfl
theorem isP_of {p:Int} (h:p=2∨p=3∨p=5):isP p=true:=by
 rcases h with rfl|rfl|rfl<;>rfl
theorem s_l01DrawSizes {h0 h:AH} {n:Nat} {Q:Value→AH→Prop} (s:Src h0 h n)
  (hQ:∀ (p a b c:Int) (nb:Nat) h',Kp n h h'→Src h0 h' n→h.length≤nb→h'.get nb=some ⟨[],138,false,true⟩→(p=2∨p=3∨p=5)→(a=1∨a=2∨a=3)→(b=1∨b=2∨b=3)→(c=1∨c=2∨c=3) →
   Q (schV ⟨p,a,b,c,[]⟩ (.slice (some ⟨nb,0,none⟩) 0 27)) h'):WF S 320 [srcP n] h Q:=by
 refine WF_fn (fn:=c320) rfl rfl ?_
 dsimp only[c320,oO,oM,oS,oG,oK,oE,oL,oF,oX,oN]
 have lt:=s.lt
 have l0:=pre_len s.p
 ((try simp (maxSteps:=3000000) (dsimp:=false) (disch:=first|omega|simp only[lnx];omega) only[↓ypre,ypost,↓reduceIte,reduceEqDiff,reduceAdd,reduceSub,reduceLeDiff,zz0,ynew]);try simp only[yback])
 generalize hH1:AH.new h _=H1
 obtain⟨hb1,p1,n1⟩:=new_facts hH1
 ((try simp (maxSteps:=3000000) (dsimp:=false) (disch:=first|omega|simp only[lnx];omega) only[↓ypre,ypost,↓reduceIte,reduceEqDiff,reduceAdd,reduceSub,reduceLeDiff,zz0,ynew,fillL,zrep]);try simp only[yback])
 generalize hH2:AH.new H1 _=H2
 obtain⟨hb2,p2,n2⟩:=new_facts hH2
 have kv:=kp_new (n:=n) (ns:=[2,2,2,3,5]) hH2 (by omega)
 refine s_l01Pick (s.kp (p1.trans p2)) kv (by simp) (by simp) fun j H3 k3 l3 s3 hj=>?_
 have hp:([2,2,2,3,5]:List Int).getD j 0=2∨([2,2,2,3,5]:List Int).getD j 0=3∨([2,2,2,3,5]:List Int).getD j 0=5:=by
  simp at hj
  have:j=0∨j=1∨j=2∨j=3∨j=4:=by omega
  rcases this with rfl|rfl|rfl|rfl|rfl<;>simp
 generalize ([2,2,2,3,5]:List Int).getD j 0=p at hp
 have g1:=k3.get (by omega) (pre_get p2 hb1)
 ((try simp (maxSteps:=3000000) (dsimp:=false) (disch:=first|omega|simp only[lnx];omega) only[↓ypre,ypost,↓reduceIte,reduceEqDiff,reduceAdd,reduceSub,reduceLeDiff,zz0,ynew,fillL,zrep]);try simp only[yback])
 generalize hH4:AH.new H3 _=H4
 obtain⟨hb4,p4,n4⟩:=new_facts hH4
 ((try simp (maxSteps:=3000000) (dsimp:=false) (disch:=first|omega|simp only[lnx];omega) only[↓ypre,ypost,↓reduceIte,reduceEqDiff,reduceAdd,reduceSub,reduceLeDiff,zz0,ynew,fillL,zrep]);try simp only[yback])
 generalize hH5:AH.new H4 _=H5
 obtain⟨hb5,p5,n5⟩:=new_facts hH5
 have k5:Kp n h H5:=(Kp.of (p1.trans p2)).trans (k3.trans (Kp.of (p4.trans p5)))
 have s5:Src h0 H5 n:=s3.kp (p4.trans p5)
 have g1:=pre_get (p4.trans p5) g1
 have g4:=pre_get p5 hb4
 have g5:=hb5
 have fin:∀ (a b c:Int) (h':AH),Kp n h h'→Src h0 h' n→h'.get h.length=some ⟨[.int .i64 0,.int .i64 0,.int .i64 0,.int .i64 0,.slice none 0 0],26,false,true⟩→h'.get H3.length=some ⟨[],138,false,true⟩ →
   (a=1∨a=2∨a=3)→(b=1∨b=2∨b=3)→(c=1∨c=2∨c=3) →
   Q (schV ⟨p,a,b,c,[]⟩ (.slice (some ⟨H3.length,0,none⟩) 0 27)) (h'.put h.length ⟨[I64 p,I64 a,I64 b,I64 c,.slice (some ⟨H3.length,0,none⟩) 0 27],26,false,true⟩):=fun a b c h' kk ss gg g4 ha hb hc=>
  hQ p a b c H3.length _ (kk.putb (Nat.le_refl _)) (ss.putb (by omega) (by omega)) (by omega) (by rw[get_put_ne (by omega)];exact g4) hp ha hb hc
 have pick3:∀ j,j<([1,2,3]:List Int).length→(([1,2,3]:List Int).getD j 0=1∨([1,2,3]:List Int).getD j 0=2∨([1,2,3]:List Int).getD j 0=3):=fun j hj=>by
  simp at hj
  have:j=0∨j=1∨j=2:=by omega
  rcases this with rfl|rfl|rfl<;>simp
 ((try simp (maxSteps:=3000000) (dsimp:=false) (disch:=first|omega|simp only[lnx];omega) only[↓ypre,ypost,↓reduceIte,reduceEqDiff,reduceAdd,reduceSub,reduceLeDiff,zz0,ynew]);try simp only[yback])
 refine s_l01Next s5 fun r H6 k6 l6 s6 hr _=>?_
 have g1:=k6.get (by omega) g1
 have g4:=k6.get (by omega) g4
 have g5:=k6.get (by omega) g5
 by_cases h0':r=0
 case neg=>
  have lg:=get_lt g1
  ((try simp (maxSteps:=3000000) (dsimp:=false) (disch:=first|omega|simp only[lnx];omega) only[↓ypre,ypost,↓reduceIte,reduceEqDiff,reduceAdd,reduceSub,reduceLeDiff,zz0,ynew,decide_eq_false h0',rdn_of g5,wr_of g1,splice_eq,rdn_put_same]);try simp only[yback])
  exact fin 2 2 2 H6 (k5.trans k6) s6 g1 g4 (by omega) (by omega) (by omega)
 ((try simp (maxSteps:=3000000) (dsimp:=false) (disch:=first|omega|simp only[lnx];omega) only[↓ypre,ypost,↓reduceIte,reduceEqDiff,reduceAdd,reduceSub,reduceLeDiff,zz0,ynew,decide_eq_true h0',fillL,zrep]);try simp only[yback])
 generalize hH7:AH.new H6 _=H7
 obtain⟨hb7,p7,n7⟩:=new_facts hH7
 have kv:=kp_new (n:=n) (ns:=[1,2,3]) hH7 (by omega)
 refine s_l01Pick (s6.kp p7) kv (by simp) (by simp) fun j1 H8 k8 l8 s8 hj1=>?_
 have ha:=pick3 j1 hj1
 generalize ([1,2,3]:List Int).getD j1 0=a at ha
 have g1:=k8.get (by omega) (pre_get p7 g1)
 have g4:=k8.get (by omega) (pre_get p7 g4)
 have g5:=k8.get (by omega) (pre_get p7 g5)
 have k8':Kp n h H8:=(k5.trans k6).trans ((Kp.of p7).trans k8)
 ((try simp (maxSteps:=3000000) (dsimp:=false) (disch:=first|omega|simp only[lnx];omega) only[↓ypre,ypost,↓reduceIte,reduceEqDiff,reduceAdd,reduceSub,reduceLeDiff,zz0,ynew,wr_of g5,splice_eq]);try simp only[yback])
 generalize hH9:AH.put H8 _ _=H9
 obtain⟨q9,l9,o9,u9⟩:=put_facts hH9
 have k9:=u9 _ _ k8' (by omega)
 have s9:=s8.put hH9 (by omega) (by omega)
 have g1:=q9 _ _ (by omega) g1
 have g4:=q9 _ _ (by omega) g4
 have g5':=o9 (get_lt g5)
 ((try simp (maxSteps:=3000000) (dsimp:=false) (disch:=first|omega|simp only[lnx];omega) only[↓ypre,ypost,↓reduceIte,reduceEqDiff,reduceAdd,reduceSub,reduceLeDiff,zz0,ynew,fillL,zrep]);try simp only[yback])
 generalize hH7:AH.new H9 _=HA
 obtain⟨hbA,pA,nA⟩:=new_facts hH7
 have kv:=kp_new (n:=n) (ns:=[1,2,3]) hH7 (by have:=s9.lt;omega)
 refine s_l01Pick (s9.kp pA) kv (by simp) (by simp) fun j2 HB kB lB sB hj2=>?_
 have hb:=pick3 j2 hj2
 generalize ([1,2,3]:List Int).getD j2 0=b at hb
 have g1:=kB.get (by omega) (pre_get pA g1)
 have g4:=kB.get (by omega) (pre_get pA g4)
 have g5:=kB.get (by omega) (pre_get pA g5')
 have kB':Kp n h HB:=k9.trans ((Kp.of pA).trans kB)
 ((try simp (maxSteps:=3000000) (dsimp:=false) (disch:=first|omega|simp only[lnx];omega) only[↓ypre,ypost,↓reduceIte,reduceEqDiff,reduceAdd,reduceSub,reduceLeDiff,zz0,ynew,wr_of g5,splice_eq]);try simp only[yback])
 generalize hHC:AH.put HB _ _=HC
 obtain⟨qC,lC,oC,uC⟩:=put_facts hHC
 have kC:=uC _ _ kB' (by omega)
 have sC:=sB.put hHC (by omega) (by omega)
 have g1:=qC _ _ (by omega) g1
 have g4:=qC _ _ (by omega) g4
 have g5':=oC (get_lt g5)
 ((try simp (maxSteps:=3000000) (dsimp:=false) (disch:=first|omega|simp only[lnx];omega) only[↓ypre,ypost,↓reduceIte,reduceEqDiff,reduceAdd,reduceSub,reduceLeDiff,zz0,ynew,fillL,zrep]);try simp only[yback])
 generalize hH7:AH.new HC _=HD
 obtain⟨hbD,pD,nD⟩:=new_facts hH7
 have kv:=kp_new (n:=n) (ns:=[1,2,3]) hH7 (by have:=sC.lt;omega)
 refine s_l01Pick (sC.kp pD) kv (by simp) (by simp) fun j3 HE kE lE sE hj3=>?_
 have hc:=pick3 j3 hj3
 generalize ([1,2,3]:List Int).getD j3 0=c at hc
 have g1:=kE.get (by omega) (pre_get pD g1)
 have g4:=kE.get (by omega) (pre_get pD g4)
 have g5:=kE.get (by omega) (pre_get pD g5')
 have kE':Kp n h HE:=kC.trans ((Kp.of pD).trans kE)
 have lg:=get_lt g1
 have lg5:=get_lt g5
 ((try simp (maxSteps:=3000000) (dsimp:=false) (disch:=first|omega|simp only[lnx];omega) only[↓ypre,ypost,↓reduceIte,reduceEqDiff,reduceAdd,reduceSub,reduceLeDiff,zz0,ynew,wr_of g5,wr_of g1,splice_eq,rdn_put_same]);try simp only[yback])
 exact hQ p a b c H3.length _ ((kE'.putb (m:=h.length) (Nat.le_refl _)).putb (m:=H4.length) (by omega)) ((sE.putb (m:=h.length) (by omega) (by omega)).putb (m:=H4.length) (by omega) (by omega)) (by omega) (by rw[get_put_ne (by omega),get_put_ne (by omega)];exact g4) hp ha hb hc
def stra (m:Int):List (List Int):=[[1,0,0,1,0,0,0,0,0,1,0,0,1,0,0,0,0,0,1,0,0,1,0,0,0,0,0],
 [0,0,1,1,0,0,0,0,0,1,0,0,0,0,0,0,0,0,0,0,1,m,0,0,0,0,0],
 [1,0,0,0,0,0,0,0,0,0,1,0,m,0,0,0,0,0,0,1,0,1,0,0,0,0,0],
 [0,0,0,1,0,0,0,0,0,m,0,1,0,0,0,0,0,0,1,0,1,0,0,0,0,0,0],
 [1,1,0,0,0,0,0,0,0,0,0,0,1,0,0,0,0,0,m,1,0,0,0,0,0,0,0],
 [m,0,1,0,0,0,0,0,0,1,1,0,0,0,0,0,0,0,0,0,0,1,0,0,0,0,0],
 [0,1,0,m,0,0,0,0,0,0,0,1,1,0,0,0,0,0,1,0,0,0,0,0,0,0,0]]
theorem app_zeroW {e:TypeId} {w bytes:Nat} {h:AH} {k n' off m:Nat} {news:List Value} {full:Bool} (hk:h.get k=some ⟨[],e,false,full⟩) (hn:h.rdn n' off (m*w)=some news) (hm:0<m)
  (hs:(m:Int)*bytes≤140737488355328∧(m:Int)≤9223372036854775807) :
  appV e w bytes (.slice (some ⟨k,0,none⟩) 0 w) (.slice (some ⟨n',off,none⟩) m w) h=some (.slice (some ⟨h.length,0,none⟩) m w,(h.kill k).new ⟨news,e,false,false⟩):=by
 simp only[appV,xop,ev,if_true,hn,hk]
 rw[if_pos (by simpa using hs),if_neg (by omega)]
 simp
theorem s_l01Strassen {h:AH} {p:Int} {Q:Value→AH→Prop} (hp:2≤p∧p≤5)
  (hQ:∀ (nb:Nat) (h':AH),h<+:h'→h.length≤nb→h'.get nb=some ⟨cel .u8 (stra (p-1)).flatten,138,false,false⟩→Q (schV ⟨p,2,2,2,stra (p-1)⟩ (.slice (some ⟨nb,0,none⟩) 7 27)) h'):WF S 321 [I64 p] h Q:=by
 refine WF_fn (fn:=c321) rfl rfl ?_
 dsimp only[c321,oO,oM,oS,oG,oK,oE,oL,oF,oX,oN]
 ((try simp (maxSteps:=3000000) (dsimp:=false) (disch:=first|omega|simp only[lnx];omega) only[↓ypre,ypost,↓reduceIte,reduceEqDiff,reduceAdd,reduceSub,reduceLeDiff,zz0,ynew]);try simp only[yback])
 generalize hH1:AH.new h _=H1
 obtain⟨hb1,p1,n1⟩:=new_facts hH1
 ((try simp (maxSteps:=3000000) (dsimp:=false) (disch:=first|omega|simp only[lnx];omega) only[↓ypre,ypost,↓reduceIte,reduceEqDiff,reduceAdd,reduceSub,reduceLeDiff,zz0,ynew,fillL,zrep]);try simp only[yback])
 generalize hH2:AH.new H1 _=H2
 obtain⟨hb2,p2,n2⟩:=new_facts hH2
 ((try simp (maxSteps:=3000000) (dsimp:=false) (disch:=first|omega|simp only[lnx];omega) only[↓ypre,ypost,↓reduceIte,reduceEqDiff,reduceAdd,reduceSub,reduceLeDiff,zz0,ynew,fillL,zrep]);try simp only[yback])
 generalize hH3:AH.new H2 _=H3
 obtain⟨hb3,p3,n3⟩:=new_facts hH3
 ((try simp (maxSteps:=3000000) (dsimp:=false) (disch:=first|omega|simp only[lnx];omega) only[↓ypre,ypost,↓reduceIte,reduceEqDiff,reduceAdd,reduceSub,reduceLeDiff,zz0,ynew,wrap64_in,wrap8_in,rd1_of hb3,zrep,fillL]);try simp only[yback])
 generalize hH4:AH.new H3 _=H4
 obtain⟨hb4,p4,n4⟩:=new_facts hH4
 have hb4:H4.get H3.length=some ⟨cel .u8 (stra (p-1)).flatten,138,false,true⟩:=hb4
 have g2:=pre_get (p3.trans p4) hb2
 have g3:=pre_get p4 hb3
 have g1:=pre_get (p2.trans (p3.trans p4)) hb1
 have l189:(cel .u8 (stra (p-1)).flatten).length=189:=rfl
 have rd:H4.rdn H3.length 0 (7*27)=some (cel .u8 (stra (p-1)).flatten):=by
  rw[rdn_of hb4]
  rfl
 rw[app_zeroW g2 rd (by omega) (by omega),OQ_some]
 generalize hH5:AH.new _ _=H5
 have k5:∀ m b,m≠H1.length→H4.get m=some b→H5.get m=some b:=fun m b hm g=>by
  rw[←hH5]
  exact get_new_any (by rw[get_kill_ne (Ne.symm hm)];exact g)
 have g5:H5.get H4.length=some ⟨cel .u8 (stra (p-1)).flatten,138,false,false⟩:=by
  rw[←hH5]
  exact get_new_eq (by rw[len_kill])
 have l5:H5.length=H4.length+1:=by rw[←hH5,len_new,len_kill]
 have q5:h<+:H5:=by
  rw[←hH5]
  exact pre_new (pre_kill (p1.trans (p2.trans (p3.trans p4))) (by omega))
 have g3:=k5 _ _ (by omega) g3
 have g1:=k5 _ _ (by omega) g1
 have lg:=get_lt g1
 have lg3:=get_lt g3
 ((try simp (maxSteps:=3000000) (dsimp:=false) (disch:=first|omega|simp only[lnx];omega) only[↓ypre,ypost,↓reduceIte,reduceEqDiff,reduceAdd,reduceSub,reduceLeDiff,zz0,ynew,wr_of g3,wr_of g1,splice_eq,rdn_put_same]);try simp only[yback])
 exact hQ H4.length _ (pre_put (pre_put q5 (Nat.le_refl _)) (by omega)) (by omega) (by rw[get_put_ne (by omega),get_put_ne (by omega)];exact g5)
end Go.Proofs.Ytapafdpnmakekaa.X

set_option linter.unusedVariables false
set_option linter.unusedSimpArgs false
set_option maxRecDepth 20000
set_option maxHeartbeats 4000000
namespace Go.Proofs.Ytapafdpnmakekaa.X
open Go Go.RowKit
section
variable {n m:Nat} {h0 h h' h'':AH}
theorem Kp.over (k:Kp n h h') (d:Kp m h' h'') (hm:h.length≤m):Kp n h h'':=⟨Nat.le_trans k.1 d.1,fun j hj hn=>(d.2 j (Nat.lt_of_lt_of_le hj k.1) (by omega)).trans (k.2 j hj hn)⟩
theorem Src.over (s:Src h0 h' n) (d:Kp m h' h'') (hm:m≠n) (hl:h0.length≤m):Src h0 h'' n:=s.keep (d.pre s.p hl) fun _ g=>d.get (Ne.symm hm) g
end
theorem app_kp {e:TypeId} {k:IntKind} {w bytes nb:Nat} {L:List (List Int)} {q:List Int} {full ro fu:Bool} {H:AH} {e':TypeId} (hk:H.get nb=some ⟨cel k L.flatten,e,false,full⟩) (hw:Wid w L) (hq:q.length=w)
  (hl:((L.length:Int)+1)*bytes≤140737488355328) (hn:(L.length:Int)<1048576) {Q:Value→AH→Prop}
  (hQ:∀ H':AH,H'.length=H.length+2→Kp nb H H'→H'.get (H.length+1)=some ⟨cel k (L++[q]).flatten,e,false,false⟩→Wid w (L++[q])→Q (.slice (some ⟨H.length+1,0,none⟩) (L.length+1) w) H') :
  OQ (appV e w bytes (.slice (some ⟨nb,0,none⟩) L.length w) (.slice (some ⟨H.length,0,none⟩) 1 w) (H.new ⟨cel k q,e',ro,fu⟩)) Q:=by
 have hr:(H.new ⟨cel k q,e',ro,fu⟩).rdn H.length 0 w=some (cel k q):=by
  rw[rdn_of get_new_same]
  simp only
  rw[if_pos (by rw[cel_len,hq];omega),List.drop_zero,List.take_of_length_le (by rw[cel_len,hq];omega)]
 have hk':(H.new ⟨cel k q,e',ro,fu⟩).get nb=some ⟨cel k L.flatten,e,false,full⟩:=get_new_any hk
 have hkb:=get_lt hk
 rw[app_ownW hk' (by rw[cel_len,flat_len hw]) hr ⟨hl,by omega⟩,OQ_some,len_new]
 refine hQ _ (by rw[len_new,len_kill,len_new]) ⟨by rw[len_new,len_kill,len_new];omega,fun j hj hne=>?_⟩ ?_ ?_
 ·have e1:(((H.new ⟨cel k q,e',ro,fu⟩).kill nb).new ⟨cel k L.flatten++cel k q,e,false,false⟩).get j=((H.new ⟨cel k q,e',ro,fu⟩).kill nb).get j:=prefix_get (pre_new (List.prefix_refl _)) (by rw[len_kill,len_new];omega)
  rw[e1,get_kill_ne (Ne.symm hne)]
  exact prefix_get (pre_new (List.prefix_refl _)) hj
 ·rw[get_new_eq (by rw[len_kill,len_new])]
  simp[cel_app]
 ·intro r hr
  rcases List.mem_append.1 hr with hr|hr
  ·exact hw r hr
  ·rw[List.mem_singleton.1 hr,hq]
theorem InE.kN {k:IntKind} {w a b lo:Nat} {h:AH} {v:Value} {L:List (List Int)} (o:InE k w a b h v L) (hn:lo≤a):KN lo h fun h'=>Els k w h' v L:=by
 intro h' l g
 rcases o with⟨rfl,rfl⟩|⟨m,e,full,h1,rfl,h2,h3⟩
 ·exact .inl ⟨rfl,0,by omega,rfl⟩
 ·exact InE.rd (.inr ⟨m,e,full,h1,rfl,by rw[g m (by omega) (get_lt h2)];exact h2,h3⟩)
theorem blk_kN {k:IntKind} {w lo m:Nat} {h:AH} {L:List (List Int)} {e:TypeId} {full:Bool} (hg:h.get m=some ⟨cel k L.flatten,e,false,full⟩) (hw:Wid w L) (hn:lo≤m):KN lo h fun h'=>Els k w h' (.slice (some ⟨m,0,none⟩) L.length w) L:=
 fun h' l g=>InE.rd (.inr ⟨m,e,full,⟨Nat.le_refl _,Nat.lt_succ_self _⟩,rfl,by rw[g m hn (get_lt hg)];exact hg,hw⟩)
theorem stra_wid {m:Int}:Wid 27 (stra m):=by
 intro q hq
 simp only[stra,List.mem_cons,List.not_mem_nil,or_false] at hq
 rcases hq with rfl|rfl|rfl|rfl|rfl|rfl|rfl<;>rfl
theorem stra_isX {p:Int} (hp:p=2∨p=3∨p=5):isX ⟨p,2,2,2,stra (p-1)⟩=true:=by
 rcases hp with rfl|rfl|rfl<;>decide
theorem byt_isX {x:Sch} (hx:isX x=true) (hw:Wid 27 x.ps) (hb:∀ q∈x.ps,∀ j,j<27→0≤q.getD j 0):Byt 27 x.ps:=by
 obtain⟨z,hp,_,ho⟩:=isX_facts hx
 have zp:=z.p
 intro i hi j hj
 have hm:x.ps.getD i []∈x.ps:=by
  rw[List.getD_eq_getElem?_getD,List.getElem?_eq_getElem hi]
  exact List.getElem_mem _
 refine⟨hb _ hm j hj,?_⟩
 have h1:=ho i hi
 unfold okProd at h1
 simp only[Bool.and_eq_true] at h1
 have at9:∀ s,s<3→∀ l,l<9→(seg (x.ps.getD i []) s).getD l 0<x.p:=fun s hs l hl=>by
  have:s=0∨s=1∨s=2:=by omega
  rcases this with rfl|rfl|rfl
  ·exact (okForm_at h1.1.1.1 hl).1
  ·exact (okForm_at h1.1.1.2 hl).1
  ·exact (okForm_at h1.1.2 hl).1
 have h2:=at9 (j / 9) (by omega) (j%9) (by omega)
 have e:(seg (x.ps.getD i []) (j / 9)).getD (j%9) 0=(x.ps.getD i []).getD j 0:=by
  unfold seg
  rw[cut_get (by omega)]
  congr 1
  omega
 rw[e] at h2
 omega
theorem std_isX {p n m k:Int} (hp:p=2∨p=3∨p=5) (hn:n=1∨n=2∨n=3) (hm:m=1∨m=2∨m=3) (hk:k=1∨k=2∨k=3):isX (stdX p n m k)=true:=by
 rcases hp with rfl|rfl|rfl<;>rcases hn with rfl|rfl|rfl<;>rcases hm with rfl|rfl|rfl<;>rcases hk with rfl|rfl|rfl<;>decide +kernel
end Go.Proofs.Ytapafdpnmakekaa.X

set_option linter.unusedVariables false
set_option linter.unusedSimpArgs false
set_option maxRecDepth 20000
set_option maxHeartbeats 4000000
namespace Go.Proofs.Ytapafdpnmakekaa.X
open Go Go.RowKit
open Nat (reduceEqDiff reduceAdd reduceSub reduceLeDiff)
structure DL (x:Sch) (L:List (List Int)):Prop where
 w:Wid 27 L
 by':∀ q∈L,By 27 q
 ok:∀ q∈L,okProd x q=true
theorem DL.nil {x:Sch}:DL x []:=⟨fun q h=>by simp at h,fun q h=>by simp at h,fun q h=>by simp at h⟩
theorem DL.snoc {x:Sch} {L:List (List Int)} {q:List Int} (d:DL x L) (hb:By 27 q) (ho:okProd x q=true):DL x (L++[q]):=by
 refine⟨fun r h=>?_,fun r h=>?_,fun r h=>?_⟩<;>rcases List.mem_append.1 h with h|h
 ·exact d.w r h
 ·rw[List.mem_singleton.1 h];exact hb.1
 ·exact d.by' r h
 ·rw[List.mem_singleton.1 h];exact hb
 ·exact d.ok r h
 ·rw[List.mem_singleton.1 h];exact ho
theorem DL.byt {x:Sch} {L:List (List Int)} (d:DL x L):Byt 27 L:=fun i hi j hj=>by
 have hm:L.getD i []∈L:=by
  rw[List.getD_eq_getElem?_getD,List.getElem?_eq_getElem hi]
  exact List.getElem_mem _
 exact (d.by' _ hm).2 j hj
theorem DL.isX {x:Sch} (d:DL x x.ps) (hs:szX x=true) (hl:x.ps.length≤30):isX x=true:=by
 unfold X.isX
 rw[hs,decide_eq_true hl]
 simp only[Bool.true_and]
 exact List.all_eq_true.2 d.ok
def NK (v:Value):Prop:=v=.slice none 0 0∨∃ b n w,v=.slice (some ⟨b,0,none⟩) n w
theorem InE.nk {k:IntKind} {w a b:Nat} {h:AH} {v:Value} {L:List (List Int)} (o:InE k w a b h v L):NK v:=by
 rcases o with⟨rfl,_⟩|⟨m,e,full,_,rfl,_⟩
 ·exact .inl rfl
 ·exact .inr ⟨_,_,_,rfl⟩
def SchD (lo:Nat) (h:AH) (v:Value) (x:Sch):Prop:=KN lo h fun h'=>Prods h' v x.ps
theorem zrep27:zrep 1 [.int .u8 0,.int .u8 0,.int .u8 0,.int .u8 0,.int .u8 0,.int .u8 0,.int .u8 0,.int .u8 0,.int .u8 0,.int .u8 0,.int .u8 0,.int .u8 0,.int .u8 0,.int .u8 0,.int .u8 0,.int .u8 0,.int .u8 0,.int .u8 0,.int .u8 0,.int .u8 0,.int .u8 0,.int .u8 0,.int .u8 0,.int .u8 0,.int .u8 0,.int .u8 0,.int .u8 0]=cel .u8 (List.replicate 27 0):=rfl
theorem sp27z {q:List Int} (hq:q.length=27):splice (cel .u8 (List.replicate 27 0)) 0 (cel .u8 q)=cel .u8 q:=splice_27 hq
theorem s_l01Draw {h0 h:AH} {n:Nat} {Q:Value→AH→Prop} (s:Src h0 h n)
  (hQ:∀ x v h',Kp n h h'→Src h0 h' n→SchD h.length h' v x→X.isX x=true→NK v→Q (schV x v) h'):WF S 266 [srcP n] h Q:=by
 refine WF_fn (fn:=c266) rfl rfl ?_
 dsimp only[c266,oO,oM,oS,oG,oK,oE,oL,oF,oX,oN]
 have lt:=s.lt
 have l0:=pre_len s.p
 ((try simp (maxSteps:=3000000) (dsimp:=false) (disch:=first|omega|simp only[lnx];omega) only[↓ypre,ypost,↓reduceIte,reduceEqDiff,reduceAdd,reduceSub,reduceLeDiff,zz0,ynew]);try simp only[yback])
 generalize hH1:AH.new h _=H1
 obtain⟨hb1,p1,n1⟩:=new_facts hH1
 refine s_l01DrawSizes (s.kp p1) fun p a b c nb H2 k2 s2 hnb gnb hp ha hb hc=>?_
 have g1:=k2.get (by omega) hb1
 ((try simp (maxSteps:=3000000) (dsimp:=false) (disch:=first|omega|simp only[lnx];omega) only[↓ypre,ypost,↓reduceIte,reduceEqDiff,reduceAdd,reduceSub,reduceLeDiff,zz0,ynew,schV,one_slice]);try simp only[yback])
 generalize hH3:AH.new H2 _=H3
 obtain⟨hb3,p3,n3⟩:=new_facts hH3
 have k3:Kp n h H3:=(Kp.of p1).trans (k2.trans (Kp.of p3))
 have l2:=k2.len
 have szx:szX ⟨p,a,b,c,[]⟩=true:=by
  unfold szX
  rw[isP_of hp,sz_of ha,sz_of hb,sz_of hc]
  rfl
 have z:=szX_facts szx
 have zp:=z.p
 ((try simp (maxSteps:=3000000) (dsimp:=false) (disch:=first|omega|simp only[lnx];omega) only[↓ypre,ypost,↓reduceIte,reduceEqDiff,reduceAdd,reduceSub,reduceLeDiff,zz0,ynew]);try simp only[yback])
 refine s_l01Next (s2.kp p3) fun r H4 k4 l4 s4 hr _=>?_
 have g1:=k4.get (by omega) (pre_get p3 g1)
 have g3:=k4.get (by omega) hb3
 have gn:=k4.get (by omega) (pre_get p3 gnb)
 have fin:∀ (x:Sch) (v:Value) (h':AH),Kp n h h'→Src h0 h' n→SchD h.length (h'.put h.length ⟨[I64 x.p,I64 x.n,I64 x.m,I64 x.k,v],26,false,true⟩) v x→X.isX x=true→NK v →
   Q (schV x v) (h'.put h.length ⟨[I64 x.p,I64 x.n,I64 x.m,I64 x.k,v],26,false,true⟩):=fun x v h' kk ss sd hx nk=>
  hQ x v _ (kk.putb (Nat.le_refl _)) (ss.putb (by omega) (by omega)) sd hx nk
 have k4':=k3.trans k4
 by_cases r0:r=0
 ·((try simp (maxSteps:=3000000) (dsimp:=false) (disch:=first|omega|simp only[lnx];omega) only[↓ypre,ypost,↓reduceIte,reduceEqDiff,reduceAdd,reduceSub,reduceLeDiff,zz0,ynew,decide_eq_true r0,rd1_of g3]);try simp only[yback])
  refine s_l01Strassen zp fun m H5 p5 hm gm=>?_
  have g1:=pre_get p5 g1
  have lg:=get_lt g1
  ((try simp (maxSteps:=3000000) (dsimp:=false) (disch:=first|omega|simp only[lnx];omega) only[↓ypre,ypost,↓reduceIte,reduceEqDiff,reduceAdd,reduceSub,reduceLeDiff,zz0,ynew,schV,wr_of g1,splice_eq,rdn_put_same]);try simp only[yback])
  have l5:=pre_len p5
  exact fin ⟨p,2,2,2,stra (p-1)⟩ _ H5 (k4'.trans (Kp.of p5)) (s4.kp p5) (fun h' d d'=>⟨blk_kN (L:=stra (p-1)) (by rw[get_put_ne (by omega)];exact gm) stra_wid (by omega) h' d d',
   byt_isX (x:=⟨p,2,2,2,stra (p-1)⟩) (stra_isX hp) stra_wid (fun q hq j hj=>by
    simp only[stra,List.mem_cons,List.not_mem_nil,or_false] at hq
    have:∀ l:List Int,(∀ x∈l,0≤x)→0≤l.getD j 0:=fun l hl=>by
     by_cases hj:j<l.length
     ·rw[List.getD_eq_getElem?_getD,List.getElem?_eq_getElem hj]
      exact hl _ (List.getElem_mem _)
     ·rw[List.getD_eq_getElem?_getD,List.getElem?_eq_none (by omega)]
      exact Int.le_refl _
    refine this q ?_
    rcases hq with rfl|rfl|rfl|rfl|rfl|rfl|rfl<;>intro x hx<;>simp only[List.mem_cons,List.not_mem_nil,or_false] at hx<;>omega)⟩) (stra_isX hp) (.inr ⟨_,_,_,rfl⟩)
 by_cases r1:r=1
 ·((try simp (maxSteps:=3000000) (dsimp:=false) (disch:=first|omega|simp only[lnx];omega) only[↓ypre,ypost,↓reduceIte,reduceEqDiff,reduceAdd,reduceSub,reduceLeDiff,zz0,ynew,decide_eq_false r0,decide_eq_true r1,rd1_of g3]);try simp only[yback])
  refine s_l01Standard (szX_facts (x:=stdX p a b c) szx) fun v H5 p5 o5=>?_
  have g1:=pre_get p5 g1
  have lg:=get_lt g1
  have l5:=pre_len p5
  ((try simp (maxSteps:=3000000) (dsimp:=false) (disch:=first|omega|simp only[lnx];omega) only[↓ypre,ypost,↓reduceIte,reduceEqDiff,reduceAdd,reduceSub,reduceLeDiff,zz0,ynew,schV,o5.rd.one,wr_of g1,splice_eq,rdn_put_same]);try simp only[yback])
  have o6:InX H4.length H5.length (AH.put H5 h.length ⟨[I64 p,I64 a,I64 b,I64 c,v],26,false,true⟩) v (stdX p a b c).ps:=⟨o5.1.putb (by omega),o5.2⟩
  exact fin (stdX p a b c) v H5 (k4'.trans (Kp.of p5)) (s4.kp p5) (fun h' d d'=>⟨o6.1.kN (by omega) h' d d',o6.2⟩) (std_isX hp ha hb hc) o5.1.nk
 ((try simp (maxSteps:=3000000) (dsimp:=false) (disch:=first|omega|simp only[lnx];omega) only[↓ypre,ypost,↓reduceIte,reduceEqDiff,reduceAdd,reduceSub,reduceLeDiff,zz0,ynew,decide_eq_false r0,decide_eq_false r1]);try simp only[yback])
 refine s_l01Next s4 fun N H5 k5 l5 s5 hN _=>?_
 have hN:=hN (by omega)
 have g1:=k5.get (by omega) g1
 have g3:=k5.get (by omega) g3
 have gn:=k5.get (by omega) gn
 obtain⟨M,rfl⟩:∃ M:Nat,N=M:=⟨N.toNat,by omega⟩
 ((try simp (maxSteps:=3000000) (dsimp:=false) (disch:=first|omega|simp only[lnx];omega) only[↓ypre,ypost,↓reduceIte,reduceEqDiff,reduceAdd,reduceSub,reduceLeDiff,zz0,ynew]);try simp only[yback])
 refine WC_loop_inv (fun m f K1=>∃ (i:Nat) (L:List (List Int)) (b2:Nat) (fu:Bool),m=M-i∧i≤M∧f 0=srcP n∧f 2=.pointer (some ⟨h.length,0,none⟩)∧f 3=.pointer (some ⟨H2.length,0,none⟩)∧f 4=I64 ((M-i:Nat):Int)∧(Kp n h K1)∧(Src h0 K1 n)∧(L.length=i)∧(DL ⟨p,a,b,c,[]⟩ L)∧(h.length<b2∧b2≠H2.length∧b2≠n)∧(K1.get h.length=some ⟨[.int .i64 0,.int .i64 0,.int .i64 0,.int .i64 0,.slice none 0 0],26,false,true⟩)∧(K1.get H2.length=some ⟨[I64 p,I64 a,I64 b,I64 c,.slice (some ⟨b2,0,none⟩) L.length 27],26,false,true⟩)∧(K1.get b2=some ⟨cel .u8 L.flatten,138,false,fu⟩)) ?_ (M-0) _ _ ⟨0,[],nb,true,rfl,by omega,(by first|rfl|simp[upd_apply]),(by first|rfl|simp[upd_apply]),(by first|rfl|simp[upd_apply]),(by first|rfl|simp[upd_apply]),k4'.trans k5,s5,rfl,DL.nil,(by have:=get_lt gnb;omega),g1,g3,gn⟩
 rintro m f K1 ⟨i,L,b2,fu,rfl,hi,f0,f2,f3,f4,kk,ss,li,dl,hb2,q1,q3,qn⟩
 by_cases hlt:(0:Int)<((M-i:Nat):Int)
 ·((try simp (maxSteps:=3000000) (dsimp:=false) (disch:=first|omega|simp only[lnx];omega) only[↓ypre,ypost,↓reduceIte,reduceEqDiff,reduceAdd,reduceSub,reduceLeDiff,zz0,ynew,f0,f2,f3,f4,decide_eq_true hlt,rd1_of q3,rdn_of q3,List.length_cons,List.length_nil,List.drop_zero,List.take_succ_cons,List.take_nil]);try simp only[yback])
  refine⟨by omega,?_⟩
  refine s_l01DrawOf ss (x:=⟨p,a,b,c,[]⟩) z rfl fun q H6 k6 s6 hq oq=>?_
  have q1:=k6.get (by omega) q1
  have q3:=k6.get (by omega) q3
  have qn:=k6.get (by omega) qn
  have lq6:=get_lt q3
  have ln6:=s6.lt
  have lh6:=get_lt q1
  refine⟨⟨n,rfl,k6⟩,?_⟩
  ((try simp (maxSteps:=3000000) (dsimp:=false) (disch:=first|omega|simp only[lnx];omega) only[↓ypre,ypost,↓reduceIte,reduceEqDiff,reduceAdd,reduceSub,reduceLeDiff,zz0,ynew,f0,f2,f3,f4,aggV,zrep27,hq.1,cel_len,sp27z,List.append_nil,cel_all]);try simp only[yback])
  refine app_kp (bytes:=27) qn dl.w hq.1 (by omega) (by omega) fun H7 l7 k7 q7 w7=>?_
  have q1:=k7.get (by omega) q1
  have q3:=k7.get (by omega) q3
  ((try simp (maxSteps:=3000000) (dsimp:=false) (disch:=first|omega|simp only[lnx];omega) only[↓ypre,ypost,↓reduceIte,reduceEqDiff,reduceAdd,reduceSub,reduceLeDiff,zz0,ynew,f0,f2,f3,f4,wr_of q3,splice_eq,wrap64_in]);try simp only[yback])
  have lt6:=s6.lt
  have lq3:=get_lt q3
  refine InvQ_go (M-(i+1)) (by omega) ⟨(i+1),(L++[q]),(H6.length+1),false,rfl,by omega,(by first|rfl|exact f0|(simp only[upd_apply];rfl)|(show I64 _=_;congr 1;omega)),(by first|rfl|exact f2|(simp only[upd_apply];rfl)|(show I64 _=_;congr 1;omega)),(by first|rfl|exact f3|(simp only[upd_apply];rfl)|(show I64 _=_;congr 1;omega)),(by first|rfl|exact f4|(simp only[upd_apply];rfl)|(show I64 _=_;congr 1;omega)),(Kp.putb (m:=H2.length) ((kk.trans k6).over k7 (by omega)) (by omega)),(Src.putb (m:=H2.length) (s6.over k7 (by omega) (by omega)) (by omega) (by omega)),(by rw[List.length_append,li];rfl),(dl.snoc hq oq),(by have:=k6.len;have:=kk.len;omega),(by rw[get_put_ne (by omega)];exact q1),(by rw[get_put_same (by omega),List.length_append];rfl),(by rw[get_put_ne (by omega)];exact q7)⟩
 ·((try simp (maxSteps:=3000000) (dsimp:=false) (disch:=first|omega|simp only[lnx];omega) only[↓ypre,ypost,↓reduceIte,reduceEqDiff,reduceAdd,reduceSub,reduceLeDiff,zz0,ynew,f0,f2,f3,f4,decide_eq_false hlt]);try simp only[yback])
  have lg:=get_lt q1
  ((try simp (maxSteps:=3000000) (dsimp:=false) (disch:=first|omega|simp only[lnx];omega) only[↓ypre,ypost,↓reduceIte,reduceEqDiff,reduceAdd,reduceSub,reduceLeDiff,zz0,ynew,f0,f2,f3,f4,rdn_of q3,wr_of q1,splice_eq,rdn_put_same]);try simp only[yback])
  exact fin ⟨p,a,b,c,L⟩ _ K1 kk ss (fun h' d d'=>⟨blk_kN (L:=L) (by rw[get_put_ne (by omega)];exact qn) dl.w (by omega) h' d d',dl.byt⟩) (DL.isX (x:=⟨p,a,b,c,L⟩) ⟨dl.w,dl.by',dl.ok⟩ szx (by show L.length≤30;omega)) (.inr ⟨_,_,_,rfl⟩)
end Go.Proofs.Ytapafdpnmakekaa.X

set_option linter.unusedVariables false
set_option linter.unusedSimpArgs false
set_option maxRecDepth 20000
set_option maxHeartbeats 4000000
namespace Go.Proofs.Ytapafdpnmakekaa.X
def sm:Nat→(Nat→Int)→Int
 | 0,_=>0
 | n+1,f=>sm n f+f n
theorem sm_ext {f g:Nat→Int}:∀ {n:Nat},(∀ i,i<n→f i=g i)→sm n f=sm n g
 | 0,_=>rfl
 | n+1,h=>by rw[sm,sm,sm_ext (fun i hi=>h i (by omega)),h n (by omega)]
theorem sm_zero {n:Nat}:sm n (fun _=>0)=0:=by
 induction n with
 | zero=>rfl
 | succ n ih=>rw[sm,ih];rfl
theorem sm_zero' {f:Nat→Int} {n:Nat} (h:∀ i,i<n→f i=0):sm n f=0:=by rw[sm_ext h,sm_zero]
theorem sm_add {f g:Nat→Int} {n:Nat}:sm n (fun i=>f i+g i)=sm n f+sm n g:=by
 induction n with
 | zero=>rfl
 | succ n ih=>simp only[sm,ih];omega
theorem sm_mul {f:Nat→Int} {c:Int} {n:Nat}:sm n (fun i=>c*f i)=c*sm n f:=by
 induction n with
 | zero=>simp[sm]
 | succ n ih=>simp only[sm,ih,Int.mul_add]
theorem sm_mulr {f:Nat→Int} {c:Int} {n:Nat}:sm n (fun i=>f i*c)=sm n f*c:=by
 induction n with
 | zero=>simp[sm]
 | succ n ih=>simp only[sm,ih,Int.add_mul]
theorem sm_split {f:Nat→Int} {n m:Nat}:sm (n+m) f=sm n f+sm m (fun i=>f (n+i)):=by
 induction m with
 | zero=>simp[sm]
 | succ m ih=>rw[←Nat.add_assoc,sm,ih,sm];omega
theorem sm_rows {f:Nat→Int} {n m:Nat}:sm (n*m) f=sm n (fun a=>sm m (fun b=>f (a*m+b))):=by
 induction n with
 | zero=>simp[sm]
 | succ n ih=>rw[Nat.succ_mul,sm_split,ih,sm]
theorem sm_delta {f:Nat→Int} {n a:Nat} (h:a<n):sm n (fun i=>if i=a then f i else 0)=f a:=by
 induction n with
 | zero=>omega
 | succ n ih=>
  rw[sm]
  by_cases e:a=n
  ·subst e
   rw[if_pos rfl,sm_zero' (fun i hi=>if_neg (by omega))]
   omega
  ·rw[ih (by omega),if_neg (by omega)]
   omega
def Cg (p a b:Int):Prop:=p∣a-b
theorem Cg.rfl' {p a:Int}:Cg p a a:=⟨0,by omega⟩
theorem Cg.of {p a b:Int} (h:a=b):Cg p a b:=by subst h;exact .rfl'
theorem Cg.symm {p a b:Int} (h:Cg p a b):Cg p b a:=by
 obtain⟨k,h⟩:=h
 exact⟨-k,by rw[Int.mul_neg];omega⟩
theorem Cg.trans {p a b c:Int} (h:Cg p a b) (g:Cg p b c):Cg p a c:=by
 obtain⟨k,h⟩:=h
 obtain⟨l,g⟩:=g
 exact⟨k+l,by rw[Int.mul_add];omega⟩
theorem Cg.add {p a b c d:Int} (h:Cg p a b) (g:Cg p c d):Cg p (a+c) (b+d):=by
 obtain⟨k,h⟩:=h
 obtain⟨l,g⟩:=g
 exact⟨k+l,by rw[Int.mul_add];omega⟩
theorem Cg.mul {p a b c d:Int} (h:Cg p a b) (g:Cg p c d):Cg p (a*c) (b*d):=by
 obtain⟨k,h⟩:=h
 obtain⟨l,g⟩:=g
 exact⟨k*c+b*l,by grind⟩
theorem Cg.sm {p:Int} {f g:Nat→Int}:∀ {n:Nat},(∀ i,i<n→Cg p (f i) (g i))→Cg p (sm n f) (sm n g)
 | 0,_=>.rfl'
 | n+1,h=>(Cg.sm fun i hi=>h i (by omega)).add (h n (by omega))
def dl (a b:Nat):Int:=if a=b then 1 else 0
theorem dm {a b m:Nat} (h:b<m):(a*m+b) / m=a∧(a*m+b)%m=b:=by
 have hm:0<m:=by omega
 constructor
 ·rw[Nat.mul_comm,Nat.mul_add_div hm,Nat.div_eq_of_lt h];rfl
 ·rw[Nat.mul_comm,Nat.mul_add_mod,Nat.mod_eq_of_lt h]
theorem dm_of {x n m:Nat} (h:x<n*m):x / m<n∧x%m<m∧x=x / m*m+x%m:=by
 have hm:0<m:=by
  rcases Nat.eq_zero_or_pos m with e|e
  ·subst e;simp at h
  ·exact e
 exact⟨(Nat.div_lt_iff_lt_mul hm).2 h,Nat.mod_lt _ hm,by rw[Nat.mul_comm];exact (Nat.div_add_mod x m).symm⟩
end Go.Proofs.Ytapafdpnmakekaa.X

set_option linter.unusedVariables false
set_option linter.unusedSimpArgs false
set_option maxRecDepth 20000
set_option maxHeartbeats 4000000
namespace Go.Proofs.Ytapafdpnmakekaa.X
open Go Go.RowKit
theorem tmod_dvd (x p:Int):p∣x-x.tmod p:=⟨x.tdiv p,by have:=Int.mul_tdiv_add_tmod x p;omega⟩
theorem dvd_small {p x:Int} (h:p∣x) (h0:0≤x∧x<p):x=0:=by
 have:=Int.emod_eq_zero_of_dvd h
 rw[Int.emod_eq_of_lt h0.1 h0.2] at this
 exact this
theorem dvd_eq {p x y:Int} (h:p∣x-y) (hx:0≤x∧x<p) (hy:0≤y∧y<p):x=y:=by
 by_cases hxy:y≤x
 ·have:=dvd_small h ⟨by omega,by omega⟩
  omega
 ·have h2:p∣y-x:=by
   obtain⟨c,hc⟩:=h
   exact⟨-c,by rw[Int.mul_neg];omega⟩
  have:=dvd_small h2 ⟨by omega,by omega⟩
  omega
theorem md_dvd (p x:Int):p∣x-md p x:=by
 unfold md
 obtain⟨a,ha⟩:=tmod_dvd x p
 obtain⟨b,hb⟩:=tmod_dvd (x.tmod p+p) p
 exact⟨a+b-1,by grind⟩
theorem inv_dvd {p n w:Int} (h:IsInv p n w):∃ q,w*n=1+p*q:=by
 obtain⟨q,hq⟩:=tmod_dvd (w*n) p
 rw[h.2.2.1] at hq
 exact⟨q,by omega⟩
end Go.Proofs.Ytapafdpnmakekaa.X

set_option linter.unusedVariables false
set_option linter.unusedSimpArgs false
set_option maxRecDepth 20000
set_option maxHeartbeats 4000000
namespace Go.Proofs.Ytapafdpnmakekaa.X
end Go.Proofs.Ytapafdpnmakekaa.X

set_option linter.unusedVariables false
set_option linter.unusedSimpArgs false
set_option maxRecDepth 20000
set_option maxHeartbeats 4000000
namespace Go.Proofs.Ytapafdpnmakekaa.X
open Go Go.RowKit
theorem firstAt_spec {q:Nat→Bool}:∀ {m i:Nat},(firstAt q m i = -1∧∀ j,i≤j→j<i+m→q j=false)∨∃ r:Nat,firstAt q m i=r∧i≤r∧r<i+m∧q r=true
 | 0,i=>.inl ⟨rfl,fun j h1 h2=>by omega⟩
 | m+1,i=>by
  unfold firstAt
  by_cases h:q i=true
  ·rw[if_pos h]
   exact .inr ⟨i,rfl,Nat.le_refl _,by omega,h⟩
  ·rw[if_neg h]
   rcases firstAt_spec (q:=q) (m:=m) (i:=i+1) with⟨h1,h2⟩|⟨r,h1,h2,h3,h4⟩
   ·refine .inl ⟨h1,fun j h3 h4=>?_⟩
    by_cases e:j=i
    ·subst e
     simpa using h
    ·exact h2 j (by omega) (by omega)
   ·exact .inr ⟨r,h1,by omega,by omega,h4⟩
section
variable (t:Ten) (f e:Int)
end
structure KrS (t u s:Ten) (v w:Value) (h0 h:AH) (b5 nb:Nat) (l:List Int):Prop where
 hp:h0<+:h
 lo:h0.length+3≤nb∧nb<b5
 g1:OwnB h h0.length [I64 t.p,I64 t.i,I64 t.j,I64 t.k,v] true
 g2:OwnB h (h0.length+1) [I64 u.p,I64 u.i,I64 u.j,I64 u.k,w] true
 g3:∃ c,c.length=5∧OwnB h (h0.length+2) c true
 g5:OwnB h b5 [I64 s.p,I64 s.i,I64 s.j,I64 s.k,.slice (some ⟨nb,0,none⟩) (s.i*s.j*s.k).toNat 1] true
 gn:OwnB h nb (l.map (Value.int .i64)) true
theorem KrS.pre {t u s:Ten} {v w:Value} {h0 h h':AH} {b5 nb:Nat} {l:List Int} (a:KrS t u s v w h0 h b5 nb l) (p:h<+:h'):KrS t u s v w h0 h' b5 nb l:=by
 obtain⟨c,c1,c2⟩:=a.g3
 exact⟨a.hp.trans p,a.lo,a.g1.pre p,a.g2.pre p,⟨c,c1,c2.pre p⟩,a.g5.pre p,a.gn.pre p⟩
section
variable {t u:Ten}
end
theorem lst_app {n:Nat} {l:List Int} {full:Bool} {H:AH} {x:Int} {e':TypeId} {ro fu:Bool} (o:Lst H n l full) (hl:(l.length:Int)≤1048576) {Q:Value→AH→Prop}
  (hQ:∀ H':AH,H'.length=H.length+2→Kp n H H'→Lst H' (H.length+1) (l++[x]) false→Q (sl (H.length+1) (l++[x]).length) H') :
  OQ (appV 2 1 8 (sl n l.length) (.slice (some ⟨H.length,0,none⟩) 1 1) (H.new ⟨[I64 x],e',ro,fu⟩)) Q:=by
 have hn:(H.new ⟨[I64 x],e',ro,fu⟩).rdn H.length 0 1=some [I64 x]:=by rw[rdn_new_same];rfl
 have hk:(H.new ⟨[I64 x],e',ro,fu⟩).get n=some ⟨l.map (Value.int .i64),2,false,full⟩:=get_new_any o
 have hkb:=o.lt
 unfold sl
 rw[app_own hk (by simp) hn (by omega),OQ_some,len_new]
 have:=hQ (((H.new ⟨[I64 x],e',ro,fu⟩).kill n).new ⟨l.map (Value.int .i64)++[I64 x],2,false,false⟩) (by rw[len_new,len_kill,len_new]) ⟨by rw[len_new,len_kill,len_new];omega,fun j hj hne=>by
   rw[show (((H.new ⟨[I64 x],e',ro,fu⟩).kill n).new ⟨l.map (Value.int .i64)++[I64 x],2,false,false⟩).get j=((H.new ⟨[I64 x],e',ro,fu⟩).kill n).get j from prefix_get (pre_new (List.prefix_refl _)) (by rw[len_kill,len_new];omega),get_kill_ne (Ne.symm hne)]
   exact prefix_get (pre_new (List.prefix_refl _)) hj⟩ (by unfold Lst;rw[get_new_eq (by rw[len_kill,len_new])];simp)
 unfold sl at this
 rw[List.length_append,List.length_singleton] at this
 exact this
theorem pick_in {l:List Int} {a b:Int} (hl:∀ x∈l,a≤x∧x≤b) {j:Nat} (hj:j<l.length):a≤l.getD j 0∧l.getD j 0≤b:=by
 rw[List.getD_eq_getElem?_getD,List.getElem?_eq_getElem hj]
 exact hl _ (List.getElem_mem _)
structure Cod (h:AH) (cv:Value) (code:List (List Int)):Prop where
 els:Els .u8 1 h cv code
 byt:Byt 1 code
 len:code.length≤1000000
theorem Cod.pre {h h':AH} {cv:Value} {code:List (List Int)} (c:Cod h cv code) (p:h<+:h'):Cod h' cv code:=⟨c.els.pre p,c.byt,c.len⟩
end Go.Proofs.Ytapafdpnmakekaa.X
