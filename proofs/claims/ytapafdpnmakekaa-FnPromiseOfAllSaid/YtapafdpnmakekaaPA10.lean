/- Texts of one claim, put together by merge.py: XT7, XT8, XT9, XU1, XD3, XS6, XS7, XS16, XS17, XS19, XD4, XD5, XD6, XD7, XD8, XQ1, XR1, XQ2, XF34, XF35, XR2, XF11, XF12, XF13, XF14, XF15, XQ3, XD9, XDA, XDB, XDC, XDF, XDG, XDI, XDJ, XDK, XZ1, XZ2, XZ3, XZ4, XZ5, XZ6, XDL, XDM, XP7, XU2, XU3, XU4, XU5. -/
import Derived.Test.YtapafdpnmakekaaPA9
import Derived.Test.YtapafdpnmakekaaPA8
set_option linter.unusedVariables false
set_option linter.unusedSimpArgs false
set_option maxRecDepth 20000
set_option maxHeartbeats 4000000
namespace Go.Proofs.Ytapafdpnmakekaa.X
open Go Go.RowKit
theorem flat_cell {w c x:Nat} {L:List (List Int)} {v:Int} (hw:Wid w L) (hc:c<L.length) (hx:x<w):L.flatten.set (c*w+x) v=(L.set c ((L.getD c []).set x v)).flatten:=by
 have hq:(L.getD c []).length=w:=by
  rw[List.getD_eq_getElem?_getD,List.getElem?_eq_getElem hc]
  exact hw _ (List.getElem_mem hc)
 have e0:=flat_set (r:=L.getD c []) hw hc
 have e1:=flat_set (r:=(L.getD c []).set x v) hw hc
 have es:L.set c (L.getD c [])=L:=by
  rw[List.getD_eq_getElem?_getD,List.getElem?_eq_getElem hc]
  exact List.set_getElem_self hc
 rw[es] at e0
 have hrow:=mul_row (w:=w) hc
 have hl:(L.flatten.take (c*w)).length=c*w:=by
  rw[List.length_take,flat_len hw]
  omega
 rw[←e1]
 conv=>lhs;rw[←e0]
 rw[List.set_append_left _ _ (by rw[List.length_append,hl,hq];omega),List.set_append_right _ _ (by rw[hl];omega),hl,show c*w+x-c*w=x by omega]
structure ColT (h:AH) (nb:Nat) (full:Bool) (L:List (List Int)):Prop where
 g:h.get nb=some ⟨cel .u32 L.flatten,246,false,full⟩
 wid:Wid 5 L
def tv (nb len:Nat):Value:=.slice (some ⟨nb,0,none⟩) len 5
section
variable {h h':AH} {nb:Nat} {full:Bool} {L:List (List Int)}
theorem ColT.pre (o:ColT h nb full L) (p:h<+:h'):ColT h' nb full L:=⟨pre_get p o.g,o.wid⟩
theorem ColT.put_ne {m:Nat} {b:Blk} (o:ColT h nb full L) (e:m≠nb):ColT (h.put m b) nb full L:=⟨by rw[get_put_ne e];exact o.g,o.wid⟩
theorem ColT.get (o:ColT h nb full L) (hk:h'.get nb=h.get nb):ColT h' nb full L:=⟨by rw[hk];exact o.g,o.wid⟩
theorem ColT.ix {c len:Nat} {kk:IntKind} (hc:c<len):ixsV 5 (tv nb len) (.int kk (c:Int))=some (.pointer (some ⟨nb,c*5,none⟩)):=by
 unfold tv
 rw[ixsV_some,if_pos (by omega)]
 simp
theorem ColT.row (o:ColT h nb full L) {c:Nat} (hc:c<L.length):(L.getD c []).length=5:=by
 rw[List.getD_eq_getElem?_getD,List.getElem?_eq_getElem hc]
 exact o.wid _ (List.getElem_mem hc)
theorem ColT.rd (o:ColT h nb full L) {c x:Nat} (hc:c<L.length) (hx:x<5):h.rd1 nb (c*5+x)=some (.int .u32 ((L.getD c []).getD x 0)):=by
 rw[rd1_of o.g]
 have hf:=flat_len o.wid
 have hrow:=mul_row (w:=5) hc
 show (cel .u32 L.flatten)[c*5+x]?=_
 rw[cel_get (by omega)]
 have hg:=flat_get o.wid hc
 rw[←hg]
 rw[List.getD_eq_getElem?_getD,List.getD_eq_getElem?_getD,List.getElem?_take,if_pos hx,List.getElem?_drop]
theorem ColT.rdn (o:ColT h nb full L) {c:Nat} (hc:c<L.length):h.rdn nb (c*5) 5=some (cel .u32 (L.getD c [])):=by
 rw[rdn_of o.g]
 have hf:=flat_len o.wid
 have hrow:=mul_row (w:=5) hc
 show (if c*5+5≤(cel .u32 L.flatten).length then some (((cel .u32 L.flatten).drop (c*5)).take 5) else none)=_
 rw[if_pos (by rw[cel_len];omega),cel_drop,cel_take,flat_get o.wid hc]
theorem ColT.wr (o:ColT h nb full L) {c x:Nat} {v:Int} (hc:c<L.length) (hx:x<5) :
  ∃ h',h.wr nb (c*5+x) [.int .u32 v]=some h'∧h'=h.put nb ⟨cel .u32 (L.set c ((L.getD c []).set x v)).flatten,246,false,full⟩∧ColT h' nb full (L.set c ((L.getD c []).set x v)):=by
 have hf:=flat_len o.wid
 have hrow:=mul_row (w:=5) hc
 refine⟨_,?_,rfl,get_put_same (get_lt o.g),?_⟩
 ·rw[wr_of o.g,if_pos ⟨rfl,by simp only[cel_len,List.length_singleton];omega⟩,cel_set (by omega),flat_cell o.wid hc hx]
 ·intro q hq
  rcases List.mem_or_eq_of_mem_set hq with hq|rfl
  ·exact o.wid q hq
  ·rw[List.length_set]
   exact o.row hc
theorem ColT.els (o:ColT h nb full L):Els .u32 5 h (tv nb L.length) L:=by
 refine .inr ⟨nb,0,_,rfl,o.g,fun i hi=>?_⟩
 have:=mul_row (w:=5) hi
 simp only[cel_len,flat_len o.wid,Nat.zero_add,cel_drop,cel_take,flat_get o.wid hi]
 exact⟨by omega,trivial⟩
theorem ColT.way (o:ColT h nb full L) {lo:Nat} {ex:List Nat} (h1:lo≤nb) (h2:nb∉ex):WayX (246) .u32 5 h lo ex (tv nb L.length) L:=⟨o.wid,.inr ⟨nb,full,rfl,h1,h2,o.g⟩⟩
theorem WayX.colT {lo:Nat} {ex:List Nat} {sv:Value} (o:WayX (246) .u32 5 h lo ex sv L) (h0:L≠[]):∃ nb full,sv=tv nb L.length∧lo≤nb∧ColT h nb full L:=by
 obtain⟨hw,⟨_,e⟩|⟨kb,full,e1,e2,e3,e4⟩⟩:=o
 ·exact absurd e h0
 ·exact⟨kb,full,e1,e2,e4,hw⟩
end
def fl0 (rows:List (List Int)) (i c j:Nat) (x:Nat) (k:Nat):Bool:=(decide (k<i)||(decide (k=i)&&decide (j<c)))&&decide (tb rows k j=(x:Int))
def col0 (rows:List (List Int)) (i c j:Nat):List Int:=gen 5 fun x=>(bs rows.length (fl0 rows i c j x):Nat)
def cols0 (rows:List (List Int)) (N i c:Nat):List (List Int):=(List.range N).map fun j=>col0 rows i c j
section
variable {rows:List (List Int)} {N i c:Nat}
theorem cols0_len:(cols0 rows N i c).length=N:=by simp[cols0]
theorem cols0_get {j:Nat} (hj:j<N):(cols0 rows N i c).getD j []=col0 rows i c j:=by
 simp[cols0,List.getD_eq_getElem?_getD,List.getElem?_map,List.getElem?_range hj]
theorem cols0_wid:Wid 5 (cols0 rows N i c):=wid_of fun j hj=>by
 rw[cols0_len] at hj
 rw[cols0_get hj]
 exact gen_len
theorem cols0_zero:cols0 rows N 0 0=List.replicate N (List.replicate 5 0):=by
 refine getD_ext (by rw[cols0_len];simp) fun j hj=>?_
 rw[cols0_len] at hj
 rw[cols0_get hj]
 have:(List.replicate N (List.replicate 5 (0:Int))).getD j []=List.replicate 5 0:=by
  rw[List.getD_eq_getElem?_getD,List.getElem?_replicate,if_pos hj]
  rfl
 rw[this]
 refine (gen_ext (by simp) fun x hx=>?_).symm
 have e:bs rows.length (fl0 rows 0 0 j x)=0:=(bs_congr fun k hk=>by
   unfold fl0
   rw[decide_eq_false (p:=k<0) (by omega),decide_eq_false (p:=j<0) (by omega),Bool.and_false,Bool.or_false,Bool.false_and]).trans bs_none
 rw[e,List.getD_eq_getElem?_getD,List.getElem?_replicate,if_pos hx]
 rfl
theorem cols0_next:cols0 rows N i N=cols0 rows N (i+1) 0:=by
 refine getD_ext (by rw[cols0_len,cols0_len]) fun j hj=>?_
 rw[cols0_len] at hj
 rw[cols0_get hj,cols0_get hj]
 refine gen_congr fun x hx=>?_
 congr 1
 refine bs_congr fun k hk=>?_
 unfold fl0
 congr 1
 rw[decide_eq_true hj,decide_eq_false (p:=j<0) (by omega),Bool.and_true,Bool.and_false,Bool.or_false,←Bool.decide_or]
 congr 1
 exact propext ⟨by omega,by omega⟩
theorem cols0_set {x:Nat} (hc:c<N) (hi:i<rows.length) (hx:x<5) (ht:tb rows i c=(x:Int)) :
  (cols0 rows N i c).set c ((col0 rows i c c).set x ((bs rows.length (fun k=>fl0 rows i c c x k||(k==i)):Nat):Int))=cols0 rows N i (c+1):=by
 refine getD_ext (by rw[List.length_set,cols0_len,cols0_len]) fun j hj=>?_
 rw[List.length_set,cols0_len] at hj
 rw[set_getD' (by rw[cols0_len];exact hc),cols0_get hj,cols0_get hj]
 by_cases hjc:j=c
 ·subst hjc
  rw[if_pos rfl]
  refine gen_ext (by rw[List.length_set];exact gen_len) fun y hy=>?_
  have gl:(col0 rows i j j).length=5:=gen_len
  rw[set_getD (by rw[gl];exact hx)]
  by_cases hyx:y=x
  ·subst hyx
   rw[if_pos rfl]
   congr 1
   refine bs_congr fun k hk=>?_
   unfold fl0
   by_cases hki:k=i
   ·subst hki
    rw[ht]
    simp
   ·have:(k==i)=false:=by simpa using hki
    rw[this,Bool.or_false,decide_eq_false hki,Bool.false_and,Bool.false_and]
  ·rw[if_neg hyx]
   show (gen 5 _).getD y 0=_
   rw[gen_get hy]
   congr 1
   refine bs_congr fun k hk=>?_
   unfold fl0
   by_cases hki:k=i
   ·subst hki
    rw[ht,decide_eq_false (p:=(x:Int)=(y:Int)) (by omega),Bool.and_false,Bool.and_false]
   ·rw[decide_eq_false hki,Bool.false_and,Bool.false_and]
 ·rw[if_neg hjc]
  refine gen_congr fun y hy=>?_
  congr 1
  refine bs_congr fun k hk=>?_
  unfold fl0
  congr 2
  congr 1
  congr 1
  exact propext ⟨by omega,by omega⟩
theorem cols0_col {j:Nat} (hj:j<N):Col rows j ((cols0 rows N rows.length 0).getD j []):=by
 rw[cols0_get hj]
 refine⟨gen_len,fun x h1 h2=>?_⟩
 show (gen 5 _).getD x 0=_
 rw[gen_get h2]
 congr 1
 refine bs_congr fun k hk=>?_
 unfold fl0
 rw[decide_eq_true hk,Bool.true_or,Bool.true_and]
end
section
variable {p:Int} {T:List (List Int)} {s:BS}
def mvS (p:Int) (s:BS) (T:List (List Int)) (k:Nat):Bool:=mkB p T s.l s.j s.r k
def lcol (T:List (List Int)) (S:Nat→Bool) (i c:Nat) (q:List Int):List Int:=gen 5 fun x=>if 1≤x∧x≤c then (bs T.length (fun k=>decide (tb T k i=(x:Int))&&!S k):Nat) else q.getD x 0
def ncol (T:List (List Int)) (S:Nat→Bool) (i c:Nat):List Int:=gen 5 fun x=>if 1≤x∧x≤c then (bs T.length (fun k=>decide (tb T k i=(x:Int))&&S k):Nat) else 0
theorem lcol_zero {S:Nat→Bool} {i:Nat} {q:List Int} (hq:q.length=5):lcol T S i 0 q=q:=(gen_ext hq fun x hx=>by rw[if_neg (by omega)]).symm
theorem ncol_zero {S:Nat→Bool} {i:Nat}:ncol T S i 0=List.replicate 5 0:=(gen_ext (by simp) fun x hx=>by rw[if_neg (by omega),List.getD_eq_getElem?_getD,List.getElem?_replicate,if_pos hx];rfl).symm
theorem lcol_set {S:Nat→Bool} {i c:Nat} {q:List Int} (hc:c+1<5):(lcol T S i c q).set (c+1) ((bs T.length (fun k=>decide (tb T k i=((c+1:Nat):Int))&&!S k):Nat):Int)=lcol T S i (c+1) q:=by
 have gl:(lcol T S i c q).length=5:=gen_len
 refine gen_ext (by rw[List.length_set,gl]) fun x hx=>?_
 rw[set_getD (by rw[gl];exact hc)]
 by_cases h:x=c+1
 ·subst h
  rw[if_pos rfl,if_pos ⟨by omega,Nat.le_refl _⟩]
 ·rw[if_neg h]
  show (gen 5 _).getD x 0=_
  rw[gen_get hx]
  by_cases h2:1≤x∧x≤c
  ·rw[if_pos h2,if_pos (by omega)]
  ·rw[if_neg h2,if_neg (by omega)]
theorem ncol_set {S:Nat→Bool} {i c:Nat} (hc:c+1<5):(ncol T S i c).set (c+1) ((bs T.length (fun k=>decide (tb T k i=((c+1:Nat):Int))&&S k):Nat):Int)=ncol T S i (c+1):=by
 have gl:(ncol T S i c).length=5:=gen_len
 refine gen_ext (by rw[List.length_set,gl]) fun x hx=>?_
 rw[set_getD (by rw[gl];exact hc)]
 by_cases h:x=c+1
 ·subst h
  rw[if_pos rfl,if_pos ⟨by omega,Nat.le_refl _⟩]
 ·rw[if_neg h]
  show (gen 5 _).getD x 0=_
  rw[gen_get hx]
  by_cases h2:1≤x∧x≤c
  ·rw[if_pos h2,if_pos (by omega)]
  ·rw[if_neg h2,if_neg (by omega)]
theorem lcol_at {S:Nat→Bool} {i c:Nat} {q:List Int} (cq:Col T i q) (hc:c+1<5):(lcol T S i c q).getD (c+1) 0=((bs T.length fun k=>decide (tb T k i=((c+1:Nat):Int)):Nat):Int):=by
 show (gen 5 _).getD (c+1) 0=_
 rw[gen_get hc,if_neg (by omega)]
 exact cq.2 (c+1) (by omega) hc
theorem tb_mv {W k i:Nat} (g:GT p W T) (hk:k<T.length) (hl:s.l<W) (hj:s.j<W) (hi:i≤W) :
  tb (mvT p s T) k i=if i=W then (if mvS p s T k=true then tb T k s.l else 0) else if mvS p s T k=true∧(i=s.l∨i=s.j) then 0 else tb T k i:=by
 obtain⟨gw,gi⟩:=g k hk
 have e:tb (mvT p s T) k i=(mvRow p s.l s.j s.r (T.getD k [])).getD i 0:=by unfold tb;rw[mvT_get hk]
 rw[e,mvRow_at (by omega) (by omega) (by omega),gw]
 rfl
theorem col_left {W:Nat} {q:List Int} (g:GT p W T) (hp:2≤p∧p≤5) (hl:s.l<W) (hj:s.j<W) {i:Nat} (hi:i=s.l∨i=s.j) (cq:Col T i q):Col (mvT p s T) i (lcol T (mvS p s T) i (p.toNat-1) q):=by
 refine⟨gen_len,fun x h1 h2=>?_⟩
 have hiW:i<W:=by rcases hi with rfl|rfl<;>assumption
 have e:(lcol T (mvS p s T) i (p.toNat-1) q).getD x 0=((bs T.length (fun k=>decide (tb T k i=(x:Int))&&!mvS p s T k):Nat):Int):=by
  show (gen 5 _).getD x 0=_
  rw[gen_get h2]
  by_cases hx:x≤p.toNat-1
  ·rw[if_pos ⟨h1,hx⟩]
  ·rw[if_neg (by omega),cq.2 x h1 h2]
   congr 1
   refine bs_congr fun k hk=>?_
   have:=(g k hk).2 i hiW
   rw[decide_eq_false (by omega),Bool.false_and]
 rw[e,mvT_len]
 congr 1
 refine bs_congr fun k hk=>?_
 rw[tb_mv g hk hl hj (by omega),if_neg (by omega)]
 cases hS:mvS p s T k with
 | true=>
  rw[if_pos ⟨rfl,hi⟩,decide_eq_false (p:=(0:Int)=(x:Int)) (by omega)]
  simp
 | false=>
  rw[if_neg (by simp)]
  simp
theorem col_new {W:Nat} (g:GT p W T) (hp:2≤p∧p≤5) (hl:s.l<W) (hj:s.j<W):Col (mvT p s T) W (ncol T (mvS p s T) s.l (p.toNat-1)):=by
 refine⟨gen_len,fun x h1 h2=>?_⟩
 have e:(ncol T (mvS p s T) s.l (p.toNat-1)).getD x 0=((bs T.length (fun k=>decide (tb T k s.l=(x:Int))&&mvS p s T k):Nat):Int):=by
  show (gen 5 _).getD x 0=_
  rw[gen_get h2]
  by_cases hx:x≤p.toNat-1
  ·rw[if_pos ⟨h1,hx⟩]
  ·rw[if_neg (by omega),show (0:Int)=((bs T.length (fun _=>false):Nat):Int) by rw[bs_none];rfl]
   congr 1
   refine bs_congr fun k hk=>?_
   have:=(g k hk).2 s.l hl
   rw[decide_eq_false (by omega),Bool.false_and]
 rw[e,mvT_len]
 congr 1
 refine bs_congr fun k hk=>?_
 rw[tb_mv g hk hl hj (Nat.le_refl _),if_pos rfl]
 cases hS:mvS p s T k with
 | true=>simp
 | false=>
  rw[if_neg (by simp),decide_eq_false (p:=(0:Int)=(x:Int)) (by omega)]
  simp
theorem col_other {W i:Nat} {q:List Int} (g:GT p W T) (hl:s.l<W) (hj:s.j<W) (hi:i<W) (h1:i≠s.l) (h2:i≠s.j) (cq:Col T i q):Col (mvT p s T) i q:=by
 refine⟨cq.1,fun x hx1 hx2=>?_⟩
 rw[cq.2 x hx1 hx2,mvT_len]
 congr 1
 refine bs_congr fun k hk=>?_
 rw[tb_mv g hk hl hj (by omega),if_neg (by omega),if_neg (fun h=>h.2.elim h1 h2)]
end
end Go.Proofs.Ytapafdpnmakekaa.X

set_option linter.unusedVariables false
set_option linter.unusedSimpArgs false
set_option maxRecDepth 20000
set_option maxHeartbeats 4000000
namespace Go.Proofs.Ytapafdpnmakekaa.X
open Go Go.RowKit
open Nat (reduceEqDiff reduceAdd reduceSub reduceLeDiff)
theorem zeros5u:([.int .u32 0,.int .u32 0,.int .u32 0,.int .u32 0,.int .u32 0]:List Value)=cel .u32 (List.replicate 5 0):=rfl
theorem U_one {n:Nat}:isOne (U32 n)=true:=rfl
theorem U_cells {n:Nat}:cellsL (U32 n)=[U32 n]:=rfl
theorem set2_next {α:Type} {L:List α} {l j:Nat} {a b a' b':α} (h:l≠j):(((L.set l a).set j b).set l a').set j b'=(L.set l a').set j b':=by
 rw[List.set_comm b a' h.symm,List.set_set,List.set_set]
theorem get2_l {L:List (List Int)} {l j:Nat} {a b:List Int} (h:l≠j) (hl:l<L.length) (hj:j<L.length):((L.set l a).set j b).getD l []=a:=by
 rw[set_getD' (by rw[List.length_set];exact hj),if_neg h,set_getD' hl,if_pos rfl]
theorem get2_j {L:List (List Int)} {l j:Nat} {a b:List Int} (hj:j<L.length):((L.set l a).set j b).getD j []=b:=by
 rw[set_getD' (by rw[List.length_set];exact hj),if_pos rfl]
theorem get2_o {L:List (List Int)} {l j i:Nat} {a b:List Int} (h1:i≠l) (h2:i≠j) (hl:l<L.length) (hj:j<L.length):((L.set l a).set j b).getD i []=L.getD i []:=by
 rw[set_getD' (by rw[List.length_set];exact hj),if_neg h2,set_getD' hl,if_neg h1]
theorem i_sharedProgram {u:Value} {p n:Int} {rows:List (List Int)} {h:AH} {Q:Value→AH→Prop} (hu:Rows h u rows) (hok:lsOK p n rows=true)
  (hQ:∀ v' w' h',h<+:h'→Way2 h' h.length v' w' (shP p n rows)→OrdB v' w'→Q (prgV (shP p n rows) v' w') h'):WF S 203 [I64 p,I64 n,u] h Q:=by
 refine WF_fn (fn:=c203) rfl rfl ?_
 dsimp only[c203,oO,oM,oS,oG,oK,oE,oL,oF,oX,oN]
 obtain⟨hp,hn,hl,hm⟩:=lsOK_iff.1 hok
 have hp5:=isP_in hp
 obtain⟨N,hN⟩:∃ N:Nat,n=N:=⟨n.toNat,by omega⟩
 have hNt:n.toNat=N:=by omega
 ((try simp (maxSteps:=3000000) (dsimp:=false) (disch:=first|omega|simp only[lnx];omega) only[↓ypre,ypost,↓reduceIte,reduceEqDiff,reduceAdd,reduceSub,reduceLeDiff,zz0,ynew]);try simp only[yback])
 generalize hH1:AH.new h _=H1
 obtain⟨hb1,p1,n1⟩:=new_facts hH1
 refine⟨by omega,?_⟩
 rw[hNt,zeros5u,zrep_cel]
 generalize hH2:AH.new H1 _=H2
 obtain⟨hb2,p2,n2⟩:=new_facts hH2
 ((try simp (maxSteps:=3000000) (dsimp:=false) (disch:=first|omega|simp only[lnx];omega) only[↓ypre,ypost,↓reduceIte,reduceEqDiff,reduceAdd,reduceSub,reduceLeDiff,zz0,ynew]);try simp only[yback])
 generalize hH3:AH.new H2 _=H3
 obtain⟨hb3,p3,n3⟩:=new_facts hH3
 have p23:=p2.trans p3
 obtain⟨cs,hvS,hcsl,hrS⟩:=(hu.pre p1).stays
 have ct0:ColT H3 H1.length true (cols0 rows N 0 0):=by
  rw[cols0_zero]
  exact⟨pre_get p3 hb2,by rw[←cols0_zero (rows:=rows)];exact cols0_wid⟩
 have sy0:Stay H1.length H1 H3:=Stay.of p23
 ((try simp (maxSteps:=3000000) (dsimp:=false) (disch:=first|omega|simp only[lnx];omega) only[↓ypre,ypost,↓reduceIte,reduceEqDiff,reduceAdd,reduceSub,reduceLeDiff,zz0,ynew,(hvS _ sy0).len,hcsl]);try simp only[yback])
 refine WC_loop_inv (fun m f K1=>∃ (i:Nat),m=rows.length-i∧i≤rows.length∧f 0=I64 p∧f 2=u∧f 6=.pointer (some ⟨h.length,0,none⟩)∧f 7=.pointer (some ⟨H2.length,0,none⟩)∧f 8=tv H1.length N∧f 29=u∧f 30=I64 rows.length∧f 31=I64 i∧(Stay H1.length H1 K1)∧(ColT K1 H1.length true (cols0 rows N i 0))∧(K1.get H2.length=some ⟨[I64 p,I64 n,.slice none 0 0,.slice none 0 0],70,false,true⟩)) ?_ (rows.length-0) _ _ ⟨0,rfl,by omega,(by first|rfl|simp[upd_apply]),(by first|rfl|simp[upd_apply]),(by first|rfl|simp[upd_apply]),(by first|rfl|simp[upd_apply]),(by first|rfl|simp[upd_apply]),(by first|rfl|simp[upd_apply]),(by first|rfl|simp[upd_apply]),(by first|rfl|simp[upd_apply]),sy0,ct0,hb3⟩
 rintro m f K1 ⟨i,rfl,hi,f0,f2,f6,f7,f8,f29,f30,f31,sy,ct,g7⟩
 by_cases hlt:(i:Int)<rows.length
 ·have hi':i<rows.length:=by omega
  obtain⟨hw,ha⟩:=isMat_iff.1 hm i hi'
  have ix:=(hvS _ sy).ix (k:=.i64) (j:=i) (by omega) (by omega)
  have rd:=(hvS _ sy).rd (j:=i) (by omega) (by omega)
  have hri:=hrS i hi'
  rw[Int.toNat_natCast] at rd
  generalize cs.getD i undef=rv at *
  have lnr:=(hri _ sy).len
  have rlen:(rows.getD i []).length=N:=by omega
  rw[rlen] at lnr
  ((try simp (maxSteps:=3000000) (dsimp:=false) (disch:=first|omega|simp only[lnx];omega) only[↓ypre,ypost,↓reduceIte,reduceEqDiff,reduceAdd,reduceSub,reduceLeDiff,zz0,ynew,f0,f2,f6,f7,f8,f29,f30,f31,decide_eq_true hlt,ix,rd,lnr,wrap64_in]);try simp only[yback])
  refine WC_loop_inv (fun m f K2=>∃ (c:Nat),m=N-c∧c≤N∧f 0=I64 p∧f 2=u∧f 6=.pointer (some ⟨h.length,0,none⟩)∧f 7=.pointer (some ⟨H2.length,0,none⟩)∧f 8=tv H1.length N∧f 9=I64 i∧f 29=u∧f 30=I64 rows.length∧f 31=I64 i∧f 36=rv∧f 37=I64 N∧f 38=I64 c∧(Stay H1.length H1 K2)∧(ColT K2 H1.length true (cols0 rows N i c))∧(K2.get H2.length=some ⟨[I64 p,I64 n,.slice none 0 0,.slice none 0 0],70,false,true⟩)) ?_ (N-0) _ _ ⟨0,rfl,by omega,(by first|rfl|exact f0|(simp[upd_apply];done)),(by first|rfl|exact f2|(simp[upd_apply];done)),(by first|rfl|exact f6|(simp[upd_apply];done)),(by first|rfl|exact f7|(simp[upd_apply];done)),(by first|rfl|exact f8|(simp[upd_apply];done)),(by first|rfl|simp[upd_apply]),(by first|rfl|exact f29|(simp[upd_apply];done)),(by first|rfl|exact f30|(simp[upd_apply];done)),(by first|rfl|exact f31|(simp[upd_apply];done)),(by first|rfl|simp[upd_apply]),(by first|rfl|simp[upd_apply]),(by first|rfl|simp[upd_apply]),sy,ct,g7⟩
  rintro m f K2 ⟨c,rfl,hc,f0,f2,f6,f7,f8,f9,f29,f30,f31,f36,f37,f38,sy,ct,g7⟩
  by_cases hltc:(c:Int)<N
  ·have hc':c<N:=by omega
   have hx:=hri _ sy
   have ixx:=hx.ix (k:=.i64) (j:=c) (by omega) (by omega)
   have rdx:=hx.rd (j:=c) (by omega) (by omega)
   simp only[nth,Int.toNat_natCast] at rdx
   have tin:=allIn_iff.1 ha c (by omega)
   obtain⟨xv,hxv⟩:∃ xv:Nat,(rows.getD i []).getD c 0=xv:=⟨_,(Int.toNat_of_nonneg tin.1).symm⟩
   rw[hxv] at rdx tin
   have hxt:tb rows i c=(xv:Int):=hxv
   have cl:(cols0 rows N i c).length=N:=cols0_len
   have ixc:∀ kk:IntKind,ixsV 5 (tv H1.length N) (.int kk (c:Int))=_:=fun kk=>ColT.ix hc'
   have ixa1:=ixa_u (n:=H1.length) (off:=c*5) (len:=5) (kk:=.i64) (j:=xv) (by omega)
   have rd1:=ct.rd (c:=c) (x:=xv) (by omega) (by omega)
   have e1:((cols0 rows N i c).getD c []).getD xv 0=((bs rows.length (fl0 rows i c c xv):Nat):Int):=by
    rw[cols0_get hc']
    exact gen_get (by omega)
   rw[e1] at rd1
   have rd1:K2.rd1 H1.length (c*5+xv)=some (U32 (bs rows.length (fl0 rows i c c xv))):=rd1
   have sh:=bin_shl (R:=rows.length) (r:=i) hi' (by omega)
   have orr:=bin_or (R:=rows.length) (f:=fl0 rows i c c xv) (g:=fun k=>k==i) (by omega)
   obtain⟨H5,w5,e5,ct5⟩:=ct.wr (c:=c) (x:=xv) (v:=((bs rows.length (fun k=>fl0 rows i c c xv k||(k==i)):Nat):Int)) (by omega) (by omega)
   have w5:K2.wr H1.length (c*5+xv) [U32 (bs rows.length (fun k=>fl0 rows i c c xv k||(k==i)))]=some H5:=w5
   rw[cols0_get hc',cols0_set hc' hi' (by omega) hxt] at ct5
   ((try simp (maxSteps:=3000000) (dsimp:=false) (disch:=first|omega|simp only[lnx];omega) only[↓ypre,ypost,↓reduceIte,reduceEqDiff,reduceAdd,reduceSub,reduceLeDiff,zz0,ynew,f0,f2,f6,f7,f8,f9,f29,f30,f31,f36,f37,f38,decide_eq_true hltc,ixx,rdx,ixc,ixa1,rd1,sh,orr,U_one,U_cells,w5,wrap64_in]);try simp only[yback])
   refine InvQ_go (N-(c+1)) (by omega) ⟨(c+1),rfl,by omega,(by first|rfl|exact f0|(simp only[upd_apply];rfl)|(show I64 _=_;congr 1;omega)),(by first|rfl|exact f2|(simp only[upd_apply];rfl)|(show I64 _=_;congr 1;omega)),(by first|rfl|exact f6|(simp only[upd_apply];rfl)|(show I64 _=_;congr 1;omega)),(by first|rfl|exact f7|(simp only[upd_apply];rfl)|(show I64 _=_;congr 1;omega)),(by first|rfl|exact f8|(simp only[upd_apply];rfl)|(show I64 _=_;congr 1;omega)),(by first|rfl|exact f9|(simp only[upd_apply];rfl)|(show I64 _=_;congr 1;omega)),(by first|rfl|exact f29|(simp only[upd_apply];rfl)|(show I64 _=_;congr 1;omega)),(by first|rfl|exact f30|(simp only[upd_apply];rfl)|(show I64 _=_;congr 1;omega)),(by first|rfl|exact f31|(simp only[upd_apply];rfl)|(show I64 _=_;congr 1;omega)),(by first|rfl|exact f36|(simp only[upd_apply];rfl)|(show I64 _=_;congr 1;omega)),(by first|rfl|exact f37|(simp only[upd_apply];rfl)|(show I64 _=_;congr 1;omega)),(by first|rfl|exact f38|(simp only[upd_apply];rfl)|(show I64 _=_;congr 1;omega)),(by rw[e5];exact sy.put (Nat.le_refl _) (Nat.le_refl _)),ct5,(by rw[e5,get_put_ne (by omega)];exact g7)⟩
  have ec:c=N:=by omega
  subst ec
  rw[cols0_next] at ct
  ((try simp (maxSteps:=3000000) (dsimp:=false) (disch:=first|omega|simp only[lnx];omega) only[↓ypre,ypost,↓reduceIte,reduceEqDiff,reduceAdd,reduceSub,reduceLeDiff,zz0,ynew,f0,f2,f6,f7,f8,f9,f29,f30,f31,f36,f37,f38,decide_eq_false hltc,wrap64_in]);try simp only[yback])
  refine InvQ_go (rows.length-(i+1)) (by omega) ⟨(i+1),rfl,by omega,(by first|rfl|exact f0|(simp only[upd_apply];rfl)|(show I64 _=_;congr 1;omega)),(by first|rfl|exact f2|(simp only[upd_apply];rfl)|(show I64 _=_;congr 1;omega)),(by first|rfl|exact f6|(simp only[upd_apply];rfl)|(show I64 _=_;congr 1;omega)),(by first|rfl|exact f7|(simp only[upd_apply];rfl)|(show I64 _=_;congr 1;omega)),(by first|rfl|exact f8|(simp only[upd_apply];rfl)|(show I64 _=_;congr 1;omega)),(by first|rfl|exact f29|(simp only[upd_apply];rfl)|(show I64 _=_;congr 1;omega)),(by first|rfl|exact f30|(simp only[upd_apply];rfl)|(show I64 _=_;congr 1;omega)),(by first|rfl|exact f31|(simp only[upd_apply];rfl)|(show I64 _=_;congr 1;omega)),sy,ct,g7⟩
 have ei:i=rows.length:=by omega
 subst ei
 ((try simp (maxSteps:=3000000) (dsimp:=false) (disch:=first|omega|simp only[lnx];omega) only[↓ypre,ypost,↓reduceIte,reduceEqDiff,reduceAdd,reduceSub,reduceLeDiff,zz0,ynew,f0,f2,f6,f7,f8,f29,f30,f31,decide_eq_false hlt]);try simp only[yback])
 have si0:=ShI.start hok
 rw[hNt] at si0
 have hcl0:(cols0 rows N rows.length 0).length=N+([]:List (List Int)).length:=cols0_len
 have hc0:∀ i,i<N+([]:List (List Int)).length→Col rows i ((cols0 rows N rows.length 0).getD i []):=fun i hi=>cols0_col hi
 have pp1:H1<+:K1:=sy.pre _ (Nat.le_refl _) (List.prefix_refl _)
 have nz0:nzT rows=nzT rows-0:=rfl
 have wv0:WayX (181) .i64 3 K1 H1.length [] (.slice none 0 0) ([]:List (List Int)):=⟨fun r hr=>by simp at hr,.inl ⟨rfl,rfl⟩⟩
 refine WC_loop_inv (fun m f K3=>∃ (d:Nat) (s:SS) (sv:Value) (nb:Nat) (fl:Bool) (cols:List (List Int)),m=((nzT rows))-d∧d≤((nzT rows))∧f 0=I64 p∧f 2=u∧f 6=.pointer (some ⟨h.length,0,none⟩)∧f 7=.pointer (some ⟨H2.length,0,none⟩)∧f 8=tv nb (N+s.st.length)∧(nzT s.T=nzT rows-d)∧(ShI p N rows s)∧(H1<+:K3)∧(H1.length≤nb)∧(ColT K3 nb fl cols)∧(cols.length=N+s.st.length)∧(∀ i,i<N+s.st.length→Col s.T i (cols.getD i []))∧(WayX (181) .i64 3 K3 H1.length [] sv s.st)∧(K3.get H2.length=some ⟨[I64 p,I64 n,sv,.slice none 0 0],70,false,true⟩)) ?_ (((nzT rows))-0) _ _ ⟨0,⟨rows,[]⟩,.slice none 0 0,H1.length,true,cols0 rows N rows.length 0,rfl,by omega,(by first|rfl|exact f0|(simp[upd_apply];done)),(by first|rfl|exact f2|(simp[upd_apply];done)),(by first|rfl|exact f6|(simp[upd_apply];done)),(by first|rfl|exact f7|(simp[upd_apply];done)),(by first|rfl|exact f8|(simp[upd_apply];done)),nz0,si0,pp1,Nat.le_refl _,ct,hcl0,hc0,wv0,g7⟩
 rintro m f K3 ⟨d,s,sv,nb,fl,cols,rfl,hd,f0,f2,f6,f7,f8,hz,si,pp,lnb,ct,hcl,hcol,wv,g7⟩
 have nzb:=si.nz
 have hT1:1≤s.T.length:=by rw[si.len];omega
 have hT30:s.T.length≤30:=by rw[si.len];omega
 have elsK:=ct.els
 rw[hcl] at elsK
 ((try simp (maxSteps:=3000000) (dsimp:=false) (disch:=first|omega|simp only[lnx];omega) only[↓ypre,ypost,↓reduceIte,reduceEqDiff,reduceAdd,reduceSub,reduceLeDiff,zz0,ynew,f0,f2,f6,f7,f8]);try simp only[yback])
 refine i_mostRows elsK hcl hcol hp si.gt ⟨hT1,hT30⟩ (by omega) fun H6 p6=>?_
 ((try simp (maxSteps:=3000000) (dsimp:=false) (disch:=first|omega|simp only[lnx];omega) only[↓ypre,ypost,↓reduceIte,reduceEqDiff,reduceAdd,reduceSub,reduceLeDiff,zz0,ynew,f0,f2,f6,f7,f8,wrap64_in]);try simp only[yback])
 generalize hH7:AH.new H6 _=H7
 obtain⟨hb7,p7,n7⟩:=new_facts hH7
 have p67:=p6.trans p7
 have k6:=pre_len p6
 by_cases hbm:(1:Int)<((bst p s.T).m:Int)
 case neg=>
  have es:=si.stop (by omega)
  have pp7:=pp.trans p67
  have hu7:=hu.pre (p1.trans pp7)
  ((try simp (maxSteps:=3000000) (dsimp:=false) (disch:=first|omega|simp only[lnx];omega) only[↓ypre,ypost,↓reduceIte,reduceEqDiff,reduceAdd,reduceSub,reduceLeDiff,zz0,ynew,f0,f2,f6,f7,f8,decide_eq_false hbm,rd1_new_lt]);try simp only[yback])
  generalize hHA:AH.new H7 _=HA
  obtain⟨hbA,pA,nA⟩:=new_facts hHA
  have p6A:=p67.trans pA
  have huA:=hu7.pre pA
  ((try simp (maxSteps:=3000000) (dsimp:=false) (disch:=first|omega|simp only[lnx];omega) only[↓ypre,ypost,↓reduceIte,reduceEqDiff,reduceAdd,reduceSub,reduceLeDiff,zz0,ynew,f0,f2,f6,f7,f8,huA.len]);try simp only[yback])
  have ctA:=ct.pre p6A
  have g7A:=pre_get p6A g7
  have wvA:=wv.pre p6A
  have gT:=si.gt
  have sl':=si.len
  have hp1A:=pp7.trans pA
  have eSP:shP p n rows=finP ⟨p,n,s.st,[]⟩ s.T s.T.length:=by unfold shP;rw[←es]
  rw[eSP] at hQ
  generalize hTT:s.T=T at *
  generalize hst:s.st=st0 at *
  obtain⟨W,hW⟩:∃ W,W=N+st0.length:=⟨_,rfl⟩
  rw[←hW] at f8 hcl hcol gT
  have tl0:TabL HA H1.length H7.length true []:=⟨hbA,by have:=pre_len pp7;omega,fun i hi=>by simp at hi,fun a b ha=>by simp at ha⟩
  have k7:=pre_len pp7
  refine WC_loop_inv (fun m f K4=>∃ (i:Nat) (nr:Nat) (fr:Bool) (L:List (Nat×List Int)),m=rows.length-i∧i≤rows.length∧f 0=I64 p∧f 6=.pointer (some ⟨h.length,0,none⟩)∧f 7=.pointer (some ⟨H2.length,0,none⟩)∧f 8=tv nb W∧f 18=sl nr L.length∧f 134=u∧f 135=I64 rows.length∧f 136=I64 i∧(StayT H1.length HA K4)∧(TabL K4 H1.length nr fr L)∧(L.map Prod.snd=T.take i)) ?_ (rows.length-0) _ _ ⟨0,H7.length,true,[],rfl,by omega,(by first|rfl|exact f0|(simp[upd_apply];done)),(by first|rfl|exact f6|(simp[upd_apply];done)),(by first|rfl|exact f7|(simp[upd_apply];done)),(by first|rfl|exact f8|(simp[upd_apply];done)),(by first|rfl|simp[upd_apply]),(by first|rfl|simp[upd_apply]),(by first|rfl|simp[upd_apply]),(by first|rfl|simp[upd_apply]),StayT.refl,tl0,(by simp)⟩
  rintro m f K4 ⟨i,nr,fr,L,rfl,hi,f0,f6,f7,f8,f18,f134,f135,f136,sy,tl,hL⟩
  have hLl:L.length=i:=by
   have:=congrArg List.length hL
   rw[List.length_map,List.length_take] at this
   omega
  have sl4:=sy.len
  by_cases hlt:(i:Int)<rows.length
  ·have hi':i<rows.length:=by omega
   have hiT:i<T.length:=by omega
   obtain⟨gw,gi⟩:=gT i hiT
   ((try simp (maxSteps:=3000000) (dsimp:=false) (disch:=first|omega|simp only[lnx];omega) only[↓ypre,ypost,↓reduceIte,reduceEqDiff,reduceAdd,reduceSub,reduceLeDiff,zz0,ynew,f0,f6,f7,f8,f18,f134,f135,f136,decide_eq_true hlt,show lenV (tv nb W)=some (I64 W) from rfl,wrap64_in]);try simp only[yback])
   refine⟨by omega,?_⟩
   rw[Int.toNat_natCast,zrep_ints]
   generalize hHB:AH.new K4 _=HB
   obtain⟨hbB,pB,nB⟩:=new_facts hHB
   have ls0:Lst HB K4.length (gen W fun y=>if y<0 then tb T i y else 0) true:=by
    have e:gen W (fun y=>if y<0 then tb T i y else 0)=List.replicate W 0:=(gen_ext (by simp) fun y hy=>by simp[List.getD_eq_getElem?_getD,List.getElem?_replicate,hy]).symm
    rw[e]
    exact hbB
   rw[show Value.slice (some ⟨K4.length,0,none⟩) W 1=sl K4.length W from rfl]
   ((try simp (maxSteps:=3000000) (dsimp:=false) (disch:=first|omega|simp only[lnx];omega) only[↓ypre,ypost,↓reduceIte,reduceEqDiff,reduceAdd,reduceSub,reduceLeDiff,zz0,ynew,f0,f6,f7,f8,f18,f134,f135,f136,show lenV (tv nb W)=some (I64 W) from rfl]);try simp only[yback])
   refine WC_loop_inv (fun m f K5=>∃ (c:Nat),m=W-c∧c≤W∧f 0=I64 p∧f 6=.pointer (some ⟨h.length,0,none⟩)∧f 7=.pointer (some ⟨H2.length,0,none⟩)∧f 8=tv nb W∧f 18=sl nr L.length∧f 19=I64 i∧f 20=sl K4.length W∧f 134=u∧f 135=I64 rows.length∧f 136=I64 i∧f 142=tv nb W∧f 143=I64 W∧f 144=I64 c∧(K4<+:K5)∧(Lst K5 K4.length (gen W fun y=>if y<c then tb T i y else 0) true)) ?_ (W-0) _ _ ⟨0,rfl,by omega,(by first|rfl|exact f0|(simp[upd_apply];done)),(by first|rfl|exact f6|(simp[upd_apply];done)),(by first|rfl|exact f7|(simp[upd_apply];done)),(by first|rfl|exact f8|(simp[upd_apply];done)),(by first|rfl|exact f18|(simp[upd_apply];done)),(by first|rfl|simp[upd_apply]),(by first|rfl|simp[upd_apply]),(by first|rfl|exact f134|(simp[upd_apply];done)),(by first|rfl|exact f135|(simp[upd_apply];done)),(by first|rfl|exact f136|(simp[upd_apply];done)),(by first|rfl|simp[upd_apply]),(by first|rfl|simp[upd_apply]),(by first|rfl|simp[upd_apply]),pB,ls0⟩
   rintro m f K5 ⟨c,rfl,hc,f0,f6,f7,f8,f18,f19,f20,f134,f135,f136,f142,f143,f144,pp,ls⟩
   by_cases hltc:(c:Int)<W
   ·have hcW:c<W:=by omega
    have ct5:ColT K5 nb fl cols:=⟨pre_get pp (sy.get _ _ ctA.g (by simp) (by simp)),ctA.wid⟩
    have rnc:=ct5.rdn (c:=c) (by omega)
    have cq:=hcol c hcW
    have wq:=cq.1
    have tcb:=gi c hcW
    generalize cols.getD c []=q at *
    have ixc:∀ kk:IntKind,ixsV 5 (tv nb W) (.int kk (c:Int))=_:=fun kk=>ColT.ix hcW
    have w1:∀ (h1:AH) (e:TypeId),(h1.new ⟨cel .u32 (List.replicate 5 0),e,false,true⟩).wr h1.length 0 (cel .u32 q)=some (h1.new ⟨cel .u32 q,e,false,true⟩):=fun h1 e=>wr_all (by rw[cel_len,cel_len,wq];rfl)
    ((try simp (maxSteps:=3000000) (dsimp:=false) (disch:=first|omega|simp only[lnx];omega) only[↓ypre,ypost,↓reduceIte,reduceEqDiff,reduceAdd,reduceSub,reduceLeDiff,zz0,ynew,f0,f6,f7,f8,f18,f19,f20,f134,f135,f136,f142,f143,f144,decide_eq_true hltc,ixc,rnc,cel_all,cellsL_cel,cel_len,wq,↓w1,wrap64_in]);try simp only[yback])
    generalize hHC:AH.new K5 _=HC
    obtain⟨hbC,pC,nC⟩:=new_facts hHC
    have lsC:Lst HC K4.length (gen W fun z=>if z<c then tb T i z else if z=c∧1≤tb T i c∧tb T i c≤((0:Nat):Int) then tb T i c else 0) true:=by
     have e:gen W (fun z=>if z<c then tb T i z else if z=c∧1≤tb T i c∧tb T i c≤((0:Nat):Int) then tb T i c else 0)=gen W (fun y=>if y<c then tb T i y else 0):=gen_congr fun z hz=>by
      by_cases h1:z<c
      ·rw[if_pos h1,if_pos h1]
      ·rw[if_neg h1,if_neg h1,if_neg (by omega)]
     rw[e]
     exact ls.pre pC
    refine WC_loop_inv (fun m f K6=>∃ (y:Nat),m=((p.toNat-1))-y∧y≤((p.toNat-1))∧f 0=I64 p∧f 6=.pointer (some ⟨h.length,0,none⟩)∧f 7=.pointer (some ⟨H2.length,0,none⟩)∧f 8=tv nb W∧f 18=sl nr L.length∧f 19=I64 i∧f 20=sl K4.length W∧f 21=I64 c∧f 22=.pointer (some ⟨K5.length,0,none⟩)∧f 23=I64 ((y:Int)+1)∧f 134=u∧f 135=I64 rows.length∧f 136=I64 i∧f 142=tv nb W∧f 143=I64 W∧f 144=I64 c∧(K4<+:K6)∧(Lst K6 K4.length (gen W fun z=>if z<c then tb T i z else if z=c∧1≤tb T i c∧tb T i c≤(y:Int) then tb T i c else 0) true)∧(K6.get K5.length=some ⟨cel .u32 q,246,false,true⟩)) ?_ (((p.toNat-1))-0) _ _ ⟨0,rfl,by omega,(by first|rfl|exact f0|(simp[upd_apply];done)),(by first|rfl|exact f6|(simp[upd_apply];done)),(by first|rfl|exact f7|(simp[upd_apply];done)),(by first|rfl|exact f8|(simp[upd_apply];done)),(by first|rfl|exact f18|(simp[upd_apply];done)),(by first|rfl|exact f19|(simp[upd_apply];done)),(by first|rfl|exact f20|(simp[upd_apply];done)),(by first|rfl|simp[upd_apply]),(by first|rfl|simp[upd_apply]),(by first|rfl|simp[upd_apply]),(by first|rfl|exact f134|(simp[upd_apply];done)),(by first|rfl|exact f135|(simp[upd_apply];done)),(by first|rfl|exact f136|(simp[upd_apply];done)),(by first|rfl|exact f142|(simp[upd_apply];done)),(by first|rfl|exact f143|(simp[upd_apply];done)),(by first|rfl|exact f144|(simp[upd_apply];done)),pp.trans pC,lsC,hbC⟩
    rintro m f K6 ⟨y,rfl,hy,f0,f6,f7,f8,f18,f19,f20,f21,f22,f23,f134,f135,f136,f142,f143,f144,pp,ls,gC⟩
    by_cases hlty:(y:Int)+1<p
    ·have eI:(y:Int)+1=((y+1:Nat):Int):=by omega
     rw[eI] at f23
     have ra:=cq.at (x:=y+1) (by omega)
     have ixA:=ixa_u (n:=K5.length) (off:=0) (len:=5) (kk:=.i64) (j:=y+1) (by omega)
     rw[Nat.zero_add] at ixA
     obtain⟨pk1,pk2⟩:=bin_pick (R:=T.length) (f:=fun k=>decide (tb T k c=((y+1:Nat):Int))) (r:=i) (by omega) hiT
     by_cases e:tb T i c=((y+1:Nat):Int)
     ·rw[if_pos (decide_eq_true e)] at pk2
      have ixl:=Lst.ix (n:=K4.length) (j:=(c:Int)) (len:=W) (by omega)
      rw[Int.toNat_natCast] at ixl
      obtain⟨H9,w9,e9,l9⟩:=ls.wr (j:=c) (x:=((y+1:Nat):Int)) (by rw[gen_len];exact hcW)
      have eL:(gen W fun z=>if z<c then tb T i z else if z=c∧1≤tb T i c∧tb T i c≤(y:Int) then tb T i c else 0).set c ((y+1:Nat):Int)=gen W fun z=>if z<c then tb T i z else if z=c∧1≤tb T i c∧tb T i c≤((y+1:Nat):Int) then tb T i c else 0:=gen_ext (by rw[List.length_set,gen_len]) fun z hz=>by
       rw[set_getD (by rw[gen_len];exact hcW)]
       by_cases h1:z=c
       ·subst h1
        rw[if_pos rfl,if_neg (by omega),if_pos ⟨rfl,by omega,by omega⟩,e]
       ·rw[if_neg h1,gen_get hz]
        by_cases h2:z<c
        ·rw[if_pos h2,if_pos h2]
        ·rw[if_neg h2,if_neg h2,if_neg (by omega),if_neg (by omega)]
      rw[eL] at l9
      ((try simp (maxSteps:=3000000) (dsimp:=false) (disch:=first|omega|simp only[lnx];omega) only[↓ypre,ypost,↓reduceIte,reduceEqDiff,reduceAdd,reduceSub,reduceLeDiff,zz0,ynew,f0,f6,f7,f8,f18,f19,f20,f21,f22,f23,f134,f135,f136,f142,f143,f144,decide_eq_true (show ((y+1:Nat):Int)<p by omega),ixA,rd1_of gC,ra,pk1,pk2,decide_eq_true (show (1:Int)=1 from rfl),ixl,w9,wrap64_in]);try simp only[yback])
      refine InvQ_go (((p.toNat-1))-(y+1)) (by omega) ⟨(y+1),rfl,by omega,(by first|rfl|exact f0|(simp only[upd_apply];rfl)|(show I64 _=_;congr 1;omega)),(by first|rfl|exact f6|(simp only[upd_apply];rfl)|(show I64 _=_;congr 1;omega)),(by first|rfl|exact f7|(simp only[upd_apply];rfl)|(show I64 _=_;congr 1;omega)),(by first|rfl|exact f8|(simp only[upd_apply];rfl)|(show I64 _=_;congr 1;omega)),(by first|rfl|exact f18|(simp only[upd_apply];rfl)|(show I64 _=_;congr 1;omega)),(by first|rfl|exact f19|(simp only[upd_apply];rfl)|(show I64 _=_;congr 1;omega)),(by first|rfl|exact f20|(simp only[upd_apply];rfl)|(show I64 _=_;congr 1;omega)),(by first|rfl|exact f21|(simp only[upd_apply];rfl)|(show I64 _=_;congr 1;omega)),(by first|rfl|exact f22|(simp only[upd_apply];rfl)|(show I64 _=_;congr 1;omega)),(by show I64 _=I64 _;congr 1),(by first|rfl|exact f134|(simp only[upd_apply];rfl)|(show I64 _=_;congr 1;omega)),(by first|rfl|exact f135|(simp only[upd_apply];rfl)|(show I64 _=_;congr 1;omega)),(by first|rfl|exact f136|(simp only[upd_apply];rfl)|(show I64 _=_;congr 1;omega)),(by first|rfl|exact f142|(simp only[upd_apply];rfl)|(show I64 _=_;congr 1;omega)),(by first|rfl|exact f143|(simp only[upd_apply];rfl)|(show I64 _=_;congr 1;omega)),(by first|rfl|exact f144|(simp only[upd_apply];rfl)|(show I64 _=_;congr 1;omega)),(by rw[e9];exact pre_put pp (Nat.le_refl _)),l9,(by rw[e9,get_put_ne (by have:=pre_len (show K4<+:K5 from by assumption);have:=(show Lst K5 K4.length _ true from by assumption).lt;omega)];exact gC)⟩
     ·have ef:(if decide (tb T i c=((y+1:Nat):Int))=true then (1:Int) else 0)=0:=by rw[decide_eq_false e];rfl
      rw[ef] at pk2
      have eL:(gen W fun z=>if z<c then tb T i z else if z=c∧1≤tb T i c∧tb T i c≤(y:Int) then tb T i c else 0)=gen W fun z=>if z<c then tb T i z else if z=c∧1≤tb T i c∧tb T i c≤((y+1:Nat):Int) then tb T i c else 0:=gen_congr fun z hz=>by
       by_cases h2:z<c
       ·rw[if_pos h2,if_pos h2]
       ·rw[if_neg h2,if_neg h2]
        by_cases h3:z=c∧1≤tb T i c∧tb T i c≤(y:Int)
        ·rw[if_pos h3,if_pos (by omega)]
        ·rw[if_neg h3,if_neg (by omega)]
      rw[eL] at ls
      ((try simp (maxSteps:=3000000) (dsimp:=false) (disch:=first|omega|simp only[lnx];omega) only[↓ypre,ypost,↓reduceIte,reduceEqDiff,reduceAdd,reduceSub,reduceLeDiff,zz0,ynew,f0,f6,f7,f8,f18,f19,f20,f21,f22,f23,f134,f135,f136,f142,f143,f144,decide_eq_true (show ((y+1:Nat):Int)<p by omega),ixA,rd1_of gC,ra,pk1,pk2,decide_eq_false (show ¬ (0:Int)=1 by decide),wrap64_in]);try simp only[yback])
      refine InvQ_go (((p.toNat-1))-(y+1)) (by omega) ⟨(y+1),rfl,by omega,(by first|rfl|exact f0|(simp only[upd_apply];rfl)|(show I64 _=_;congr 1;omega)),(by first|rfl|exact f6|(simp only[upd_apply];rfl)|(show I64 _=_;congr 1;omega)),(by first|rfl|exact f7|(simp only[upd_apply];rfl)|(show I64 _=_;congr 1;omega)),(by first|rfl|exact f8|(simp only[upd_apply];rfl)|(show I64 _=_;congr 1;omega)),(by first|rfl|exact f18|(simp only[upd_apply];rfl)|(show I64 _=_;congr 1;omega)),(by first|rfl|exact f19|(simp only[upd_apply];rfl)|(show I64 _=_;congr 1;omega)),(by first|rfl|exact f20|(simp only[upd_apply];rfl)|(show I64 _=_;congr 1;omega)),(by first|rfl|exact f21|(simp only[upd_apply];rfl)|(show I64 _=_;congr 1;omega)),(by first|rfl|exact f22|(simp only[upd_apply];rfl)|(show I64 _=_;congr 1;omega)),(by show I64 _=I64 _;congr 1),(by first|rfl|exact f134|(simp only[upd_apply];rfl)|(show I64 _=_;congr 1;omega)),(by first|rfl|exact f135|(simp only[upd_apply];rfl)|(show I64 _=_;congr 1;omega)),(by first|rfl|exact f136|(simp only[upd_apply];rfl)|(show I64 _=_;congr 1;omega)),(by first|rfl|exact f142|(simp only[upd_apply];rfl)|(show I64 _=_;congr 1;omega)),(by first|rfl|exact f143|(simp only[upd_apply];rfl)|(show I64 _=_;congr 1;omega)),(by first|rfl|exact f144|(simp only[upd_apply];rfl)|(show I64 _=_;congr 1;omega)),pp,ls,gC⟩
    have ey:y=p.toNat-1:=by omega
    subst ey
    have eL:(gen W fun z=>if z<c then tb T i z else if z=c∧1≤tb T i c∧tb T i c≤((p.toNat-1:Nat):Int) then tb T i c else 0)=gen W fun z=>if z<c+1 then tb T i z else 0:=gen_congr fun z hz=>by
     by_cases h2:z<c
     ·rw[if_pos h2,if_pos (by omega)]
     ·rw[if_neg h2]
      by_cases h3:z=c
      ·subst h3
       rw[if_pos (show z<z+1 by omega)]
       by_cases h4:tb T i z=0
       ·rw[if_neg (by omega),h4]
       ·rw[if_pos ⟨rfl,by omega,by omega⟩]
      ·rw[if_neg (by omega),if_neg (by omega)]
    rw[eL] at ls
    ((try simp (maxSteps:=3000000) (dsimp:=false) (disch:=first|omega|simp only[lnx];omega) only[↓ypre,ypost,↓reduceIte,reduceEqDiff,reduceAdd,reduceSub,reduceLeDiff,zz0,ynew,f0,f6,f7,f8,f18,f19,f20,f21,f22,f23,f134,f135,f136,f142,f143,f144,decide_eq_false hlty,wrap64_in]);try simp only[yback])
    refine InvQ_go (W-(c+1)) (by omega) ⟨(c+1),rfl,by omega,(by first|rfl|exact f0|(simp only[upd_apply];rfl)|(show I64 _=_;congr 1;omega)),(by first|rfl|exact f6|(simp only[upd_apply];rfl)|(show I64 _=_;congr 1;omega)),(by first|rfl|exact f7|(simp only[upd_apply];rfl)|(show I64 _=_;congr 1;omega)),(by first|rfl|exact f8|(simp only[upd_apply];rfl)|(show I64 _=_;congr 1;omega)),(by first|rfl|exact f18|(simp only[upd_apply];rfl)|(show I64 _=_;congr 1;omega)),(by first|rfl|exact f19|(simp only[upd_apply];rfl)|(show I64 _=_;congr 1;omega)),(by first|rfl|exact f20|(simp only[upd_apply];rfl)|(show I64 _=_;congr 1;omega)),(by first|rfl|exact f134|(simp only[upd_apply];rfl)|(show I64 _=_;congr 1;omega)),(by first|rfl|exact f135|(simp only[upd_apply];rfl)|(show I64 _=_;congr 1;omega)),(by first|rfl|exact f136|(simp only[upd_apply];rfl)|(show I64 _=_;congr 1;omega)),(by first|rfl|exact f142|(simp only[upd_apply];rfl)|(show I64 _=_;congr 1;omega)),(by first|rfl|exact f143|(simp only[upd_apply];rfl)|(show I64 _=_;congr 1;omega)),(by first|rfl|exact f144|(simp only[upd_apply];rfl)|(show I64 _=_;congr 1;omega)),pp,ls⟩
   have ec:c=W:=by omega
   subst ec
   have eT':(gen c fun y=>if y<c then tb T i y else 0)=T.getD i []:=(gen_ext gw fun z hz=>by rw[if_pos hz];rfl).symm
   rw[eT'] at ls
   have pK5:=pre_len pp
   ((try simp (maxSteps:=3000000) (dsimp:=false) (disch:=first|omega|simp only[lnx];omega) only[↓ypre,ypost,↓reduceIte,reduceEqDiff,reduceAdd,reduceSub,reduceLeDiff,zz0,ynew,f0,f6,f7,f8,f18,f19,f20,f134,f135,f136,f142,f143,f144,decide_eq_false hltc,sl_cells,sl_one]);try simp only[yback])
   rw[←gw]
   have tl5:=tl.pre pp
   refine tl5.app (by omega) (fun j hj=>by
    obtain⟨fu,o⟩:=(tl.rows j hj).2
    have:=o.lt
    omega) ls (by omega) (by omega) fun H9 l9 tl9 keep9 pre9=>?_
   have st9:StayT H1.length K5 H9:=⟨by omega,fun h0 hh q=>pre9 h0 (Nat.le_trans hh tl.low) q,fun m' b' g q1 q2=>keep9 m' b' (fun e=>by
    have g3:=tl5.g
    rw[e,g3] at g
    cases g
    exact q2 rfl) g⟩
   ((try simp (maxSteps:=3000000) (dsimp:=false) (disch:=first|omega|simp only[lnx];omega) only[↓ypre,ypost,↓reduceIte,reduceEqDiff,reduceAdd,reduceSub,reduceLeDiff,zz0,ynew,f0,f6,f7,f8,f18,f19,f20,f134,f135,f136,f142,f143,f144,wrap64_in]);try simp only[yback])
   refine InvQ_go (rows.length-(i+1)) (by omega) ⟨(i+1),(K5.length+1),false,(L++[(K4.length,T.getD i [])]),rfl,by omega,(by first|rfl|exact f0|(simp only[upd_apply];rfl)|(show I64 _=_;congr 1;omega)),(by first|rfl|exact f6|(simp only[upd_apply];rfl)|(show I64 _=_;congr 1;omega)),(by first|rfl|exact f7|(simp only[upd_apply];rfl)|(show I64 _=_;congr 1;omega)),(by rw[gw];exact f8),(by first|rfl|exact f18|(simp only[upd_apply];rfl)|(show I64 _=_;congr 1;omega)),(by first|rfl|exact f134|(simp only[upd_apply];rfl)|(show I64 _=_;congr 1;omega)),(by first|rfl|exact f135|(simp only[upd_apply];rfl)|(show I64 _=_;congr 1;omega)),(by first|rfl|exact f136|(simp only[upd_apply];rfl)|(show I64 _=_;congr 1;omega)),(sy.trans ((StayT.of pp).trans st9)),tl9,(by rw[List.map_append,hL,take_next (d:=[]) hiT];rfl)⟩
  have ei:i=rows.length:=by omega
  subst ei
  rw[←sl',List.take_of_length_le (Nat.le_refl _)] at hL
  have g7K:=sy.get _ _ g7A (by simp) (by simp)
  ((try simp (maxSteps:=3000000) (dsimp:=false) (disch:=first|omega|simp only[lnx];omega) only[↓ypre,ypost,↓reduceIte,reduceEqDiff,reduceAdd,reduceSub,reduceLeDiff,zz0,ynew,f0,f6,f7,f8,f18,f134,f135,f136,decide_eq_false hlt,rdn_of g7K]);try simp only[yback])
  have hrs:=tl.rowsS
  rw[hL] at hrs
  have o0:Way2 K4 H1.length sv (.slice none 0 0) ⟨p,n,st0,[]⟩:=⟨wvA.keep fun m' c' f' _ _ g=>sy.get _ _ g (by simp) (by simp),⟨fun r hr=>by simp at hr,.inl ⟨rfl,rfl⟩⟩⟩
  rw[show Value.agg #[I64 p,I64 n,sv,.slice none 0 0]=prgV ⟨p,n,st0,[]⟩ sv (.slice none 0 0) from rfl]
  have kA:=pre_len hp1A
  refine i_finished hp hn o0 (by omega) hrs (fun i hi=>by
   obtain⟨q1,q2⟩:=gT i hi
   exact⟨allIn_iff.2 fun j hj=>q2 j (by omega),by omega⟩) (by omega) (by show st0.length≤100000;omega) (by simp) fun v' w' H' sy' o' ob'=>?_
  have pH:H1<+:H':=sy'.pre _ (Nat.le_refl _) (sy.pre _ (Nat.le_refl _) hp1A)
  have g6:=pre_get pH hb1
  have lt6:=get_lt g6
  obtain⟨ep,en,_,_⟩:=finP_facts (x:=⟨p,n,st0,[]⟩) (rows:=T) (N:=10000) hp (fun i hi=>by
   obtain⟨q1,q2⟩:=gT i hi
   exact⟨allIn_iff.2 fun j hj=>q2 j (by omega),by omega⟩) hn (i:=T.length) (Nat.le_refl _)
  ((try simp (maxSteps:=3000000) (dsimp:=false) (disch:=first|omega|simp only[lnx];omega) only[↓ypre,ypost,↓reduceIte,reduceEqDiff,reduceAdd,reduceSub,reduceLeDiff,zz0,ynew,f0,f6,f7,f8,f18,f134,f135,f136,prgV,o'.st.one,o'.st.cells,o'.out.one,o'.out.cells,wr_of g6]);try simp only[yback])
  have:=hQ v' w' _ (pre_put (b:=⟨[I64 (finP ⟨p,n,st0,[]⟩ T T.length).p,I64 (finP ⟨p,n,st0,[]⟩ T T.length).n,v',w'],70,false,true⟩) (p1.trans pH) (Nat.le_refl _)) ⟨(o'.st.put_ty g6 (by simp)).mlo (by omega),(o'.out.put_ty g6 (by simp)).mlo (by omega)⟩ (ob' (by omega))
  unfold prgV at this
  exact this
 obtain⟨b1,b2,b3,b4,_⟩:=bst_ok hp si.gt hT1 (by omega)
 have sg:=si.go hp (by omega) (by omega)
 have est:(stepS p s).st=s.st++[[((bst p s.T).l:Int),((bst p s.T).j:Int),((bst p s.T).r:Int)]]:=rfl
 have eT:(stepS p s).T=mvT p (bst p s.T) s.T:=rfl
 generalize hbb:bst p s.T=bb at *
 have ct7:=ct.pre p67
 have ixl:∀ kk:IntKind,ixsV 5 (tv nb (N+s.st.length)) (.int kk (bb.l:Int))=_:=fun kk=>ColT.ix (by omega)
 have ixj:∀ kk:IntKind,ixsV 5 (tv nb (N+s.st.length)) (.int kk (bb.j:Int))=_:=fun kk=>ColT.ix (by omega)
 have rnl:=ct7.rdn (c:=bb.l) (by omega)
 have rnj:=ct7.rdn (c:=bb.j) (by omega)
 have ca:=hcol bb.l (by omega)
 have cb:=hcol bb.j (by omega)
 generalize hqa:cols.getD bb.l []=qa at *
 generalize hqb:cols.getD bb.j []=qb at *
 ((try simp (maxSteps:=3000000) (dsimp:=false) (disch:=first|omega|simp only[lnx];omega) only[↓ypre,ypost,↓reduceIte,reduceEqDiff,reduceAdd,reduceSub,reduceLeDiff,zz0,ynew,f0,f2,f6,f7,f8,decide_eq_true hbm,rd1_of hb7,ixl,rnl,ixj,rnj]);try simp only[yback])
 refine i_rowsWith (qa:=qa) (qb:=qb) hp si.gt hT30 (i:=bb.l) (j:=bb.j) (by omega) (by omega) ca cb ⟨b3,b4⟩ fun H8 p8=>?_
 ((try simp (maxSteps:=3000000) (dsimp:=false) (disch:=first|omega|simp only[lnx];omega) only[↓ypre,ypost,↓reduceIte,reduceEqDiff,reduceAdd,reduceSub,reduceLeDiff,zz0,ynew,f0,f2,f6,f7,f8,cel_all,cel_len,List.length_replicate,cellsL_cel]);try simp only[yback])
 generalize hH9:AH.new H8 _=H9
 obtain⟨hb9,p9,n9⟩:=new_facts hH9
 have p89:=p8.trans p9
 have k8:=pre_len p8
 have ct9:=ct7.pre p89
 have g13:=pre_get p89 hb7
 have g79:=pre_get (p67.trans p89) g7
 have wv9:=wv.pre (p67.trans p89)
 have pp9:=pp.trans (p67.trans p89)
 have lnbK:=get_lt ct.g
 obtain⟨SS',hSS⟩:∃ SS':Nat→Bool,SS'=mvS p bb s.T:=⟨_,rfl⟩
 have eS:mkB p s.T bb.l bb.j bb.r=SS':=by rw[hSS];rfl
 have lne:bb.l≠bb.j:=by omega
 rw[eS]
 have ctS:ColT H9 nb fl ((cols.set bb.l (lcol s.T SS' bb.l 0 qa)).set bb.j (lcol s.T SS' bb.j 0 qb)):=by
  rw[lcol_zero ca.1,lcol_zero cb.1]
  have e1:cols.set bb.l qa=cols:=by
   rw[←hqa,List.getD_eq_getElem?_getD,List.getElem?_eq_getElem (by omega)]
   exact List.set_getElem_self (by omega)
  have e2:cols.set bb.j qb=cols:=by
   rw[←hqb,List.getD_eq_getElem?_getD,List.getElem?_eq_getElem (by omega)]
   exact List.set_getElem_self (by omega)
  rw[e1,e2]
  exact ct9
 have gN0:H9.get H8.length=some ⟨cel .u32 (ncol s.T SS' bb.l 0),246,false,true⟩:=by
  rw[ncol_zero]
  exact hb9
 refine WC_loop_inv (fun m f K7=>∃ (c:Nat),m=((p.toNat-1))-c∧c≤((p.toNat-1))∧f 0=I64 p∧f 2=u∧f 6=.pointer (some ⟨h.length,0,none⟩)∧f 7=.pointer (some ⟨H2.length,0,none⟩)∧f 8=tv nb (N+s.st.length)∧f 13=.pointer (some ⟨H6.length,0,none⟩)∧f 15=U32 (bs s.T.length SS')∧f 16=.pointer (some ⟨H8.length,0,none⟩)∧f 17=I64 ((c:Int)+1)∧(ColT K7 nb fl ((cols.set bb.l (lcol s.T SS' bb.l c qa)).set bb.j (lcol s.T SS' bb.j c qb)))∧(K7.get H8.length=some ⟨cel .u32 (ncol s.T SS' bb.l c),246,false,true⟩)∧(∀ m b,m≠nb→m≠H8.length→H9.get m=some b→K7.get m=some b)∧(K7.length=H9.length)∧(H1<+:K7)) ?_ (((p.toNat-1))-0) _ _ ⟨0,rfl,by omega,(by first|rfl|exact f0|(simp[upd_apply];done)),(by first|rfl|exact f2|(simp[upd_apply];done)),(by first|rfl|exact f6|(simp[upd_apply];done)),(by first|rfl|exact f7|(simp[upd_apply];done)),(by first|rfl|exact f8|(simp[upd_apply];done)),(by first|rfl|simp[upd_apply]),(by first|rfl|simp[upd_apply]),(by first|rfl|simp[upd_apply]),(by first|rfl|simp[upd_apply]),ctS,gN0,fun m b _ _ g=>g,rfl,pp9⟩
 rintro m f K7 ⟨c,rfl,hc,f0,f2,f6,f7,f8,f13,f15,f16,f17,ctS,gN,hk,lK,pp⟩
 have g13K:=hk _ _ (by omega) (by omega) g13
 by_cases hltc:(c:Int)+1<p
 ·have hc5:c+1<5:=by omega
  have eI:(c:Int)+1=((c+1:Nat):Int):=by omega
  rw[eI] at f17
  have cl2:((cols.set bb.l (lcol s.T SS' bb.l c qa)).set bb.j (lcol s.T SS' bb.j c qb)).length=cols.length:=by simp
  have ixa1:=ixa_u (n:=nb) (off:=bb.l*5) (len:=5) (kk:=.i64) (j:=c+1) hc5
  have ixa2:=ixa_u (n:=nb) (off:=bb.j*5) (len:=5) (kk:=.i64) (j:=c+1) hc5
  have ixaN:=ixa_u (n:=H8.length) (off:=0) (len:=5) (kk:=.i64) (j:=c+1) hc5
  rw[Nat.zero_add] at ixaN
  have rA:=ctS.rd (c:=bb.l) (x:=c+1) (by omega) hc5
  rw[get2_l lne (by omega) (by omega),lcol_at ca hc5] at rA
  have rA:K7.rd1 nb (bb.l*5+(c+1))=some (U32 (bs s.T.length fun k=>decide (tb s.T k bb.l=((c+1:Nat):Int)))):=rA
  have an1:=bin_and (R:=s.T.length) (f:=fun k=>decide (tb s.T k bb.l=((c+1:Nat):Int))) (g:=SS') (by omega)
  have ltN:=get_lt gN
  have nl:(ncol s.T SS' bb.l c).length=5:=gen_len
  have wN:K7.wr H8.length (c+1) [U32 (bs s.T.length fun k=>decide (tb s.T k bb.l=((c+1:Nat):Int))&&SS' k)]=some (K7.put H8.length ⟨cel .u32 (ncol s.T SS' bb.l (c+1)),246,false,true⟩):=by
   rw[wr_of gN,if_pos ⟨rfl,by simp only[cel_len,nl,List.length_singleton];omega⟩,←ncol_set hc5]
   unfold U32
   rw[cel_set (by rw[nl];exact hc5)]
  generalize hKN:K7.put H8.length ⟨cel .u32 (ncol s.T SS' bb.l (c+1)),246,false,true⟩=KN at *
  have gN':KN.get H8.length=some ⟨cel .u32 (ncol s.T SS' bb.l (c+1)),246,false,true⟩:=by rw[←hKN];exact get_put_same ltN
  have ctN:ColT KN nb fl ((cols.set bb.l (lcol s.T SS' bb.l c qa)).set bb.j (lcol s.T SS' bb.j c qb)):=by rw[←hKN];exact ctS.put_ne (by omega)
  have hkN:∀ m b,m≠nb→m≠H8.length→H9.get m=some b→KN.get m=some b:=fun m b h1 h2 g=>by rw[←hKN,get_put_ne (fun e=>h2 e.symm)];exact hk m b h1 h2 g
  have g13N:=hkN _ _ (by omega) (by omega) g13
  have lKN:KN.length=K7.length:=by rw[←hKN,len_put]
  have rA2:=ctN.rd (c:=bb.l) (x:=c+1) (by omega) hc5
  rw[get2_l lne (by omega) (by omega),lcol_at ca hc5] at rA2
  have rA2:KN.rd1 nb (bb.l*5+(c+1))=some (U32 (bs s.T.length fun k=>decide (tb s.T k bb.l=((c+1:Nat):Int)))):=rA2
  have an2:=bin_andNot (R:=s.T.length) (f:=fun k=>decide (tb s.T k bb.l=((c+1:Nat):Int))) (g:=SS') (by omega)
  obtain⟨KA,wA,eA,ctA'⟩:=ctN.wr (c:=bb.l) (x:=c+1) (v:=((bs s.T.length (fun k=>decide (tb s.T k bb.l=((c+1:Nat):Int))&&!SS' k):Nat):Int)) (by omega) hc5
  have wA:KN.wr nb (bb.l*5+(c+1)) [U32 (bs s.T.length (fun k=>decide (tb s.T k bb.l=((c+1:Nat):Int))&&!SS' k))]=some KA:=wA
  rw[get2_l lne (by omega) (by omega),lcol_set hc5] at ctA'
  have gN'':KA.get H8.length=some ⟨cel .u32 (ncol s.T SS' bb.l (c+1)),246,false,true⟩:=by rw[eA,get_put_ne (by omega)];exact gN'
  have hkA:∀ m b,m≠nb→m≠H8.length→H9.get m=some b→KA.get m=some b:=fun m b h1 h2 g=>by rw[eA,get_put_ne (fun e=>h1 e.symm)];exact hkN m b h1 h2 g
  have g13A:=hkA _ _ (by omega) (by omega) g13
  have lKA:KA.length=K7.length:=by rw[eA,len_put,lKN]
  have cl3:(((cols.set bb.l (lcol s.T SS' bb.l c qa)).set bb.j (lcol s.T SS' bb.j c qb)).set bb.l (lcol s.T SS' bb.l (c+1) qa)).length=cols.length:=by simp
  have eB:(((cols.set bb.l (lcol s.T SS' bb.l c qa)).set bb.j (lcol s.T SS' bb.j c qb)).set bb.l (lcol s.T SS' bb.l (c+1) qa)).getD bb.j []=lcol s.T SS' bb.j c qb:=by
   rw[set_getD' (by rw[cl2];omega),if_neg (fun e=>lne e.symm),get2_j (by omega)]
  have rB:=ctA'.rd (c:=bb.j) (x:=c+1) (by omega) hc5
  rw[eB,lcol_at cb hc5] at rB
  have rB:KA.rd1 nb (bb.j*5+(c+1))=some (U32 (bs s.T.length fun k=>decide (tb s.T k bb.j=((c+1:Nat):Int)))):=rB
  have an3:=bin_andNot (R:=s.T.length) (f:=fun k=>decide (tb s.T k bb.j=((c+1:Nat):Int))) (g:=SS') (by omega)
  obtain⟨KB,wB,eKB,ctB'⟩:=ctA'.wr (c:=bb.j) (x:=c+1) (v:=((bs s.T.length (fun k=>decide (tb s.T k bb.j=((c+1:Nat):Int))&&!SS' k):Nat):Int)) (by omega) hc5
  have wB:KA.wr nb (bb.j*5+(c+1)) [U32 (bs s.T.length (fun k=>decide (tb s.T k bb.j=((c+1:Nat):Int))&&!SS' k))]=some KB:=wB
  rw[eB,lcol_set hc5,set2_next lne] at ctB'
  have gNB:KB.get H8.length=some ⟨cel .u32 (ncol s.T SS' bb.l (c+1)),246,false,true⟩:=by rw[eKB,get_put_ne (by omega)];exact gN''
  have hkB:∀ m b,m≠nb→m≠H8.length→H9.get m=some b→KB.get m=some b:=fun m b h1 h2 g=>by rw[eKB,get_put_ne (fun e=>h1 e.symm)];exact hkA m b h1 h2 g
  have lKB:KB.length=K7.length:=by rw[eKB,len_put,lKA]
  have ppB:H1<+:KB:=by
   rw[eKB,eA,←hKN]
   exact pre_put (pre_put (pre_put pp (by have:=pre_len pp9;omega)) lnb) lnb
  ((try simp (maxSteps:=3000000) (dsimp:=false) (disch:=first|omega|simp only[lnx];omega) only[↓ypre,ypost,↓reduceIte,reduceEqDiff,reduceAdd,reduceSub,reduceLeDiff,zz0,ynew,f0,f2,f6,f7,f8,f13,f15,f16,f17,decide_eq_true (show ((c+1:Nat):Int)<p by omega),rd1_of g13K,ixl,ixa1,rA,an1,ixaN,U_one,U_cells,wN,rd1_of g13N,rA2,an2,wA,rd1_of g13A,ixj,ixa2,rB,an3,wB,wrap64_in]);try simp only[yback])
  refine InvQ_go (((p.toNat-1))-(c+1)) (by omega) ⟨(c+1),rfl,by omega,(by first|rfl|exact f0|(simp only[upd_apply];rfl)|(show I64 _=_;congr 1;omega)),(by first|rfl|exact f2|(simp only[upd_apply];rfl)|(show I64 _=_;congr 1;omega)),(by first|rfl|exact f6|(simp only[upd_apply];rfl)|(show I64 _=_;congr 1;omega)),(by first|rfl|exact f7|(simp only[upd_apply];rfl)|(show I64 _=_;congr 1;omega)),(by first|rfl|exact f8|(simp only[upd_apply];rfl)|(show I64 _=_;congr 1;omega)),(by first|rfl|exact f13|(simp only[upd_apply];rfl)|(show I64 _=_;congr 1;omega)),(by first|rfl|exact f15|(simp only[upd_apply];rfl)|(show I64 _=_;congr 1;omega)),(by first|rfl|exact f16|(simp only[upd_apply];rfl)|(show I64 _=_;congr 1;omega)),(by show I64 _=I64 _;congr 1),ctB',gNB,hkB,(by rw[lKB,lK]),ppB⟩
 have ec:c=p.toNat-1:=by omega
 subst ec
 have nl:(ncol s.T SS' bb.l (p.toNat-1)).length=5:=gen_len
 have tkN:(cel .u32 (ncol s.T SS' bb.l (p.toNat-1))).take 5=cel .u32 (ncol s.T SS' bb.l (p.toNat-1)):=List.take_of_length_le (by rw[cel_len];omega)
 have spl:splice (cel .u32 (List.replicate 5 0)) 0 (cel .u32 (ncol s.T SS' bb.l (p.toNat-1)))=cel .u32 (ncol s.T SS' bb.l (p.toNat-1)):=by
  rw[cel_splice,nl]
  simp
 have cl2:((cols.set bb.l (lcol s.T SS' bb.l (p.toNat-1) qa)).set bb.j (lcol s.T SS' bb.j (p.toNat-1) qb)).length=N+s.st.length:=by simp[hcl]
 have wc:WayX (246) .u32 5 K7 H1.length [] (tv nb (N+s.st.length)) ((cols.set bb.l (lcol s.T SS' bb.l (p.toNat-1) qa)).set bb.j (lcol s.T SS' bb.j (p.toNat-1) qb)):=by
  have:=ctS.way (ex:=[]) lnb (by simp)
  rw[cl2] at this
  exact this
 have k19:=pre_len pp9
 ((try simp (maxSteps:=3000000) (dsimp:=false) (disch:=first|omega|simp only[lnx];omega) only[↓ypre,ypost,↓reduceIte,reduceEqDiff,reduceAdd,reduceSub,reduceLeDiff,zz0,ynew,f0,f2,f6,f7,f8,f13,f15,f16,f17,decide_eq_false hltc,rdn_of gN,cel_len,nl,tkN,cel_all,cellsL_cel,List.length_replicate,spl]);try simp only[yback])
 refine wc.appK (q:=ncol s.T SS' bb.l (p.toNat-1)) nl (by rw[cl2];omega) (by rw[cl2];omega) (by omega) (by simp) fun cv H10 l10 pre10 keep10 wc10=>?_
 obtain⟨nb',fl',rfl,hnb',ct10⟩:=wc10.colT (by simp)
 have g13b:=keep10 _ _ (.inr (by simp)) (hk _ _ (by omega) (by omega) g13)
 have g7b:=keep10 _ _ (.inr (by simp)) (hk _ _ (by
  rintro rfl
  have:=ct9.g
  rw[g79] at this
  have:=congrArg (fun b:Option Blk=>b.map (·.e)) this
  simp at this) (by omega) g79)
 have wv10:WayX (181) .i64 3 H10 H1.length [] sv s.st:=wv9.keep fun m' c' f' _ _ g=>keep10 _ _ (.inr (by simp)) (hk _ _ (by
  rintro rfl
  have:=ct9.g
  rw[g] at this
  cases this) (by
  rintro rfl
  rw[hb9] at g
  cases g) g)
 have pp10:H1<+:H10:=pre10 _ (Nat.le_refl _) pp
 ((try simp (maxSteps:=3000000) (dsimp:=false) (disch:=first|omega|simp only[lnx];omega) only[↓ypre,ypost,↓reduceIte,reduceEqDiff,reduceAdd,reduceSub,reduceLeDiff,zz0,ynew,f0,f2,f6,f7,f8,f13,f15,f16,f17,rd1_of g7b,rd1_of g13b]);try simp only[yback])
 refine wv10.appK (q:=[(bb.l:Int),(bb.j:Int),(bb.r:Int)]) rfl (by omega) (by omega) (by omega) (by simp) fun sv' H11 l11 pre11 keep11 wv11=>?_
 have g7c:=keep11 _ _ (.inr (by simp)) g7b
 have lt7:=get_lt g7c
 have ct11:ColT H11 nb' fl' (((cols.set bb.l (lcol s.T SS' bb.l (p.toNat-1) qa)).set bb.j (lcol s.T SS' bb.j (p.toNat-1) qb))++[ncol s.T SS' bb.l (p.toNat-1)]):=⟨keep11 _ _ (.inr (by simp)) ct10.g,ct10.wid⟩
 ((try simp (maxSteps:=3000000) (dsimp:=false) (disch:=first|omega|simp only[lnx];omega) only[↓ypre,ypost,↓reduceIte,reduceEqDiff,reduceAdd,reduceSub,reduceLeDiff,zz0,ynew,f0,f2,f6,f7,f8,f13,f15,f16,f17,wv11.one,wv11.cells,wr_of g7c,wrap64_in]);try simp only[yback])
 have hlt:=sg.2
 have lst:(stepS p s).st.length=s.st.length+1:=by rw[est];simp
 have sg1:=sg.1
 have f8':tv nb' (((cols.set bb.l (lcol s.T SS' bb.l (p.toNat-1) qa)).set bb.j (lcol s.T SS' bb.j (p.toNat-1) qb))++[ncol s.T SS' bb.l (p.toNat-1)]).length=tv nb' (N+(stepS p s).st.length):=by rw[List.length_append,cl2,lst];rfl
 refine InvQ_go (nzT rows-(nzT rows-nzT (stepS p s).T)) (by omega) ⟨nzT rows-nzT (stepS p s).T,stepS p s,sv',nb',fl',_,rfl,by omega,f0,f2,f6,f7,f8',by omega,sg1,pre_put (pre11 _ (Nat.le_refl _) pp10) (by omega),by omega,ct11.put_ne ?_,by rw[List.length_append,cl2,lst];rfl,fun i hi=>?_,?_,get_put_same lt7⟩
 ·rintro rfl
  have:=ct11.g
  rw[g7c] at this
  have:=congrArg (fun b:Option Blk=>b.map (·.e)) this
  simp at this
 ·rw[eT]
  have g:=si.gt
  by_cases e1:i<N+s.st.length
  ·rw[getD_app_l (by rw[cl2];exact e1)]
   by_cases e2:i=bb.l
   ·subst e2
    rw[get2_l lne (by omega) (by omega),hSS]
    exact col_left g hp5 (by omega) (by omega) (.inl rfl) ca
   ·by_cases e3:i=bb.j
    ·subst e3
     rw[get2_j (by omega),hSS]
     exact col_left g hp5 (by omega) (by omega) (.inr rfl) cb
    ·rw[get2_o e2 e3 (by omega) (by omega)]
     exact col_other g (by omega) (by omega) e1 e2 e3 (hcol i e1)
  ·have e2:i=N+s.st.length:=by omega
   subst e2
   rw[getD_app_r (by rw[cl2];exact Nat.le_refl _),cl2,Nat.sub_self,hSS]
   exact col_new g hp5 (by omega) (by omega)
 ·rw[est]
  exact (wv11.put_ty g7c (by simp)).mlo (by omega)
end Go.Proofs.Ytapafdpnmakekaa.X

set_option linter.unusedVariables false
set_option linter.unusedSimpArgs false
set_option maxRecDepth 20000
set_option maxHeartbeats 4000000
namespace Go.Proofs.Ytapafdpnmakekaa.X
open Go Go.RowKit
def lsF (x:Sch) (i n:Nat):List (List Int):=x.ps.map fun q=>(seg q i).take n
theorem lsF_len {x:Sch} {i n:Nat}:(lsF x i n).length=x.ps.length:=by simp[lsF]
theorem lsF_get {x:Sch} {i n j:Nat} (hj:j<x.ps.length):(lsF x i n).getD j []=(seg (x.ps.getD j []) i).take n:=by
 simp[lsF,List.getD_eq_getElem?_getD,List.getElem?_map,List.getElem?_eq_getElem hj]
def fmX (x:Sch) (i:Nat):List (List Int):=if i=2 then trL (lsF x 2 (x.n*x.k).toNat) (x.n*x.k).toNat else lsF x i (pl x i).toNat
def nuX (x:Sch) (i:Nat):Int:=if i=2 then x.ps.length else pl x i
def pgO (p n:Int) (rows:List (List Int)) (b:Bool):Prg:=if b=true then shP p n rows else finP ⟨p,n,[],[]⟩ rows rows.length
def pgX (x:Sch) (b:Bool) (i:Nat):Prg:=pgO x.p (nuX x i) (fmX x i) b
theorem seg_in {x:Sch} {q:List Int} {i j:Nat} (hq:By 27 q) (ho:okProd x q=true) (hi:i<3) (hj:j<9):0≤(seg q i).getD j 0∧(seg q i).getD j 0<x.p:=by
 have hb:=(hq.seg hi).2 j hj
 have hf:okForm x.p (pl x i) (seg q i)=true:=by
  unfold okProd at ho
  simp only[Bool.and_eq_true] at ho
  have:i=0∨i=1∨i=2:=by omega
  rcases this with rfl|rfl|rfl
  ·exact ho.1.1.1
  ·exact ho.1.1.2
  ·exact ho.1.2
 unfold okForm at hf
 rw[List.all_eq_true] at hf
 have:=hf j (List.mem_range.2 hj)
 unfold okAt at this
 rw[decide_eq_true_eq] at this
 exact⟨hb.1,this.1⟩
theorem isX_facts {x:Sch} (h:isX x=true):SZ x∧isP x.p=true∧x.ps.length≤30∧∀ j,j<x.ps.length→okProd x (x.ps.getD j [])=true:=by
 unfold isX at h
 simp only[Bool.and_eq_true,decide_eq_true_eq] at h
 obtain⟨⟨h1,h2⟩,h3⟩:=h
 refine⟨szX_facts h1,?_,h2,fun j hj=>?_⟩
 ·unfold szX at h1
  simp only[Bool.and_eq_true] at h1
  exact h1.1.1.1
 ·rw[List.all_eq_true] at h3
  refine h3 _ ?_
  rw[List.getD_eq_getElem?_getD,List.getElem?_eq_getElem hj]
  exact List.getElem_mem hj
theorem take_getD {l:List Int} {n j:Nat} (h:j<n):(l.take n).getD j 0=l.getD j 0:=by
 rw[List.getD_eq_getElem?_getD,List.getElem?_take,if_pos h,←List.getD_eq_getElem?_getD]
theorem fmX_ok {x:Sch} {h:AH} {v:Value} (hv:Prods h v x.ps) (hx:isX x=true) (h0:1≤x.ps.length) {i:Nat} (hi:i<3):lsOK x.p (nuX x i) (fmX x i)=true:=by
 obtain⟨z,hp,hl,ho⟩:=isX_facts hx
 have zn:=z.nm
 have zm:=z.mk2
 have zk:=z.nk
 have hpl:1≤pl x i∧pl x i≤9:=by
  have:i=0∨i=1∨i=2:=by omega
  rcases this with rfl|rfl|rfl<;>simp[pl]<;>omega
 refine lsOK_iff.2 ⟨hp,?_,?_,?_⟩
 ·unfold nuX
  split
  ·omega
  ·omega
 ·unfold fmX
  split
  ·rw[trL_len]
   omega
  ·rw[lsF_len]
   omega
 ·refine isMat_iff.2 fun j hj=>?_
  by_cases h2:i=2
  ·subst h2
   rw[show fmX x 2=trL (lsF x 2 (x.n*x.k).toNat) (x.n*x.k).toNat from rfl] at hj ⊢
   rw[show nuX x 2=(x.ps.length:Int) from rfl]
   rw[trL_len] at hj
   rw[trL_get hj,gen_len,lsF_len]
   refine⟨rfl,allIn_iff.2 fun c hc=>?_⟩
   rw[gen_len] at hc
   rw[gen_get hc,lsF_get hc,take_getD hj]
   exact seg_in (hv.by hc) (ho c hc) (by omega) (by omega)
  ·unfold fmX at hj ⊢
   unfold nuX
   rw[if_neg h2] at hj
   rw[if_neg h2,if_neg h2]
   rw[lsF_len] at hj
   rw[lsF_get hj]
   have sl:=((hv.by hj).seg hi).1
   refine⟨by rw[List.length_take,sl];omega,allIn_iff.2 fun c hc=>?_⟩
   rw[List.length_take,sl] at hc
   rw[take_getD (by omega)]
   exact seg_in (hv.by hj) (ho j hj) hi (by omega)
theorem wrap8_in {x:Int} (h0:0≤x) (h1:x≤255):IntKind.u8.wrap x=x:=by
 simp only[IntKind.wrap]
 have:IntKind.u8.bits=8:=rfl
 rw[this,show IntKind.u8.signed=false from rfl,Bool.false_and,if_neg (by decide)]
 omega
theorem By.set {w:Nat} {q:List Int} {j:Nat} {x:Int} (hq:By w q) (hx:0≤x∧x≤255) (hj:j<w):By w (q.set j x):=by
 refine⟨by rw[List.length_set];exact hq.1,fun i hi=>?_⟩
 rw[set_getD (by rw[hq.1];exact hj)]
 split
 ·exact hx
 ·exact hq.2 i hi
theorem Kp.len {n:Nat} {h h':AH} (k:Kp n h h'):h.length≤h'.length:=k.1
theorem isX_sz {x:Sch} (h:isX x=true):SZ x∧x.ps.length≤30:=by
 unfold isX at h
 simp only[Bool.and_eq_true,decide_eq_true_eq] at h
 exact⟨szX_facts h.1.1,h.1.2⟩
end Go.Proofs.Ytapafdpnmakekaa.X

set_option linter.unusedVariables false
set_option linter.unusedSimpArgs false
set_option maxRecDepth 20000
set_option maxHeartbeats 4000000
namespace Go.Proofs.Ytapafdpnmakekaa.X
open Go Go.RowKit
open Nat (reduceEqDiff reduceAdd reduceSub reduceLeDiff)
def smT (g:Nat→Int):Nat→Int
 | 0=>0
 | n+1=>smT g n+g n
theorem smT_in {g:Nat→Int} {b:Int}:∀ {n:Nat},(∀ j,j<n→0≤g j∧g j≤b)→0≤smT g n∧smT g n≤b*n
 | 0,_=>by simp[smT]
 | n+1,h=>by
  have h1:=smT_in (n:=n) (fun j hj=>h j (by omega))
  have h2:=h n (by omega)
  simp only[smT]
  rw[show ((n+1:Nat):Int)=(n:Int)+1 by omega,Int.mul_add,Int.mul_one]
  omega
def tm (q:List Int) (a b c:Nat):Int:=q.getD a 0*q.getD (9+b) 0*q.getD (18+c) 0
def lsS (L:List (List Int)) (a b c i:Nat):Int:=smT (fun j=>tm (L.getD j []) a b c) i
def lsX (x:Sch) (a b c:Nat):Int:=(lsS x.ps a b c x.ps.length).tmod x.p
theorem tm_in {q:List Int} (hq:By 27 q) {a b c:Nat} (ha:a<9) (hb:b<9) (hc:c<9):(0≤q.getD a 0*q.getD (9+b) 0∧q.getD a 0*q.getD (9+b) 0≤65025)∧0≤tm q a b c∧tm q a b c≤16581375:=by
 have h1:=hq.2 a (by omega)
 have h2:=hq.2 (9+b) (by omega)
 have h3:=hq.2 (18+c) (by omega)
 have m1:=mul_in (A:=255) (B:=255) h1 h2
 exact⟨m1,mul_in (A:=65025) (B:=255) m1 h3⟩
theorem i_leftSide {v:Value} {x:Sch} {a b c:Nat} {h:AH} {Q:Value→AH→Prop} (hv:Prods h v x.ps) (z:SZ x) (hl:x.ps.length≤30) (ha:a<9) (hb:b<9) (hc:c<9)
  (hQ:∀ h',h<+:h'→Q (I64 (lsX x a b c)) h'):WF S 218 [schV x v,I64 a,I64 b,I64 c] h Q:=by
 refine WF_fn (fn:=c218) rfl rfl ?_
 dsimp only[c218,oO,oM,oS,oG,oK,oE,oL,oF,oX,oN]
 have zp:=z.p
 try simp (maxSteps:=3000000) (disch:=first|omega|simp only[lnx];omega) only[↓xpre,xpost,↓reduceIte,reduceEqDiff,reduceAdd,reduceSub,reduceLeDiff,zz0,schV,hv.one]
 generalize hH1:AH.new h _=H1
 obtain⟨hb1,p1,n1⟩:=new_facts hH1
 try simp (maxSteps:=3000000) (disch:=first|omega|simp only[lnx];omega) only[↓xpre,xpost,↓reduceIte,reduceEqDiff,reduceAdd,reduceSub,reduceLeDiff,zz0,rd1_of hb1,(hv.pre p1).1.len]
 refine WC_loop_inv (fun m f K1=>∃ (i:Nat),m=x.ps.length-i∧i≤x.ps.length∧f 1=I64 a∧f 2=I64 b∧f 3=I64 c∧f 4=.pointer (some ⟨h.length,0,none⟩)∧f 9=I64 (lsS x.ps a b c i)∧f 13=v∧f 14=I64 x.ps.length∧f 15=I64 i∧(H1<+:K1)) ?_ (x.ps.length-0) _ _ ⟨0,rfl,by omega,(by first|rfl|simp[upd_apply]),(by first|rfl|simp[upd_apply]),(by first|rfl|simp[upd_apply]),(by first|rfl|simp[upd_apply]),(by first|rfl|simp[upd_apply]),(by first|rfl|simp[upd_apply]),(by first|rfl|simp[upd_apply]),(by first|rfl|simp[upd_apply]),List.prefix_refl _⟩
 rintro m f K1 ⟨i,rfl,hi,f1,f2,f3,f4,f9,f13,f14,f15,pp⟩
 have hbK:=pre_get pp hb1
 have hvK:=hv.pre (p1.trans pp)
 by_cases hlt:(i:Int)<x.ps.length
 ·have hi':i<x.ps.length:=by omega
  obtain⟨n,off,hix,hrn,hr1⟩:=hvK.1.at hi'
  have r27:=hrn 0 27 (by omega)
  have wi:=hvK.1.wid hi'
  rw[List.drop_zero,List.take_of_length_le (by omega),Nat.add_zero] at r27
  have byq:=hvK.by hi'
  have bs:=smT_in (g:=fun j=>tm (x.ps.getD j []) a b c) (b:=16581375) (n:=i) (fun j hj=>(tm_in (hv.by (by omega)) ha hb hc).2)
  have es:lsS x.ps a b c (i+1)=lsS x.ps a b c i+tm (x.ps.getD i []) a b c:=rfl
  have bs':0≤lsS x.ps a b c i∧lsS x.ps a b c i≤497441250:=⟨bs.1,by have:=bs.2;show smT _ i≤_;omega⟩
  generalize hq:x.ps.getD i []=q at *
  have w1:∀ (h1:AH) (e:TypeId),(h1.new ⟨[.int .u8 0,.int .u8 0,.int .u8 0,.int .u8 0,.int .u8 0,.int .u8 0,.int .u8 0,.int .u8 0,.int .u8 0,.int .u8 0,.int .u8 0,.int .u8 0,.int .u8 0,.int .u8 0,.int .u8 0,.int .u8 0,.int .u8 0,.int .u8 0,.int .u8 0,.int .u8 0,.int .u8 0,.int .u8 0,.int .u8 0,.int .u8 0,.int .u8 0,.int .u8 0,.int .u8 0],e,false,true⟩).wr h1.length 0 (cel .u8 q)=some (h1.new ⟨cel .u8 q,e,false,true⟩):=fun h1 e=>wr_all (by rw[cel_len,wi];rfl)
  have ga:=cel_get (k:=.u8) (q:=q) (j:=a) (by omega)
  have gb:=cel_get (k:=.u8) (q:=q) (j:=9+b) (by omega)
  have gc:=cel_get (k:=.u8) (q:=q) (j:=18+c) (by omega)
  have ba:=byq.2 a (by omega)
  have bb:=byq.2 (9+b) (by omega)
  have bc:=byq.2 (18+c) (by omega)
  have bt:=tm_in byq ha hb hc
  have et:q.getD a 0*q.getD (9+b) 0*q.getD (18+c) 0=tm q a b c:=rfl
  try simp (maxSteps:=3000000) (disch:=first|omega|simp only[lnx];omega) only[↓xpre,xpost,↓reduceIte,reduceEqDiff,reduceAdd,reduceSub,reduceLeDiff,zz0,f1,f2,f3,f4,f9,f13,f14,f15,decide_eq_true hlt,hix,r27,cel_all,cel_len,wi,↓w1,↓WX_ixa,ixaV_ptr,Int.toNat_natCast,Nat.mul_one,ga,gb,gc,wrap64_in,et]
  refine InvQ_go (x.ps.length-(i+1)) (by omega) ⟨(i+1),rfl,by omega,(by first|rfl|exact f1|(simp only[upd_apply];rfl)|(show I64 _=_;congr 1;omega)),(by first|rfl|exact f2|(simp only[upd_apply];rfl)|(show I64 _=_;congr 1;omega)),(by first|rfl|exact f3|(simp only[upd_apply];rfl)|(show I64 _=_;congr 1;omega)),(by first|rfl|exact f4|(simp only[upd_apply];rfl)|(show I64 _=_;congr 1;omega)),(by show I64 _=I64 _;rw[es]),(by first|rfl|exact f13|(simp only[upd_apply];rfl)|(show I64 _=_;congr 1;omega)),(by first|rfl|exact f14|(simp only[upd_apply];rfl)|(show I64 _=_;congr 1;omega)),(by first|rfl|exact f15|(simp only[upd_apply];rfl)|(show I64 _=_;congr 1;omega)),(pp.trans (pre_new (List.prefix_refl _)))⟩
 ·have ei:i=x.ps.length:=by omega
  subst ei
  try simp (maxSteps:=3000000) (disch:=first|omega|simp only[lnx];omega) only[↓xpre,xpost,↓reduceIte,reduceEqDiff,reduceAdd,reduceSub,reduceLeDiff,zz0,f1,f2,f3,f4,f9,f13,f14,f15,rd1_of hbK,decide_eq_false hlt,bin_rem]
  exact hQ _ (p1.trans pp)
def lsN (x:Sch) (a b c:Int):Int:=lsX x a.toNat b.toNat c.toNat
def tofX (x:Sch):Ten:=tenT x.p (x.n*x.m) (x.m*x.k) (x.n*x.k) (lsN x)
theorem i_tensorOf1 {v:Value} {x:Sch} {n:Nat} {e:TypeId} {ro full:Bool} {h0:AH} (hv:Prods h0 v x.ps) (z:SZ x) (hl:x.ps.length≤30) (hb:h0.get n=some ⟨[I64 x.p,I64 x.n,I64 x.m,I64 x.k,v],e,ro,full⟩) :
  Tells S h0 (.func (.func 284) #[] #[.pointer (some ⟨n,0,none⟩)]) (x.n*x.m) (x.m*x.k) (x.n*x.k) (lsN x):=by
 intro a b c ha hb' hc h1 hp Q hQ
 rw[WK_func]
 have zi:=z.nm
 have zj:=z.mk2
 have zk:=z.nk
 obtain⟨A,rfl⟩:∃ A:Nat,a=A:=⟨a.toNat,by omega⟩
 obtain⟨B,rfl⟩:∃ B:Nat,b=B:=⟨b.toNat,by omega⟩
 obtain⟨C,rfl⟩:∃ C:Nat,c=C:=⟨c.toNat,by omega⟩
 have hb1:=pre_get hp hb
 refine WF_fn (fn:=c284) rfl rfl ?_
 dsimp only[c284,oO,oM,oS,oG,oK,oE,oL,oF,oX,oN]
 try simp (maxSteps:=3000000) (disch:=first|omega|simp only[lnx];omega) only[↓xpre,xpost,↓reduceIte,reduceEqDiff,reduceAdd,reduceSub,reduceLeDiff,zz0,rdn_of hb1]
 refine i_leftSide (hv.pre hp) z hl (by omega) (by omega) (by omega) fun h2 p2=>?_
 try simp (maxSteps:=3000000) (disch:=first|omega|simp only[lnx];omega) only[↓xpre,xpost,↓reduceIte,reduceEqDiff,reduceAdd,reduceSub,reduceLeDiff,zz0]
 have:=hQ h2 p2
 unfold lsN at this
 rw[Int.toNat_natCast,Int.toNat_natCast,Int.toNat_natCast] at this
 exact this
theorem i_tensorOf {v:Value} {x:Sch} {h:AH} {Q:Value→AH→Prop} (hv:Prods h v x.ps) (z:SZ x) (hl:x.ps.length≤30)
  (hQ:∀ v' h',h<+:h'→OwnR h h' v' (tofX x).ns→Q (tenV (tofX x) v') h'):WF S 161 [schV x v] h Q:=by
 refine WF_fn (fn:=c161) rfl rfl ?_
 dsimp only[c161,oO,oM,oS,oG,oK,oE,oL,oF,oX,oN]
 try simp (maxSteps:=3000000) (disch:=first|omega|simp only[lnx];omega) only[↓xpre,xpost,↓reduceIte,reduceEqDiff,reduceAdd,reduceSub,reduceLeDiff,zz0,schV,hv.one]
 generalize hH1:AH.new h _=H1
 obtain⟨hb1,p1,n1⟩:=new_facts hH1
 generalize hH2:AH.new H1 _=H2
 obtain⟨hb2,p2,n2⟩:=new_facts hH2
 have hb1:=pre_get p2 hb1
 try simp (maxSteps:=3000000) (disch:=first|omega|simp only[lnx];omega) only[↓xpre,xpost,↓reduceIte,reduceEqDiff,reduceAdd,reduceSub,reduceLeDiff,zz0,rdn_of hb1]
 refine i_placesOf hv.one z fun H3 p3=>?_
 have hb1:=pre_get p3 hb1
 have hb2:=pre_get p3 hb2
 have ix0:∀ n:Nat,ixaV 3 1 (.pointer (some ⟨n,0,none⟩)) (I64 0)=some (.pointer (some ⟨n,0,none⟩)):=fun n=>rfl
 have ix1:∀ n:Nat,ixaV 3 1 (.pointer (some ⟨n,0,none⟩)) (I64 1)=some (.pointer (some ⟨n,1,none⟩)):=fun n=>rfl
 have ix2:∀ n:Nat,ixaV 3 1 (.pointer (some ⟨n,0,none⟩)) (I64 2)=some (.pointer (some ⟨n,2,none⟩)):=fun n=>rfl
 have lt1:=get_lt hb1
 try simp (maxSteps:=3000000) (disch:=first|omega|simp only[lnx];omega) only[↓xpre,xpost,↓reduceIte,reduceEqDiff,reduceAdd,reduceSub,reduceLeDiff,zz0,↓WX_ixa,ix0,ix1,ix2,rd1_of hb1]
 generalize hH4:AH.new H3 _=H4
 obtain⟨hb4,p4,n4⟩:=new_facts hH4
 have hb1:=pre_get p4 hb1
 have hb2:=pre_get p4 hb2
 have zi:=z.nm
 have zj:=z.mk2
 have zk:=z.nk
 have zp:=z.p
 refine i_tensor (num:=lsN x) (by omega) zi zj zk (i_tensorOf1 (hv.pre ((p1.trans p2).trans (p3.trans p4))) z hl hb1) fun v' H5 p5 o=>?_
 have hb2:=pre_get p5 hb2
 have lt2:=get_lt hb2
 try simp (maxSteps:=3000000) (disch:=first|omega|simp only[lnx];omega) only[↓xpre,xpost,↓reduceIte,reduceEqDiff,reduceAdd,reduceSub,reduceLeDiff,zz0,tenV,o.ints.one,wr_of hb2]
 have l3:=pre_len p3
 exact hQ v' _ (pre_put (((p1.trans p2).trans (p3.trans p4)).trans p5) (show h.length≤H1.length by omega)) ((o.put_ne (by omega)).lo (by omega))
def tsR (x:Sch):Ten×Int:=if isX x=true then (tofX x,0) else (noT,1)
theorem tofX_small {x:Sch} (z:SZ x):SmallS (tofX x).ns:=by
 have ij:=mul_in1 (A:=9) (B:=9) z.nm z.mk2
 have ijk:=mul_in1 (A:=81) (B:=9) ij z.nk
 unfold SmallS tofX tenT
 rw[gen_len]
 omega
theorem i_TensorOfScheme {v:Value} {x:Sch} {h:AH} {Q:Value→AH→Prop} (hv:Prods h v x.ps) (hl:SmallX x.ps)
  (hQ:∀ v' h',h<+:h'→OwnR h h' v' (tsR x).1.ns→Q (.tuple #[tenV (tsR x).1 v',I64 (tsR x).2]) h'):WF S 19 [schV x v] h Q:=by
 refine WF_fn (fn:=c19) rfl rfl ?_
 dsimp only[c19,oO,oM,oS,oG,oK,oE,oL,oF,oX,oN]
 try simp (maxSteps:=3000000) (disch:=first|omega|simp only[lnx];omega) only[↓xpre,xpost,↓reduceIte,reduceEqDiff,reduceAdd,reduceSub,reduceLeDiff,zz0,schV,hv.one]
 generalize hH1:AH.new h _=H1
 obtain⟨hb1,p1,n1⟩:=new_facts hH1
 generalize hH2:AH.new H1 _=H2
 obtain⟨hb2,p2,n2⟩:=new_facts hH2
 have hb1:=pre_get p2 hb1
 try simp (maxSteps:=3000000) (disch:=first|omega|simp only[lnx];omega) only[↓xpre,xpost,↓reduceIte,reduceEqDiff,reduceAdd,reduceSub,reduceLeDiff,zz0,rdn_of hb1]
 refine i_IsScheme (hv.pre (p1.trans p2)) hl fun H3 p3=>?_
 have hb1:=pre_get p3 hb1
 have hb2:=pre_get p3 hb2
 have l3:=get_lt hb2
 unfold tsR at hQ
 cases ht:isX x with
 | false=>
  rw[ht,if_neg (by decide)] at hQ
  try simp (maxSteps:=3000000) (disch:=first|omega|simp only[lnx];omega) only[↓xpre,xpost,↓reduceIte,reduceEqDiff,reduceAdd,reduceSub,reduceLeDiff,zz0,fillL,wr_of hb2]
  exact hQ (.slice none 0 0) _ (pre_put ((p1.trans p2).trans p3) (by omega)) (.inl ⟨rfl,rfl⟩)
 | true=>
  rw[ht,if_pos rfl] at hQ
  try simp (maxSteps:=3000000) (disch:=first|omega|simp only[lnx];omega) only[↓xpre,xpost,↓reduceIte,reduceEqDiff,reduceAdd,reduceSub,reduceLeDiff,zz0,rdn_of hb1]
  refine i_tensorOf (hv.pre ((p1.trans p2).trans p3)) (isX_sz ht).1 (isX_sz ht).2 fun v' H4 p4 o=>?_
  have hb2:=pre_get p4 hb2
  have l4:=get_lt hb2
  try simp (maxSteps:=3000000) (disch:=first|omega|simp only[lnx];omega) only[↓xpre,xpost,↓reduceIte,reduceEqDiff,reduceAdd,reduceSub,reduceLeDiff,zz0,tenV,o.ints.one,wr_of hb2]
  exact hQ v' _ (pre_put (((p1.trans p2).trans p3).trans p4) (by omega)) ((o.put_ne (by have:=pre_len p3;omega)).lo (by have:=pre_len p3;omega))
end Go.Proofs.Ytapafdpnmakekaa.X

set_option linter.unusedVariables false
set_option linter.unusedSimpArgs false
set_option maxRecDepth 20000
set_option maxHeartbeats 4000000
namespace Go.Proofs.Ytapafdpnmakekaa.X
open Go Go.RowKit
def o9:List Int:=List.replicate 9 0
theorem splice_27 {q:List Int} (hq:q.length=27):splice [.int .u8 0,.int .u8 0,.int .u8 0,.int .u8 0,.int .u8 0,.int .u8 0,.int .u8 0,.int .u8 0,.int .u8 0,.int .u8 0,.int .u8 0,.int .u8 0,.int .u8 0,.int .u8 0,.int .u8 0,.int .u8 0,.int .u8 0,.int .u8 0,.int .u8 0,.int .u8 0,.int .u8 0,.int .u8 0,.int .u8 0,.int .u8 0,.int .u8 0,.int .u8 0,.int .u8 0] 0 (cel .u8 q)=cel .u8 q:=by
 rw[splice_eq,cel_len,hq]
 simp
theorem splice_lenW {c vs:List Value} {off:Nat} (h:off+vs.length≤c.length):(splice c off vs).length=c.length:=by
 rw[splice_eq]
 simp
 omega
theorem sp27 {a b c:List Int} (ha:a.length=9) (hb:b.length=9) (hc:c.length=9) :
  (splice (cel .u8 (List.replicate 27 0)) 0 (cel .u8 a)).length=27∧(splice (splice (cel .u8 (List.replicate 27 0)) 0 (cel .u8 a)) 9 (cel .u8 b)).length=27 ∧
  splice (splice (splice (cel .u8 (List.replicate 27 0)) 0 (cel .u8 a)) 9 (cel .u8 b)) 18 (cel .u8 c)=cel .u8 (a++b++c):=by
 have l27:(cel .u8 (List.replicate 27 0)).length=27:=rfl
 have s1:(splice (cel .u8 (List.replicate 27 0)) 0 (cel .u8 a)).length=27:=by rw[splice_lenW (by rw[cel_len,ha,l27];omega),l27]
 have s2:(splice (splice (cel .u8 (List.replicate 27 0)) 0 (cel .u8 a)) 9 (cel .u8 b)).length=27:=by rw[splice_lenW (by rw[cel_len,hb,s1];omega),s1]
 refine⟨s1,s2,?_⟩
 rw[cel_splice,cel_splice,cel_splice]
 congr 1
 have h0:(List.replicate 27 (0:Int)).length=27:=rfl
 generalize List.replicate 27 (0:Int)=o at h0
 simp[List.take_append,List.drop_append,ha,hb,hc,h0,List.take_of_length_le,List.drop_of_length_le]
section
variable {a b c:List Int}
end
theorem app_zeroW {e:TypeId} {w bytes:Nat} {h:AH} {k n' off m:Nat} {news:List Value} {full:Bool} (hk:h.get k=some ⟨[],e,false,full⟩) (hn:h.rdn n' off (m*w)=some news) (hm:0<m)
  (hs:(m:Int)*bytes≤140737488355328∧(m:Int)≤9223372036854775807) :
  appV e w bytes (.slice (some ⟨k,0,none⟩) 0 w) (.slice (some ⟨n',off,none⟩) m w) h=some (.slice (some ⟨h.length,0,none⟩) m w,(h.kill k).new ⟨news,e,false,false⟩):=by
 simp only[appV,xop,ev,if_true,hn,hk]
 rw[if_pos (by simpa using hs),if_neg (by omega)]
 simp
section
variable {n m:Nat} {h0 h h' h'':AH}
end
theorem app_kp {e:TypeId} {k:IntKind} {w bytes nb:Nat} {L:List (List Int)} {q:List Int} {full ro fu:Bool} {H:AH} {e':TypeId} (hk:H.get nb=some ⟨cel k L.flatten,e,false,full⟩) (hw:Wid w L) (hq:q.length=w)
  (hl:((L.length:Int)+1)*bytes≤140737488355328) (hn:(L.length:Int)<1048576) {Q:Value→AH→Prop}
  (hQ:∀ H':AH,H'.length=H.length+2→Kp nb H H'→H'.get (H.length+1)=some ⟨cel k (L++[q]).flatten,e,false,false⟩→Wid w (L++[q])→Q (.slice (some ⟨H.length+1,0,none⟩) (L.length+1) w) H') :
  OQ (appV e w bytes (.slice (some ⟨nb,0,none⟩) L.length w) (.slice (some ⟨H.length,0,none⟩) 1 w) (H.new ⟨cel k q,e',ro,fu⟩)) Q:=by
 have hr:(H.new ⟨cel k q,e',ro,fu⟩).rdn H.length 0 w=some (cel k q):=by
  rw[rdn_of get_new_same]
  simp only
  rw[if_pos (by rw[cel_len,hq];omega),List.drop_zero,List.take_of_length_le (by rw[cel_len,hq];omega)]
 have hk':(H.new ⟨cel k q,e',ro,fu⟩).get nb=some ⟨cel k L.flatten,e,false,full⟩:=get_new_any hk
 have hkb:=get_lt hk
 rw[app_ownW hk' (by rw[cel_len,flat_len hw]) hr ⟨hl,by omega⟩,OQ_some,len_new]
 refine hQ _ (by rw[len_new,len_kill,len_new]) ⟨by rw[len_new,len_kill,len_new];omega,fun j hj hne=>?_⟩ ?_ ?_
 ·have e1:(((H.new ⟨cel k q,e',ro,fu⟩).kill nb).new ⟨cel k L.flatten++cel k q,e,false,false⟩).get j=((H.new ⟨cel k q,e',ro,fu⟩).kill nb).get j:=prefix_get (pre_new (List.prefix_refl _)) (by rw[len_kill,len_new];omega)
  rw[e1,get_kill_ne (Ne.symm hne)]
  exact prefix_get (pre_new (List.prefix_refl _)) hj
 ·rw[get_new_eq (by rw[len_kill,len_new])]
  simp[cel_app]
 ·intro r hr
  rcases List.mem_append.1 hr with hr|hr
  ·exact hw r hr
  ·rw[List.mem_singleton.1 hr,hq]
theorem InE.kN {k:IntKind} {w a b lo:Nat} {h:AH} {v:Value} {L:List (List Int)} (o:InE k w a b h v L) (hn:lo≤a):KN lo h fun h'=>Els k w h' v L:=by
 intro h' l g
 rcases o with⟨rfl,rfl⟩|⟨m,e,full,h1,rfl,h2,h3⟩
 ·exact .inl ⟨rfl,0,by omega,rfl⟩
 ·exact InE.rd (.inr ⟨m,e,full,h1,rfl,by rw[g m (by omega) (get_lt h2)];exact h2,h3⟩)
theorem blk_kN {k:IntKind} {w lo m:Nat} {h:AH} {L:List (List Int)} {e:TypeId} {full:Bool} (hg:h.get m=some ⟨cel k L.flatten,e,false,full⟩) (hw:Wid w L) (hn:lo≤m):KN lo h fun h'=>Els k w h' (.slice (some ⟨m,0,none⟩) L.length w) L:=
 fun h' l g=>InE.rd (.inr ⟨m,e,full,⟨Nat.le_refl _,Nat.lt_succ_self _⟩,rfl,by rw[g m hn (get_lt hg)];exact hg,hw⟩)
def NK (v:Value):Prop:=(v=.slice none 0 0∨v=.slice none 0 3)∨∃ b n w,v=.slice (some ⟨b,0,none⟩) n w
theorem InE.nk {k:IntKind} {w a b:Nat} {h:AH} {v:Value} {L:List (List Int)} (o:InE k w a b h v L):NK v:=by
 rcases o with⟨rfl,_⟩|⟨m,e,full,_,rfl,_⟩
 ·exact .inl (.inl rfl)
 ·exact .inr ⟨_,_,_,rfl⟩
theorem zrep27:zrep 1 [.int .u8 0,.int .u8 0,.int .u8 0,.int .u8 0,.int .u8 0,.int .u8 0,.int .u8 0,.int .u8 0,.int .u8 0,.int .u8 0,.int .u8 0,.int .u8 0,.int .u8 0,.int .u8 0,.int .u8 0,.int .u8 0,.int .u8 0,.int .u8 0,.int .u8 0,.int .u8 0,.int .u8 0,.int .u8 0,.int .u8 0,.int .u8 0,.int .u8 0,.int .u8 0,.int .u8 0]=cel .u8 (List.replicate 27 0):=rfl
theorem sp27z {q:List Int} (hq:q.length=27):splice (cel .u8 (List.replicate 27 0)) 0 (cel .u8 q)=cel .u8 q:=splice_27 hq
end Go.Proofs.Ytapafdpnmakekaa.X

set_option linter.unusedVariables false
set_option linter.unusedSimpArgs false
set_option maxRecDepth 20000
set_option maxHeartbeats 4000000
namespace Go.Proofs.Ytapafdpnmakekaa.X
def sm:Nat→(Nat→Int)→Int
 | 0,_=>0
 | n+1,f=>sm n f+f n
theorem sm_ext {f g:Nat→Int}:∀ {n:Nat},(∀ i,i<n→f i=g i)→sm n f=sm n g
 | 0,_=>rfl
 | n+1,h=>by rw[sm,sm,sm_ext (fun i hi=>h i (by omega)),h n (by omega)]
theorem sm_zero {n:Nat}:sm n (fun _=>0)=0:=by
 induction n with
 | zero=>rfl
 | succ n ih=>rw[sm,ih];rfl
theorem sm_zero' {f:Nat→Int} {n:Nat} (h:∀ i,i<n→f i=0):sm n f=0:=by rw[sm_ext h,sm_zero]
theorem sm_add {f g:Nat→Int} {n:Nat}:sm n (fun i=>f i+g i)=sm n f+sm n g:=by
 induction n with
 | zero=>rfl
 | succ n ih=>simp only[sm,ih];omega
theorem sm_mul {f:Nat→Int} {c:Int} {n:Nat}:sm n (fun i=>c*f i)=c*sm n f:=by
 induction n with
 | zero=>simp[sm]
 | succ n ih=>simp only[sm,ih,Int.mul_add]
theorem sm_mulr {f:Nat→Int} {c:Int} {n:Nat}:sm n (fun i=>f i*c)=sm n f*c:=by
 induction n with
 | zero=>simp[sm]
 | succ n ih=>simp only[sm,ih,Int.add_mul]
theorem sm_comm {f:Nat→Nat→Int} {n m:Nat}:sm n (fun i=>sm m (fun j=>f i j))=sm m (fun j=>sm n (fun i=>f i j)):=by
 induction n with
 | zero=>simp only[sm];exact sm_zero.symm
 | succ n ih=>simp only[sm,ih];rw[←sm_add]
theorem sm_split {f:Nat→Int} {n m:Nat}:sm (n+m) f=sm n f+sm m (fun i=>f (n+i)):=by
 induction m with
 | zero=>simp[sm]
 | succ m ih=>rw[←Nat.add_assoc,sm,ih,sm];omega
theorem sm_rows {f:Nat→Int} {n m:Nat}:sm (n*m) f=sm n (fun a=>sm m (fun b=>f (a*m+b))):=by
 induction n with
 | zero=>simp[sm]
 | succ n ih=>rw[Nat.succ_mul,sm_split,ih,sm]
theorem sm_delta {f:Nat→Int} {n a:Nat} (h:a<n):sm n (fun i=>if i=a then f i else 0)=f a:=by
 induction n with
 | zero=>omega
 | succ n ih=>
  rw[sm]
  by_cases e:a=n
  ·subst e
   rw[if_pos rfl,sm_zero' (fun i hi=>if_neg (by omega))]
   omega
  ·rw[ih (by omega),if_neg (by omega)]
   omega
def Cg (p a b:Int):Prop:=p∣a-b
theorem Cg.rfl' {p a:Int}:Cg p a a:=⟨0,by omega⟩
theorem Cg.of {p a b:Int} (h:a=b):Cg p a b:=by subst h;exact .rfl'
theorem Cg.symm {p a b:Int} (h:Cg p a b):Cg p b a:=by
 obtain⟨k,h⟩:=h
 exact⟨-k,by rw[Int.mul_neg];omega⟩
theorem Cg.trans {p a b c:Int} (h:Cg p a b) (g:Cg p b c):Cg p a c:=by
 obtain⟨k,h⟩:=h
 obtain⟨l,g⟩:=g
 exact⟨k+l,by rw[Int.mul_add];omega⟩
theorem Cg.add {p a b c d:Int} (h:Cg p a b) (g:Cg p c d):Cg p (a+c) (b+d):=by
 obtain⟨k,h⟩:=h
 obtain⟨l,g⟩:=g
 exact⟨k+l,by rw[Int.mul_add];omega⟩
theorem Cg.mul {p a b c d:Int} (h:Cg p a b) (g:Cg p c d):Cg p (a*c) (b*d):=by
 obtain⟨k,h⟩:=h
 obtain⟨l,g⟩:=g
 exact⟨k*c+b*l,by grind⟩
theorem Cg.sm {p:Int} {f g:Nat→Int}:∀ {n:Nat},(∀ i,i<n→Cg p (f i) (g i))→Cg p (sm n f) (sm n g)
 | 0,_=>.rfl'
 | n+1,h=>(Cg.sm fun i hi=>h i (by omega)).add (h n (by omega))
def Fld (p:Int):Prop:=2≤p∧∀ x,¬ p∣x→∃ w,Cg p (w*x) 1
def dl (a b:Nat):Int:=if a=b then 1 else 0
theorem dim_le {p:Int} (hp:Fld p):∀ (r s:Nat) (U V:Nat→Nat→Int),(∀ i j,i<s→j<s→Cg p (sm r fun k=>U i k*V k j) (dl i j))→s≤r
 | 0,0,U,V,h=>Nat.le_refl _
 | 0,s+1,U,V,h=>by
  have:=h 0 0 (by omega) (by omega)
  obtain⟨k,hk⟩:=this
  simp only[sm,dl,if_true] at hk
  have:p∣1:=⟨-k,by rw[Int.mul_neg];omega⟩
  have:=Int.le_of_dvd (by omega) this
  have:=hp.1
  omega
 | r+1,0,U,V,h=>by omega
 | r+1,s+1,U,V,h=>by
  -- a place where the last row is not 0
  have h1:∃ k,k<r+1∧¬ p∣U s k:=by
   refine Classical.byContradiction fun hn=>?_
   have hz:∀ k,k<r+1→p∣U s k:=fun k hk=>Classical.byContradiction fun hd=>hn ⟨k,hk,hd⟩
   have h2:=h s s (by omega) (by omega)
   have h3:Cg p (sm (r+1) fun k=>U s k*V k s) (sm (r+1) fun _=>0):=Cg.sm fun k hk=>by
    obtain⟨q,hq⟩:=hz k hk
    exact⟨q*V k s,by rw[hq,←Int.mul_assoc];omega⟩
   rw[sm_zero] at h3
   have h4:=h3.symm.trans h2
   obtain⟨k,hk⟩:=h4
   simp only[dl,if_true] at hk
   have h5:p∣1:=⟨-k,by rw[Int.mul_neg];omega⟩
   have:=Int.le_of_dvd (by omega) h5
   have:=hp.1
   omega
  obtain⟨k0,hk0,hd⟩:=h1
  obtain⟨w,hw⟩:=hp.2 _ hd
  -- the places without k0
  let nx:Nat→Nat:=fun k=>if k=k0 then r else k
  have hsum:∀ (f:Nat→Int),sm (r+1) f=sm r (fun k=>f (nx k))+f k0:=fun f=>by
   by_cases e:k0=r
   ·subst e
    rw[sm,sm_ext (f:=fun k=>f (nx k)) (g:=f) fun i hi=>by show f (if i=k0 then k0 else i)=f i;rw[if_neg (by omega)]]
   ·have e1:sm r (fun k=>f (nx k))=sm r f+sm r (fun k=>if k=k0 then f r-f k else 0):=by
     rw[←sm_add]
     refine sm_ext fun i hi=>?_
     show f (if i=k0 then r else i)=_
     by_cases e2:i=k0
     ·rw[if_pos e2,if_pos e2];omega
     ·rw[if_neg e2,if_neg e2];omega
    rw[e1,sm_delta (f:=fun k=>f r-f k) (by omega),sm]
    show _+f r=_+(f r-f k0)+f k0
    omega
  refine Nat.succ_le_succ (dim_le hp r s (fun i k=>U i (nx k)-U i k0*w*U s (nx k)) (fun k j=>V (nx k) j) fun i j hi hj=>?_)
  have a1:=h i j (by omega) (by omega)
  have a2:=h s j (by omega) (by omega)
  rw[hsum] at a1 a2
  have a3:sm r (fun k=>(U i (nx k)-U i k0*w*U s (nx k))*V (nx k) j)=sm r (fun k=>U i (nx k)*V (nx k) j)+(- (U i k0*w))*sm r (fun k=>U s (nx k)*V (nx k) j):=by
   rw[←sm_mul,←sm_add]
   exact sm_ext fun k hk=>by grind
  rw[a3]
  have e0:dl s j=0:=if_neg (by omega)
  rw[e0] at a2
  generalize sm r (fun k=>U i (nx k)*V (nx k) j)=x1 at *
  generalize sm r (fun k=>U s (nx k)*V (nx k) j)=x2 at *
  obtain⟨q1,a1⟩:=a1
  obtain⟨q2,a2⟩:=a2
  obtain⟨q3,hw⟩:=hw
  exact⟨q1-U i k0*w*q2+U i k0*V k0 j*q3,by grind⟩
structure Rk3 (p:Int) (T:Nat→Nat→Nat→Int) (I J K R:Nat):Prop where
 up:∃ (X:Nat→Nat→Int) (Y:Nat→Nat→Nat→Int),∀ i j k,i<I→j<J→k<K→Cg p (T i j k) (sm R fun r=>X i r*Y r j k)
 lo:∃ (P:Nat→Nat→Int) (Q:Nat→Nat→Nat→Int),∀ a b,a<R→b<R→Cg p (sm I fun i=>sm J fun j=>sm K fun k=>P a i*T i j k*Q j k b) (dl a b)
theorem Rk3.le {p:Int} {T:Nat→Nat→Nat→Int} {I J K R S:Nat} (hp:Fld p) (h:Rk3 p T I J K R) {X:Nat→Nat→Int} {Y:Nat→Nat→Nat→Int} (hu:∀ i j k,i<I→j<J→k<K→Cg p (T i j k) (sm S fun r=>X i r*Y r j k)):R≤S:=by
 obtain⟨_,⟨P,Q,hl⟩⟩:=h
 refine dim_le hp S R (fun a r=>sm I fun i=>P a i*X i r) (fun r b=>sm J fun j=>sm K fun k=>Y r j k*Q j k b) fun a b ha hb=>?_
 refine Cg.trans ?_ (hl a b ha hb)
 have h1:Cg p (sm I fun i=>sm J fun j=>sm K fun k=>P a i*T i j k*Q j k b) (sm I fun i=>sm J fun j=>sm K fun k=>P a i*(sm S fun r=>X i r*Y r j k)*Q j k b):=
  Cg.sm fun i hi=>Cg.sm fun j hj=>Cg.sm fun k hk=>(Cg.rfl'.mul (hu i j k hi hj hk)).mul .rfl'
 refine Cg.trans (.of ?_) h1.symm
 have h2:(sm I fun i=>sm J fun j=>sm K fun k=>P a i*(sm S fun r=>X i r*Y r j k)*Q j k b)=sm I fun i=>sm S fun r=>sm J fun j=>sm K fun k=>P a i*X i r*(Y r j k*Q j k b):=sm_ext fun i _=>by
  rw[sm_comm (n:=S)]
  refine sm_ext fun j _=>?_
  rw[sm_comm (n:=S)]
  refine sm_ext fun k _=>?_
  rw[←sm_mul,←sm_mulr]
  exact sm_ext fun r _=>by grind
 rw[h2,sm_comm (n:=I)]
 refine sm_ext fun r _=>?_
 rw[←sm_mulr]
 refine sm_ext fun i _=>?_
 rw[←sm_mul]
 refine sm_ext fun j _=>?_
 rw[←sm_mul]
theorem Rk3.add {p:Int} {T A B:Nat→Nat→Nat→Int} {c:Int} {I J K R a b:Nat} (hp:Fld p) (h:Rk3 p T I J K R) (hA:Rk3 p A I J K a) (hB:Rk3 p B I J K b) (e:∀ i j k,i<I→j<J→k<K→Cg p (T i j k) (A i j k+c*B i j k)):R≤a+b:=by
 obtain⟨X,Y,hu⟩:=hA.up
 obtain⟨X',Y',hu'⟩:=hB.up
 refine h.le hp (X:=fun i r=>if r<a then X i r else X' i (r-a)) (Y:=fun r j k=>if r<a then Y r j k else c*Y' (r-a) j k) fun i j k hi hj hk=>?_
 refine (e i j k hi hj hk).trans (((hu i j k hi hj hk).add (Cg.rfl'.mul (hu' i j k hi hj hk))).trans (.of ?_))
 rw[sm_split,←sm_mul]
 congr 1
 ·exact sm_ext fun r hr=>by rw[if_pos hr,if_pos hr]
 ·exact sm_ext fun r hr=>by rw[if_neg (by omega),if_neg (by omega),Nat.add_sub_cancel_left];grind
theorem dm {a b m:Nat} (h:b<m):(a*m+b) / m=a∧(a*m+b)%m=b:=by
 have hm:0<m:=by omega
 constructor
 ·rw[Nat.mul_comm,Nat.mul_add_div hm,Nat.div_eq_of_lt h];rfl
 ·rw[Nat.mul_comm,Nat.mul_add_mod,Nat.mod_eq_of_lt h]
theorem dm_of {x n m:Nat} (h:x<n*m):x / m<n∧x%m<m∧x=x / m*m+x%m:=by
 have hm:0<m:=by
  rcases Nat.eq_zero_or_pos m with e|e
  ·subst e;simp at h
  ·exact e
 exact⟨(Nat.div_lt_iff_lt_mul hm).2 h,Nat.mod_lt _ hm,by rw[Nat.mul_comm];exact (Nat.div_add_mod x m).symm⟩
end Go.Proofs.Ytapafdpnmakekaa.X

set_option linter.unusedVariables false
set_option linter.unusedSimpArgs false
set_option maxRecDepth 20000
set_option maxHeartbeats 4000000
namespace Go.Proofs.Ytapafdpnmakekaa.X
open Go Go.RowKit
theorem tmod_dvd (x p:Int):p∣x-x.tmod p:=⟨x.tdiv p,by have:=Int.mul_tdiv_add_tmod x p;omega⟩
theorem dvd_small {p x:Int} (h:p∣x) (h0:0≤x∧x<p):x=0:=by
 have:=Int.emod_eq_zero_of_dvd h
 rw[Int.emod_eq_of_lt h0.1 h0.2] at this
 exact this
theorem dvd_eq {p x y:Int} (h:p∣x-y) (hx:0≤x∧x<p) (hy:0≤y∧y<p):x=y:=by
 by_cases hxy:y≤x
 ·have:=dvd_small h ⟨by omega,by omega⟩
  omega
 ·have h2:p∣y-x:=by
   obtain⟨c,hc⟩:=h
   exact⟨-c,by rw[Int.mul_neg];omega⟩
  have:=dvd_small h2 ⟨by omega,by omega⟩
  omega
theorem md_dvd (p x:Int):p∣x-md p x:=by
 unfold md
 obtain⟨a,ha⟩:=tmod_dvd x p
 obtain⟨b,hb⟩:=tmod_dvd (x.tmod p+p) p
 exact⟨a+b-1,by grind⟩
theorem inv_dvd {p n w:Int} (h:IsInv p n w):∃ q,w*n=1+p*q:=by
 obtain⟨q,hq⟩:=tmod_dvd (w*n) p
 rw[h.2.2.1] at hq
 exact⟨q,by omega⟩
end Go.Proofs.Ytapafdpnmakekaa.X

set_option linter.unusedVariables false
set_option linter.unusedSimpArgs false
set_option maxRecDepth 20000
set_option maxHeartbeats 4000000
namespace Go.Proofs.Ytapafdpnmakekaa.X
end Go.Proofs.Ytapafdpnmakekaa.X

set_option linter.unusedVariables false
set_option linter.unusedSimpArgs false
set_option maxRecDepth 20000
set_option maxHeartbeats 4000000
namespace Go.Proofs.Ytapafdpnmakekaa.X
open Go Go.RowKit
theorem firstAt_spec {q:Nat→Bool}:∀ {m i:Nat},(firstAt q m i = -1∧∀ j,i≤j→j<i+m→q j=false)∨∃ r:Nat,firstAt q m i=r∧i≤r∧r<i+m∧q r=true
 | 0,i=>.inl ⟨rfl,fun j h1 h2=>by omega⟩
 | m+1,i=>by
  unfold firstAt
  by_cases h:q i=true
  ·rw[if_pos h]
   exact .inr ⟨i,rfl,Nat.le_refl _,by omega,h⟩
  ·rw[if_neg h]
   rcases firstAt_spec (q:=q) (m:=m) (i:=i+1) with⟨h1,h2⟩|⟨r,h1,h2,h3,h4⟩
   ·refine .inl ⟨h1,fun j h3 h4=>?_⟩
    by_cases e:j=i
    ·subst e
     simpa using h
    ·exact h2 j (by omega) (by omega)
   ·exact .inr ⟨r,h1,by omega,by omega,h4⟩
section
variable (t:Ten) (f e:Int)
end
structure KrS (t u s:Ten) (v w:Value) (h0 h:AH) (b5 nb:Nat) (l:List Int):Prop where
 hp:h0<+:h
 lo:h0.length+3≤nb∧nb<b5
 g1:OwnB h h0.length [I64 t.p,I64 t.i,I64 t.j,I64 t.k,v] true
 g2:OwnB h (h0.length+1) [I64 u.p,I64 u.i,I64 u.j,I64 u.k,w] true
 g3:∃ c,c.length=5∧OwnB h (h0.length+2) c true
 g5:OwnB h b5 [I64 s.p,I64 s.i,I64 s.j,I64 s.k,.slice (some ⟨nb,0,none⟩) (s.i*s.j*s.k).toNat 1] true
 gn:OwnB h nb (l.map (Value.int .i64)) true
theorem KrS.pre {t u s:Ten} {v w:Value} {h0 h h':AH} {b5 nb:Nat} {l:List Int} (a:KrS t u s v w h0 h b5 nb l) (p:h<+:h'):KrS t u s v w h0 h' b5 nb l:=by
 obtain⟨c,c1,c2⟩:=a.g3
 exact⟨a.hp.trans p,a.lo,a.g1.pre p,a.g2.pre p,⟨c,c1,c2.pre p⟩,a.g5.pre p,a.gn.pre p⟩
section
variable {t u:Ten}
end
structure Cod (h:AH) (cv:Value) (code:List (List Int)):Prop where
 els:Els .u8 1 h cv code
 byt:Byt 1 code
 len:code.length≤1000000
theorem Cod.pre {h h':AH} {cv:Value} {code:List (List Int)} (c:Cod h cv code) (p:h<+:h'):Cod h' cv code:=⟨c.els.pre p,c.byt,c.len⟩
theorem getq {l:List Value} {i:Nat} (hi:i<l.length):l[i]?=some (l.getD i undef):=by
 rw[List.getD_eq_getElem?_getD,List.getElem?_eq_getElem hi]
 rfl
structure RowD (lo:Nat) (H:AH) (kb:Nat) (fu:Bool) (rows:List (List Int)) (B:Nat→Nat) (cs:List Value):Prop where
 get:H.get kb=some ⟨cs,27,false,fu⟩
 len:cs.length=rows.length
 low:lo≤kb
 row:∀ i,i<rows.length→lo≤B i∧cs.getD i undef=sl (B i) (rows.getD i []).length∧(∃ f,Lst H (B i) (rows.getD i []) f)∧B i≠kb
 inc:∀ i j,i<j→j<rows.length→B i<B j
theorem RowD.rows {lo kb:Nat} {H:AH} {fu:Bool} {rows:List (List Int)} {B:Nat→Nat} {cs:List Value} (r:RowD lo H kb fu rows B cs):Rows H (sl kb rows.length) rows:=by
 refine⟨cs,.inr ⟨kb,0,_,by rw[r.len];rfl,r.get,by simp,fun i hi=>?_⟩,r.len,fun i hi=>?_⟩
 ·show cs[0+i]?=_
  rw[Nat.zero_add]
  exact getq hi
 ·obtain⟨h1,h2,⟨f,h3⟩,h4⟩:=r.row i hi
  rw[h2]
  exact h3.ints
theorem getD_snocD {α:Type} {l:List α} {x d:α} {j:Nat}:(l++[x]).getD j d=if j<l.length then l.getD j d else if j=l.length then x else d:=by
 rw[List.getD_eq_getElem?_getD,List.getD_eq_getElem?_getD]
 by_cases h:j<l.length
 ·rw[List.getElem?_append_left h,if_pos h]
 ·rw[List.getElem?_append_right (by omega),if_neg h]
  split
  ·rename_i e
   simp[e]
  ·rw[List.getElem?_eq_none (by simp;omega)]
   rfl
theorem rowd_app {lo kb b:Nat} {H:AH} {fu f ro fz:Bool} {e':TypeId} {rows:List (List Int)} {l:List Int} {B:Nat→Nat} {cs:List Value} (r:RowD lo H kb fu rows B cs) (hl:rows.length≤1000) (hb:lo≤b) (hkb:b≠kb)
  (hB:∀ i,i<rows.length→B i<b) (hx:Lst H b l f) {Q:Value→AH→Prop}
  (hQ:∀ H':AH,H'.length=H.length+2→Kp kb H H'→RowD lo H' (H.length+1) false (rows++[l]) (fun i=>if i<rows.length then B i else b) (cs++[sl b l.length])→Q (sl (H.length+1) (rows++[l]).length) H') :
  OQ (appV 27 1 24 (sl kb rows.length) (.slice (some ⟨H.length,0,none⟩) 1 1) (H.new ⟨[sl b l.length],e',ro,fz⟩)) Q:=by
 have hn:(H.new ⟨[sl b l.length],e',ro,fz⟩).rdn H.length 0 1=some [sl b l.length]:=by rw[rdn_new_same];rfl
 have hk:(H.new ⟨[sl b l.length],e',ro,fz⟩).get kb=some ⟨cs,27,false,fu⟩:=get_new_any r.get
 have hkl:=get_lt r.get
 have hbl:=get_lt hx
 unfold sl
 unfold sl at hn hk
 rw[app_ownW (n:=rows.length) hk (by rw[r.len,Nat.mul_one]) hn (by omega),OQ_some,len_new]
 have kk:Kp kb H (((H.new ⟨[sl b l.length],e',ro,fz⟩).kill kb).new ⟨cs++[sl b l.length],27,false,false⟩):=⟨by rw[len_new,len_kill,len_new];omega,fun j hj hne=>by
   rw[show (((H.new ⟨[sl b l.length],e',ro,fz⟩).kill kb).new ⟨cs++[sl b l.length],27,false,false⟩).get j=((H.new ⟨[sl b l.length],e',ro,fz⟩).kill kb).get j from prefix_get (pre_new (List.prefix_refl _)) (by rw[len_kill,len_new];omega),get_kill_ne (Ne.symm hne)]
   exact prefix_get (pre_new (List.prefix_refl _)) hj⟩
 have:=hQ _ (by rw[len_new,len_kill,len_new]) kk ⟨get_new_eq (by rw[len_kill,len_new]),by simp[r.len],by have:=r.low;omega,fun i hi=>?_,fun i j hij hj=>?_⟩
 ·unfold sl at this
  rw[List.length_append,List.length_singleton] at this
  exact this
 ·by_cases h:i<rows.length
  ·obtain⟨h1,h2,⟨g,h3⟩,h4⟩:=r.row i h
   have lb:=get_lt h3
   simp only[if_pos h]
   refine⟨h1,?_,⟨g,?_⟩,by omega⟩
   ·rw[getD_snocD,if_pos (by rw[r.len];exact h),h2,getD_snocD,if_pos h]
   ·rw[getD_snocD,if_pos h]
    exact kk.get h4 h3
  ·have e:i=rows.length:=by simp at hi;omega
   subst e
   simp only[if_neg h]
   refine⟨hb,?_,⟨f,?_⟩,by omega⟩
   ·rw[getD_snocD,if_neg (by rw[r.len];omega),if_pos r.len.symm,getD_snocD,if_neg (by omega),if_pos rfl]
   ·rw[getD_snocD,if_neg (by omega),if_pos rfl]
    exact kk.get hkb hx
 ·simp only[List.length_append,List.length_singleton] at hj
  by_cases h:j<rows.length
  ·simp only[if_pos h,if_pos (show i<rows.length by omega)]
   exact r.inc i j hij h
  ·simp only[if_neg h,if_pos (show i<rows.length by omega)]
   exact hB i (by omega)
theorem takeD {L:List (List Int)} {m:Nat} (h:m<L.length):L.take (m+1)=L.take m++[L.getD m []]:=by
 rw[List.take_add_one,List.getElem?_eq_getElem h,List.getD_eq_getElem?_getD,List.getElem?_eq_getElem h]
 rfl
theorem Els.rdAll {k:IntKind} {w:Nat} {h:AH} {v:Value} {L:List (List Int)} (e:Els k w h v L) (hl:0<L.length) :
  ∃ b off,v=.slice (some ⟨b,off,none⟩) L.length w∧h.rdn b off (L.length*w)=some (cel k L.flatten):=by
 rcases e with⟨rfl,-⟩|⟨b,off,blk,h1,h2,h3⟩
 ·simp at hl
 refine⟨b,off,h1,?_⟩
 have key:∀ m,m≤L.length→off+m*w≤blk.c.length∨m=0∧True→(blk.c.drop off).take (m*w)=cel k (L.take m).flatten:=by
  intro m hm _
  induction m with
  | zero=>simp[cel]
  | succ m ih=>
   obtain⟨g1,g2⟩:=h3 m (by omega)
   rw[Nat.succ_mul,List.take_add,ih (by omega) (by left;omega),takeD (by omega),List.flatten_append,List.drop_drop,g2]
   simp[cel]
 have hb:=(h3 (L.length-1) (by omega)).1
 have hb':off+L.length*w≤blk.c.length:=by
  have:L.length*w=(L.length-1)*w+w:=by
   rw[←Nat.succ_mul]
   congr 1
   omega
  omega
 rw[rdn_of h2,if_pos hb',key _ (Nat.le_refl _) (Or.inl hb'),List.take_length]
theorem set_flat {w:Nat} {q:List Int} (hq:q.length=w):∀ {L:List (List Int)} {j:Nat},Wid w L→j<L.length→L.flatten.take (j*w)++q++L.flatten.drop (j*w+w)=(L.set j q).flatten
 | [],j,_,h=>by simp at h
 | r::L,0,hw,_=>by
  have:=hw r (by simp)
  simp[←this]
 | r::L,j+1,hw,h=>by
  have hr:=hw r (by simp)
  have ih:=set_flat hq (L:=L) (j:=j) (fun x hx=>hw x (by simp[hx])) (by simpa using h)
  rw[List.set_cons_succ,List.flatten_cons,List.flatten_cons,←ih,Nat.succ_mul]
  rw[List.take_append,List.drop_append,List.take_of_length_le (by omega),List.drop_eq_nil_of_le (by omega),List.nil_append,
   show j*w+w-r.length=j*w by omega,show j*w+w+w-r.length=j*w+w by omega]
  simp only[List.append_assoc]
theorem splice_flat {k:IntKind} {w:Nat} {q:List Int} {L:List (List Int)} {j:Nat} (hq:q.length=w) (hw:Wid w L) (hj:j<L.length):splice (cel k L.flatten) (j*w) (cel k q)=cel k (L.set j q).flatten:=by
 rw[splice_eq,←set_flat hq hw hj]
 simp only[cel,List.map_append,List.map_take,List.map_drop,List.length_map,hq]
theorem copy_zero {k:IntKind} {w bytes:Nat} {e:TypeId} {H:AH} {v:Value} {L:List (List Int)} (he:Els k w H v L) (hl:0<L.length) (hs:(L.length:Int)*bytes≤140737488355328∧(L.length:Int)≤9223372036854775807) {Q:Value→AH→Prop}
  (hQ:∀ H':AH,H'.length=H.length+2→H<+:H'→H'.get (H.length+1)=some ⟨cel k L.flatten,e,false,false⟩→Q (.slice (some ⟨H.length+1,0,none⟩) L.length w) H') :
  OQ (appV e w bytes (.slice (some ⟨H.length,0,none⟩) 0 w) v (H.new ⟨[],e,false,true⟩)) Q:=by
 obtain⟨b,off,rfl,hrd⟩:=(he.pre (pre_new (List.prefix_refl _):H<+:H.new ⟨[],e,false,true⟩)).rdAll hl
 rw[app_zeroW (k:=H.length) get_new_same hrd hl hs,OQ_some,len_new]
 have p:H<+:((H.new ⟨[],e,false,true⟩).kill H.length).new ⟨cel k L.flatten,e,false,false⟩:=pre_new (pre_kill (pre_new (List.prefix_refl _)) (Nat.le_refl _))
 exact hQ _ (by rw[len_new,len_kill,len_new]) p (get_new_eq (by rw[len_kill,len_new]))
theorem wid_set {w e:Nat} {L:List (List Int)} {q:List Int} (hw:Wid w L) (hq:q.length=w):Wid w (L.set e q):=by
 intro r hr
 rcases List.mem_or_eq_of_mem_set hr with h|h
 ·exact hw r h
 ·rw[h];exact hq
theorem byt_snoc {L:List (List Int)} {q:List Int} (hb:Byt 27 L) (hq:By 27 q):Byt 27 (L++[q]):=fun i hi j hj=>by
 by_cases h:i<L.length
 ·rw[getD_app_l h];exact hb i h j hj
 ·rw[List.length_append,List.length_singleton] at hi
  rw[getD_app_r (by omega),show i-L.length=0 by omega]
  exact hq.2 j hj
def WayZ (lo a b:Nat) (h:AH) (sv:Value) (L:List (List Int)):Prop:=
 Wid 27 L∧((sv=.slice none 0 2∧L=[])∨∃ kb,sv=.slice (some ⟨kb,0,none⟩) L.length 27∧lo≤kb∧(kb<a∨b≤kb)∧h.get kb=some ⟨cel .u8 L.flatten,138,false,false⟩)
section
variable {lo a b:Nat} {h h':AH} {sv:Value} {L:List (List Int)}
theorem WayZ.pre (o:WayZ lo a b h sv L) (p:h<+:h'):WayZ lo a b h' sv L:=by
 obtain⟨hw,o|⟨kb,h1,h2,h3,h4⟩⟩:=o
 ·exact⟨hw,.inl o⟩
 ·exact⟨hw,.inr ⟨kb,h1,h2,h3,pre_get p h4⟩⟩
theorem WayZ.one (o:WayZ lo a b h sv L):isOne sv=true:=by
 obtain⟨hw,⟨rfl,_⟩|⟨kb,rfl,h2,h3,h4⟩⟩:=o<;>rfl
theorem WayZ.cells (o:WayZ lo a b h sv L):cellsL sv=[sv]:=by
 obtain⟨hw,⟨rfl,_⟩|⟨kb,rfl,h2,h3,h4⟩⟩:=o<;>rfl
theorem WayZ.inE (o:WayZ lo a b h sv L) (hl:1≤L.length):InE .u8 27 lo h.length h sv L:=by
 obtain⟨hw,⟨_,rfl⟩|⟨kb,h1,h2,h3,h4⟩⟩:=o
 ·simp at hl
 ·exact .inr ⟨kb,_,false,⟨h2,get_lt h4⟩,h1,h4,hw⟩
theorem WayZ.app {H:AH} {q:List Int} {e':TypeId} {ro full:Bool} (o:WayZ lo a b H sv L) (hq:q.length=27) (hl:L.length≤1000) (hb:b≤H.length) (hlo:lo≤H.length)
  {Q:Value→AH→Prop} (hQ:∀ (sv':Value) (H':AH),H'.length=H.length+2→(∀ h0:AH,h0.length≤lo→h0<+:H→h0<+:H')→(∀ n c,n<lo∨a≤n∧n<b→H.get n=some c→H'.get n=some c)→WayZ lo a b H' sv' (L++[q])→Q sv' H') :
  OQ (appV (138) 27 27 sv (.slice (some ⟨H.length,0,none⟩) 1 27) (H.new ⟨cel .u8 q,e',ro,full⟩)) Q:=by
 have hr:(H.new ⟨cel .u8 q,e',ro,full⟩).rdn H.length 0 27=some (cel .u8 q):=by
  rw[rdn_of get_new_same]
  simp only
  rw[if_pos (by rw[cel_len,hq];omega),List.drop_zero,List.take_of_length_le (by rw[cel_len,hq];omega)]
 obtain⟨hw,⟨rfl,rfl⟩|⟨kb,rfl,h2,h3,h4⟩⟩:=o
 ·rw[app_nilW (.inr rfl) hr (by omega),OQ_some]
  refine hQ _ _ (by rw[len_new,len_new]) (fun h0 _ p=>pre_new (pre_new p)) (fun n c _ g=>get_new_any (get_new_any g)) ⟨?_,.inr ⟨_,rfl,by rw[len_new];omega,by rw[len_new];omega,?_⟩⟩
  ·intro r hr
   rw[List.nil_append,List.mem_singleton] at hr
   rw[hr,hq]
  ·rw[get_new_same]
   simp
 ·have hk:(H.new ⟨cel .u8 q,e',ro,full⟩).get kb=some ⟨cel .u8 L.flatten,138,false,false⟩:=get_new_any h4
  have hkb:=get_lt h4
  rw[app_ownW hk (by rw[cel_len,flat_len hw]) hr ⟨by omega,by omega⟩,OQ_some]
  refine hQ _ _ (by rw[len_new,len_kill,len_new]) (fun h0 q p=>pre_new (pre_kill (pre_new p) (by omega))) (fun n c hn g=>get_new_any (by rw[get_kill_ne (by omega)];exact get_new_any g)) ⟨?_,.inr ⟨(H.new ⟨cel .u8 q,e',ro,full⟩).length,by simp,by rw[len_new];omega,by rw[len_new];omega,?_⟩⟩
  ·intro r hr
   rcases List.mem_append.1 hr with hr|hr
   ·exact hw r hr
   ·rw[List.mem_singleton.1 hr,hq]
  ·rw[get_new_eq (by rw[len_kill])]
   simp[cel_app]
end
end Go.Proofs.Ytapafdpnmakekaa.X

set_option linter.unusedVariables false
set_option linter.unusedSimpArgs false
set_option maxRecDepth 20000
set_option maxHeartbeats 4000000
namespace Go.Proofs.Ytapafdpnmakekaa.X
open Go Go.RowKit
open Nat (reduceEqDiff reduceAdd reduceSub reduceLeDiff)
theorem s_l01Empty {h:AH} {x:Sch} {v:Value} {Q:Value→AH→Prop} (hv:isOne v=true) (hQ:∀ h',h<+:h'→Q (schV ⟨x.p,x.n,x.m,x.k,[]⟩ (.slice none 0 2)) h'):WF S 277 [schV x v] h Q:=by
 refine WF_fn (fn:=c277) rfl rfl ?_
 dsimp only[c277,oO,oM,oS,oG,oK,oE,oL,oF,oX,oN]
 ((try simp (maxSteps:=3000000) (dsimp:=false) (disch:=first|omega|simp only[lnx];omega) only[↓ypre,ypost,↓reduceIte,reduceEqDiff,reduceAdd,reduceSub,reduceLeDiff,zz0,ynew,schV,hv]);try simp only[yback])
 generalize hH1:AH.new h _=H1
 obtain⟨hb1,p1,n1⟩:=new_facts hH1
 generalize hH2:AH.new H1 _=H2
 obtain⟨hb2,p2,n2⟩:=new_facts hH2
 have g1:=pre_get p2 hb1
 have lt:=get_lt hb2
 ((try simp (maxSteps:=3000000) (dsimp:=false) (disch:=first|omega|simp only[lnx];omega) only[↓ypre,ypost,↓reduceIte,reduceEqDiff,reduceAdd,reduceSub,reduceLeDiff,zz0,ynew,rd1_of g1,fillL,wr_of hb2,splice_eq,rdn_put_same]);try simp only[yback])
 exact hQ _ (p1.trans p2)
end Go.Proofs.Ytapafdpnmakekaa.X

set_option linter.unusedVariables false
set_option linter.unusedSimpArgs false
set_option maxRecDepth 20000
set_option maxHeartbeats 4000000
namespace Go.Proofs.Ytapafdpnmakekaa.X
open Go Go.RowKit
def tabN:List Int:=[1,2,3,2,4,6,3,6,9,2,4,6,4,7,11,6,11,17,3,6,9,6,11,17,9,17,26]
def nm (q:List Int):Int:=tabN.getD ((q.getD 0 0-1)*9+(q.getD 1 0-1)*3+(q.getD 2 0-1)).toNat 0
def ProgD (lo:Nat) (h:AH) (v w:Value) (x:Prg):Prop:=KN lo h fun h'=>PrgR h' v w x
theorem smallM_of2 {rows:List (List Int)} {A B:Nat} (h1:rows.length≤A) (h2:∀ i,i<rows.length→(rows.getD i []).length≤B) (hAB:A≤1000∧B≤1000):SmallM rows:=by
 have ht:∀ i,i≤rows.length→tot rows i≤i*1000:=fun i=>by
  induction i with
  | zero=>intro _;simp
  | succ i ih=>
   intro hi
   have e:=tot_succ (rows:=rows) (i:=i) (by omega)
   have:=ih (by omega)
   have:=h2 i (by omega)
   omega
 have:=ht rows.length (Nat.le_refl _)
 exact⟨by omega,fun i hi=>by have:=h2 i hi;omega,by omega⟩
theorem TabS.get {h0 h:AH} {nb i:Nat} {full:Bool} {L:List (Nat×List Int)} (s:TabS h0 h nb full L) (hi:i<L.length):h.rd1 nb i=some (sl (L[i]).1 (L[i]).2.length):=by
 rw[rd1_of s.g]
 simp[hi,rowV,sl]
def prgC (x:Prg) (v w:Value):List Value:=[I64 x.p,I64 x.n,v,w]
end Go.Proofs.Ytapafdpnmakekaa.X

set_option linter.unusedVariables false
set_option linter.unusedSimpArgs false
set_option maxRecDepth 20000
set_option maxHeartbeats 4000000
namespace Go.Proofs.Ytapafdpnmakekaa.X
open Go Go.RowKit
open Nat (reduceEqDiff reduceAdd reduceSub reduceLeDiff)
structure Pr3 (h:AH) (nb:Nat) (x:Sch) (b:Bool) (v1 w1 v2 w2 v3 w3:Value):Prop where
 g:∃ fl,h.get nb=some ⟨prgC (pgX x b 0) v1 w1++prgC (pgX x b 1) v2 w2++prgC (pgX x b 2) v3 w3,70,false,fl⟩
 r1:PrgR h v1 w1 (pgX x b 0)
 r2:PrgR h v2 w2 (pgX x b 1)
 r3:PrgR h v3 w3 (pgX x b 2)
section
variable {h h':AH} {nb:Nat} {x:Sch} {b:Bool} {v1 w1 v2 w2 v3 w3:Value}
theorem Pr3.pre (o:Pr3 h nb x b v1 w1 v2 w2 v3 w3) (p:h<+:h'):Pr3 h' nb x b v1 w1 v2 w2 v3 w3:=
 ⟨by obtain⟨fl,g⟩:=o.g;exact⟨fl,pre_get p g⟩,o.r1.pre p,o.r2.pre p,o.r3.pre p⟩
theorem Pr3.at (o:Pr3 h nb x b v1 w1 v2 w2 v3 w3) {i:Nat} (hi:i<3):∃ y z,h.rd1 nb (i*4+2)=some y∧h.rdn nb (i*4) 4=some (prgC (pgX x b i) y z)∧PrgR h y z (pgX x b i):=by
 obtain⟨fl,g⟩:=o.g
 have hc:i=0∨i=1∨i=2:=by omega
 rcases hc with rfl|rfl|rfl
 ·exact⟨v1,w1,by rw[rd1_of g];rfl,by rw[rdn_of g];rfl,o.r1⟩
 ·exact⟨v2,w2,by rw[rd1_of g];rfl,by rw[rdn_of g];rfl,o.r2⟩
 ·exact⟨v3,w3,by rw[rd1_of g];rfl,by rw[rdn_of g];rfl,o.r3⟩
end
theorem ix4 {nb len i:Nat} {kk:IntKind} (hi:i<len):ixsV 4 (.slice (some ⟨nb,0,none⟩) len 4) (.int kk (i:Int))=some (.pointer (some ⟨nb,i*4,none⟩)):=by
 rw[ixsV_some,if_pos (by omega)]
 simp
theorem i_matrixOf {q:List Int} {n:Nat} {h:AH} {Q:Value→AH→Prop} (hq:By 9 q) (hn:1≤n∧n≤9) (hQ:∀ v' h',h<+:h'→OwnRows h h' v' [q.take n]→Q v' h'):WF S 310 [aggV .u8 q,I64 1,I64 n] h Q:=by
 refine WF_fn (fn:=c310) rfl rfl ?_
 dsimp only[c310,oO,oM,oS,oG,oK,oE,oL,oF,oX,oN]
 ((try simp (maxSteps:=3000000) (dsimp:=false) (disch:=first|omega|simp only[lnx];omega) only[↓ypre,ypost,↓reduceIte,reduceEqDiff,reduceAdd,reduceSub,reduceLeDiff,zz0,ynew,aggV,cel_all,cellsL_cel]);try simp only[yback])
 generalize hH1:AH.new h _=H1
 obtain⟨hb1,p1,n1⟩:=new_facts hH1
 generalize hH2:AH.new H1 _=H2
 obtain⟨hb2,p2,n2⟩:=new_facts hH2
 have l0:Lst H2 H1.length (q.take 0) true:=hb2
 have hq1:=hq.1
 ((try simp (maxSteps:=3000000) (dsimp:=false) (disch:=first|omega|simp only[lnx];omega) only[↓ypre,ypost,↓reduceIte,reduceEqDiff,reduceAdd,reduceSub,reduceLeDiff,zz0,ynew,Int.one_mul,wrap64_in]);try simp only[yback])
 refine WC_loop_inv (fun m f K1=>∃ (i:Nat) (k:Nat) (fu:Bool),m=n-i∧i≤n∧f 2=I64 n∧f 3=.pointer (some ⟨h.length,0,none⟩)∧f 7=sl k (q.take i).length∧f 12=I64 n∧f 13=I64 i∧(H1<+:K1)∧(Lst K1 k (q.take i) fu)∧(H1.length≤k)) ?_ (n-0) _ _ ⟨0,H1.length,true,rfl,by omega,(by first|rfl|simp[upd_apply]),(by first|rfl|simp[upd_apply]),(by first|rfl|simp[upd_apply]),(by first|rfl|simp[upd_apply]),(by first|rfl|simp[upd_apply]),p2,l0,Nat.le_refl _⟩
 rintro m f K1 ⟨i,k,fu,rfl,hi,f2,f3,f7,f12,f13,pp,lo,hk⟩
 have hb:=pre_get pp hb1
 by_cases hlt:(i:Int)<n
 ·have hi':i<n:=by omega
  have g1:=cel_get (k:=.u8) (q:=q) (j:=i) (by omega)
  have ixa:=ixa_u (n:=h.length) (off:=0) (len:=9) (kk:=.i64) (j:=i) (by omega)
  rw[Nat.zero_add] at ixa
  have b1:=hq.2 i (by omega)
  ((try simp (maxSteps:=3000000) (dsimp:=false) (disch:=first|omega|simp only[lnx];omega) only[↓ypre,ypost,↓reduceIte,reduceEqDiff,reduceAdd,reduceSub,reduceLeDiff,zz0,ynew,f2,f3,f7,f12,f13,decide_eq_true hlt,ixa,rd1_of hb,g1,wrap64_in]);try simp only[yback])
  refine lo.app3 (by rw[List.length_take];omega) fun H5 l5 pre5 keep5 lo5=>?_
  have et:q.take i++[q.getD i 0]=q.take (i+1):=(take_next (by omega)).symm
  ((try simp (maxSteps:=3000000) (dsimp:=false) (disch:=first|omega|simp only[lnx];omega) only[↓ypre,ypost,↓reduceIte,reduceEqDiff,reduceAdd,reduceSub,reduceLeDiff,zz0,ynew,f2,f3,f7,f12,f13,wrap64_in]);try simp only[yback])
  refine InvQ_go (n-(i+1)) (by omega) ⟨(i+1),(K1.length+1),false,rfl,by omega,(by first|rfl|exact f2|(simp only[upd_apply];rfl)|(show I64 _=_;congr 1;omega)),(by first|rfl|exact f3|(simp only[upd_apply];rfl)|(show I64 _=_;congr 1;omega)),(by rw[←et];rfl),(by first|rfl|exact f12|(simp only[upd_apply];rfl)|(show I64 _=_;congr 1;omega)),(by first|rfl|exact f13|(simp only[upd_apply];rfl)|(show I64 _=_;congr 1;omega)),(pre5 _ hk pp),(by rw[←et];exact lo5),(by have:=pre_len pp;omega)⟩
 have ei:i=n:=by omega
 subst ei
 ((try simp (maxSteps:=3000000) (dsimp:=false) (disch:=first|omega|simp only[lnx];omega) only[↓ypre,ypost,↓reduceIte,reduceEqDiff,reduceAdd,reduceSub,reduceLeDiff,zz0,ynew,f2,f3,f7,f12,f13,decide_eq_false hlt]);try simp only[yback])
 have ql:(q.take i).length=i:=by rw[List.length_take];omega
 refine i_parted (w:=i) (n:=1) lo.ints (by omega) (by omega) (by omega) fun v' H3 p3 o3=>?_
 ((try simp (maxSteps:=3000000) (dsimp:=false) (disch:=first|omega|simp only[lnx];omega) only[↓ypre,ypost,↓reduceIte,reduceEqDiff,reduceAdd,reduceSub,reduceLeDiff,zz0,ynew,f2,f3,f7,f12,f13]);try simp only[yback])
 have ep:parts (q.take i) i 1=[q.take i]:=by
  unfold parts
  show [(((q.take i).drop (0*i)).take i)]=_
  rw[Nat.zero_mul,List.drop_zero,List.take_take,Nat.min_self]
 rw[ep] at o3
 exact hQ _ _ ((p1.trans pp).trans p3) (o3.lo (by have:=pre_len (p1.trans pp);omega))
theorem OwnRows.one_row {h0 h:AH} {v:Value} {r:List Int} (o:OwnRows h0 h v [r]) (hr:r≠[]):∃ nb kr fu,ixsV 1 v (I64 0)=some (.pointer (some ⟨nb,0,none⟩))∧h.rd1 nb 0=some (sl kr r.length)∧h0.length≤kr∧OwnB h kr (r.map (Value.int .i64)) fu:=by
 rcases o with⟨_,e⟩|⟨n,e,full,cs,h1,rfl,h2,h3,h4,_⟩
 ·cases e
 ·have hl:cs.length=1:=by simpa using h3
  obtain⟨q1,_⟩:=h4 0 (by simp)
  have e0:cs.getD 0 undef=cs.getD 0 undef:=rfl
  rcases q1 with⟨_,e2⟩|⟨kb,e2,fu,g1,g2,g3⟩
  ·exact absurd e2 hr
  ·refine⟨n,kb,fu,?_,?_,g1,e2,g3⟩
   ·rw[hl]
    rfl
   ·rw[rd1_of h2]
    show cs[0]?=_
    have:cs[0]?=some (cs.getD 0 undef):=by
     rw[List.getD_eq_getElem?_getD,List.getElem?_eq_getElem (by omega)]
     rfl
    rw[this,g2]
    rfl
theorem i_lists {v:Value} {x:Sch} {i n:Nat} {h:AH} {Q:Value→AH→Prop} (hv:Prods h v x.ps) (hl:x.ps.length≤30) (hi:i<3) (hn:1≤n∧n≤9)
  (hQ:∀ v' h',h<+:h'→Rows h' v' (lsF x i n)→Q v' h'):WF S 289 [schV x v,I64 i,I64 n] h Q:=by
 refine WF_fn (fn:=c289) rfl rfl ?_
 dsimp only[c289,oO,oM,oS,oG,oK,oE,oL,oF,oX,oN]
 ((try simp (maxSteps:=3000000) (dsimp:=false) (disch:=first|omega|simp only[lnx];omega) only[↓ypre,ypost,↓reduceIte,reduceEqDiff,reduceAdd,reduceSub,reduceLeDiff,zz0,ynew,schV,hv.one]);try simp only[yback])
 generalize hH1:AH.new h _=H1
 obtain⟨hb1,p1,n1⟩:=new_facts hH1
 generalize hH2:AH.new H1 _=H2
 obtain⟨hb2,p2,n2⟩:=new_facts hH2
 ((try simp (maxSteps:=3000000) (dsimp:=false) (disch:=first|omega|simp only[lnx];omega) only[↓ypre,ypost,↓reduceIte,reduceEqDiff,reduceAdd,reduceSub,reduceLeDiff,zz0,ynew,rd1_of (pre_get p2 hb1),(hv.pre (p1.trans p2)).1.len]);try simp only[yback])
 have z27:=zeros27
 refine WC_loop_inv (fun m f K1=>∃ (j:Nat) (nb:Nat) (fl:Bool) (L:List (Nat×List Int)),m=x.ps.length-j∧j≤x.ps.length∧f 1=I64 i∧f 2=I64 n∧f 3=.pointer (some ⟨h.length,0,none⟩)∧f 7=sl nb L.length∧f 12=v∧f 13=I64 x.ps.length∧f 14=I64 j∧(TabS H1 K1 nb fl L)∧(L.map Prod.snd=(lsF x i n).take j)) ?_ (x.ps.length-0) _ _ ⟨0,H1.length,true,[],rfl,by omega,(by first|rfl|simp[upd_apply]),(by first|rfl|simp[upd_apply]),(by first|rfl|simp[upd_apply]),(by first|rfl|simp[upd_apply]),(by first|rfl|simp[upd_apply]),(by first|rfl|simp[upd_apply]),(by first|rfl|simp[upd_apply]),⟨p2,Nat.le_refl _,hb2,by simp,by simp⟩,(by simp)⟩
 rintro m f K1 ⟨j,nb,fl,L,rfl,hj,f1,f2,f3,f7,f12,f13,f14,st,hL⟩
 have hLl:L.length=j:=by
  have:=congrArg List.length hL
  rw[List.length_map,List.length_take,lsF_len] at this
  omega
 have lt:=st.lt
 have kh:=pre_len st.hp
 have hvK:=hv.pre (p1.trans st.hp)
 by_cases hlt:(j:Int)<x.ps.length
 ·have hj':j<x.ps.length:=by omega
  obtain⟨n5',off5,hix,hrn,hr1⟩:=hvK.1.at hj'
  have r27:=hrn 0 27 (by omega)
  have wi:=hvK.1.wid hj'
  have hby:=hvK.by hj'
  have tk:(x.ps.getD j []).take 27=x.ps.getD j []:=List.take_of_length_le (by omega)
  rw[List.drop_zero,tk,Nat.add_zero] at r27
  have eg:=lsF_get (x:=x) (i:=i) (n:=n) hj'
  generalize hq:x.ps.getD j []=q at *
  have w1:∀ (h1:AH) (e:TypeId),(h1.new ⟨[.int .u8 0,.int .u8 0,.int .u8 0,.int .u8 0,.int .u8 0,.int .u8 0,.int .u8 0,.int .u8 0,.int .u8 0,.int .u8 0,.int .u8 0,.int .u8 0,.int .u8 0,.int .u8 0,.int .u8 0,.int .u8 0,.int .u8 0,.int .u8 0,.int .u8 0,.int .u8 0,.int .u8 0,.int .u8 0,.int .u8 0,.int .u8 0,.int .u8 0,.int .u8 0,.int .u8 0],e,false,true⟩).wr h1.length 0 (cel .u8 q)=some (h1.new ⟨cel .u8 q,e,false,true⟩):=fun h1 e=>wr_all (by rw[cel_len,wi];rfl)
  ((try simp (maxSteps:=3000000) (dsimp:=false) (disch:=first|omega|simp only[lnx];omega) only[↓ypre,ypost,↓reduceIte,reduceEqDiff,reduceAdd,reduceSub,reduceLeDiff,zz0,ynew,f1,f2,f3,f7,f12,f13,f14,decide_eq_true hlt,hix,r27,cel_all,cellsL_cel,cel_len,wi,↓w1,cel_take,tk,wrap64_in]);try simp only[yback])
  generalize hH3:AH.new K1 _=H3
  obtain⟨hb3,p3,n3⟩:=new_facts hH3
  refine i_factors wi fun H4 p4=>?_
  have e1:idxnV 3 9 (aggV .u8 q) (I64 i)=some (.agg (cel .u8 (seg q i)).toArray):=by
   simp only[idxnV,aggV,toL,Int.toNat_natCast,cel_len,wi]
   rw[if_pos ⟨by omega,by omega,by omega⟩]
   simp only[cel_drop,cel_take]
   rfl
  ((try simp (maxSteps:=3000000) (dsimp:=false) (disch:=first|omega|simp only[lnx];omega) only[↓ypre,ypost,↓reduceIte,reduceEqDiff,reduceAdd,reduceSub,reduceLeDiff,zz0,ynew,f1,f2,f3,f7,f12,f13,f14,e1]);try simp only[yback])
  refine i_matrixOf (hby.seg hi) hn fun v5 H5 p5 o5=>?_
  have p35:=p3.trans (p4.trans p5)
  have k4:=pre_len p4
  have sgl:=(hby.seg hi).1
  obtain⟨nb5,kr,fr,ix0,rd0,hkr,ob⟩:=o5.one_row (by
   intro e
   have:=congrArg List.length e
   rw[List.length_take,sgl,List.length_nil] at this
   omega)
  ((try simp (maxSteps:=3000000) (dsimp:=false) (disch:=first|omega|simp only[lnx];omega) only[↓ypre,ypost,↓reduceIte,reduceEqDiff,reduceAdd,reduceSub,reduceLeDiff,zz0,ynew,f1,f2,f3,f7,f12,f13,f14,ix0,rd0,sl_cells,sl_one]);try simp only[yback])
  refine (st.pre p35).app2 ⟨by omega,by omega,fun q hq=>by have:=lt.2 q hq;omega⟩ ob (by omega) fun nb' H' st' l' e' own' pre'=>?_
  ((try simp (maxSteps:=3000000) (dsimp:=false) (disch:=first|omega|simp only[lnx];omega) only[↓ypre,ypost,↓reduceIte,reduceEqDiff,reduceAdd,reduceSub,reduceLeDiff,zz0,ynew,f1,f2,f3,f7,f12,f13,f14,wrap64_in]);try simp only[yback])
  refine InvQ_go (x.ps.length-(j+1)) (by omega) ⟨(j+1),nb',false,(L++[(kr,(seg q i).take n)]),rfl,by omega,(by first|rfl|exact f1|(simp only[upd_apply];rfl)|(show I64 _=_;congr 1;omega)),(by first|rfl|exact f2|(simp only[upd_apply];rfl)|(show I64 _=_;congr 1;omega)),(by first|rfl|exact f3|(simp only[upd_apply];rfl)|(show I64 _=_;congr 1;omega)),(by first|rfl|exact f7|(simp only[upd_apply];rfl)|(show I64 _=_;congr 1;omega)),(by first|rfl|exact f12|(simp only[upd_apply];rfl)|(show I64 _=_;congr 1;omega)),(by first|rfl|exact f13|(simp only[upd_apply];rfl)|(show I64 _=_;congr 1;omega)),(by first|rfl|exact f14|(simp only[upd_apply];rfl)|(show I64 _=_;congr 1;omega)),st',(by rw[List.map_append,hL,take_next (d:=[]) (by rw[lsF_len];exact hj'),eg];rfl)⟩
 have ej:j=x.ps.length:=by omega
 subst ej
 rw[List.take_of_length_le (by rw[lsF_len];exact Nat.le_refl _)] at hL
 ((try simp (maxSteps:=3000000) (dsimp:=false) (disch:=first|omega|simp only[lnx];omega) only[↓ypre,ypost,↓reduceIte,reduceEqDiff,reduceAdd,reduceSub,reduceLeDiff,zz0,ynew,f1,f2,f3,f7,f12,f13,f14,decide_eq_false hlt]);try simp only[yback])
 have o:=st.own
 rw[hL] at o
 exact hQ _ _ (p1.trans st.hp) o.rows
theorem xres_nil {f:Fr} {h:AH}:xres f h []=some (.tuple #[]):=rfl
theorem InE.move {k:IntKind} {w a b:Nat} {h h':AH} {v:Value} {L:List (List Int)} (o:InE k w a b h v L) (hk:∀ m bl,a≤m→m<b→h.get m=some bl→h'.get m=some bl):InE k w a b h' v L:=by
 rcases o with o|⟨m,e,full,h1,rfl,h2,h3⟩
 ·exact .inl o
 ·exact .inr ⟨m,e,full,h1,rfl,hk _ _ h1.1 h1.2 h2,h3⟩
theorem InP.move {a b:Nat} {h h':AH} {v w:Value} {x:Prg} (o:InP a b h v w x) (hk:∀ m bl,a≤m→m<b→h.get m=some bl→h'.get m=some bl):InP a b h' v w x:=by
 obtain⟨c,h1,h2,h3,h4⟩:=o
 exact⟨c,h1,h2,h3.move fun m bl q1 q2 g=>hk m bl q1 (by omega) g,h4.move fun m bl q1 q2 g=>hk m bl (by omega) q2 g⟩
theorem i_made {u:Value} {p n xn xm xk:Int} {xv:Value} {b:Bool} {rows:List (List Int)} {ms mo mx nb k:Nat} {eS eX eO:TypeId} {fl:Bool} {c:List Value} {h:AH} {Q:Value→AH→Prop} (hu:Rows h u rows) (hok:lsOK p n rows=true)
  (gS:h.get ms=some ⟨[.bool b],eS,false,true⟩) (gX:h.get mx=some ⟨[I64 p,I64 xn,I64 xm,I64 xk,xv],eX,false,true⟩) (gO:h.get mo=some ⟨[.slice (some ⟨nb,0,none⟩) k 4],eO,false,true⟩) (gB:h.get nb=some ⟨c,70,false,fl⟩) (hc:c.length=k*4) (hk:k≤3) (hne:mo≠nb)
  (hQ:∀ (val:Value) (nb':Nat) (v' w':Value) (h':AH),h.length≤nb'→nb'<h'.length→h'.get nb'=some ⟨c++prgC (pgO p n rows b) v' w',70,false,false⟩→h'.get mo=some ⟨[.slice (some ⟨nb',0,none⟩) (k+1) 4],eO,false,true⟩→InP h.length nb' h' v' w' (pgO p n rows b)→(∀ m bl,m≠nb→m≠mo→h.get m=some bl→h'.get m=some bl)→(∀ h0:AH,h0.length≤nb→h0.length≤mo→h0<+:h→h0<+:h')→Q val h'):WF S 288 [I64 n,u,.pointer (some ⟨ms,0,none⟩),.pointer (some ⟨mo,0,none⟩),.pointer (some ⟨mx,0,none⟩)] h Q:=by
 refine WF_fn (fn:=c288) rfl rfl ?_
 dsimp only[c288,oO,oM,oS,oG,oK,oE,oL,oF,oX,oN]
 have hlen:=hok
 have ltO:=get_lt gO
 have ltB:=get_lt gB
 have tail:∀ (P:Prg) (v' w':Value) (H:AH),h<+:H→∃ H2:AH,appV (70) 4 64 (.slice (some ⟨nb,0,none⟩) k 4) (.slice (some ⟨H.length,0,none⟩) 1 4) (H.new ⟨[I64 P.p,I64 P.n,v',w'],70,false,true⟩)=some (.slice (some ⟨H.length+1,0,none⟩) (k+1) 4,H2) ∧
   H2.length=H.length+2∧H2.get (H.length+1)=some ⟨c++prgC P v' w',70,false,false⟩∧(∀ m bl,m≠nb→H.get m=some bl→H2.get m=some bl)∧(∀ h0:AH,h0.length≤nb→h0<+:H→h0<+:H2):=by
  intro P v' w' H pH
  have hr:(H.new ⟨[I64 P.p,I64 P.n,v',w'],70,false,true⟩).rdn H.length 0 4=some [I64 P.p,I64 P.n,v',w']:=by
   rw[rdn_of get_new_same]
   rfl
  have hkk:(H.new ⟨[I64 P.p,I64 P.n,v',w'],70,false,true⟩).get nb=some ⟨c,70,false,fl⟩:=get_new_any (pre_get pH gB)
  refine⟨((H.new ⟨[I64 P.p,I64 P.n,v',w'],70,false,true⟩).kill nb).new ⟨c++[I64 P.p,I64 P.n,v',w'],70,false,false⟩,?_,?_,?_,?_,?_⟩
  ·rw[app_ownW hkk hc hr (by omega),len_new]
  ·rw[len_new,len_kill,len_new]
  ·rw[get_new_eq (by rw[len_kill,len_new])]
   rfl
  ·intro m bl hm g
   exact get_new_any (by rw[get_kill_ne (fun e=>hm e.symm)];exact get_new_any g)
  ·intro h0 hh q
   exact pre_new (pre_kill (pre_new q) hh)
 unfold pgO at hQ
 cases b with
 | true=>
  rw[if_pos rfl] at hQ
  ((try simp (maxSteps:=3000000) (dsimp:=false) (disch:=first|omega|simp only[lnx];omega) only[↓ypre,ypost,↓reduceIte,reduceEqDiff,reduceAdd,reduceSub,reduceLeDiff,zz0,ynew,rd1_of gS,rd1_of gO,rd1_of gX]);try simp only[yback])
  refine i_sharedProgram hu hok fun v' w' H' pH o ob=>?_
  obtain⟨H2,e2,l2,g2,k2,pre2⟩:=tail (shP p n rows) v' w' H' pH
  have gO2:=k2 _ _ hne (pre_get pH gO)
  have lh:=pre_len pH
  have lt2:=get_lt gO2
  ((try simp (maxSteps:=3000000) (dsimp:=false) (disch:=first|omega|simp only[lnx];omega) only[↓ypre,ypost,↓reduceIte,reduceEqDiff,reduceAdd,reduceSub,reduceLeDiff,zz0,ynew,prgV,o.st.one,o.st.cells,o.out.one,o.out.cells,fillL]);try simp only[yback])
  refine⟨pH,?_⟩
  ((try simp (maxSteps:=3000000) (dsimp:=false) (disch:=first|omega|simp only[lnx];omega) only[↓ypre,ypost,↓reduceIte,reduceEqDiff,reduceAdd,reduceSub,reduceLeDiff,zz0,ynew,e2,wr_of gO2,xres_nil]);try simp only[yback])
  refine hQ _ (H'.length+1) v' w' _ (by omega) (by rw[len_put];omega) (by rw[get_put_ne (by omega)];exact g2) (get_put_same lt2) (((o.inP ob lh).mono (Nat.le_refl _) (by omega)).move fun m bl q1 q2 g=>?_) (fun m bl q1 q2 g=>by rw[get_put_ne (fun e=>q2 e.symm)];exact k2 m bl q1 (pre_get pH g)) (fun h0 q1 q2 q=>pre_put (pre2 h0 q1 (q.trans pH)) q2)
  rw[get_put_ne (by omega)]
  exact k2 m bl (by omega) g
 | false=>
  rw[if_neg (by decide)] at hQ
  obtain⟨hp,hn,hl,hmm⟩:=lsOK_iff.1 hok
  ((try simp (maxSteps:=3000000) (dsimp:=false) (disch:=first|omega|simp only[lnx];omega) only[↓ypre,ypost,↓reduceIte,reduceEqDiff,reduceAdd,reduceSub,reduceLeDiff,zz0,ynew,rd1_of gS,rd1_of gO,rd1_of gX]);try simp only[yback])
  have o0:Way2 h h.length (.slice none 0 0) (.slice none 0 0) ⟨p,n,[],[]⟩:=⟨⟨fun r hr=>by simp at hr,.inl ⟨rfl,rfl⟩⟩,⟨fun r hr=>by simp at hr,.inl ⟨rfl,rfl⟩⟩⟩
  rw[show Value.agg #[I64 p,I64 n,.slice none 0 0,.slice none 0 0]=prgV ⟨p,n,[],[]⟩ (.slice none 0 0) (.slice none 0 0) from rfl]
  refine i_finished hp hn o0 (Nat.le_refl _) hu.stays (fun i hi=>⟨(isMat_iff.1 hmm i hi).2,by have:=(isMat_iff.1 hmm i hi).1;omega⟩) (by omega) (by simp) (by simp) fun v' w' H' sy o ob=>?_
  have pH:h<+:H':=sy.pre _ (Nat.le_refl _) (List.prefix_refl _)
  have ob:=ob (by omega)
  obtain⟨H2,e2,l2,g2,k2,pre2⟩:=tail (finP ⟨p,n,[],[]⟩ rows rows.length) v' w' H' pH
  have gO2:=k2 _ _ hne (pre_get pH gO)
  have lh:=pre_len pH
  have lt2:=get_lt gO2
  ((try simp (maxSteps:=3000000) (dsimp:=false) (disch:=first|omega|simp only[lnx];omega) only[↓ypre,ypost,↓reduceIte,reduceEqDiff,reduceAdd,reduceSub,reduceLeDiff,zz0,ynew,prgV,o.st.one,o.st.cells,o.out.one,o.out.cells,fillL]);try simp only[yback])
  refine⟨pH,?_⟩
  ((try simp (maxSteps:=3000000) (dsimp:=false) (disch:=first|omega|simp only[lnx];omega) only[↓ypre,ypost,↓reduceIte,reduceEqDiff,reduceAdd,reduceSub,reduceLeDiff,zz0,ynew,e2,wr_of gO2,xres_nil]);try simp only[yback])
  refine hQ _ (H'.length+1) v' w' _ (by omega) (by rw[len_put];omega) (by rw[get_put_ne (by omega)];exact g2) (get_put_same lt2) (((o.inP ob lh).mono (Nat.le_refl _) (by omega)).move fun m bl q1 q2 g=>?_) (fun m bl q1 q2 g=>by rw[get_put_ne (fun e=>q2 e.symm)];exact k2 m bl q1 (pre_get pH g)) (fun h0 q1 q2 q=>pre_put (pre2 h0 q1 (q.trans pH)) q2)
  rw[get_put_ne (by omega)]
  exact k2 m bl (by omega) g
theorem i_programsOf {v:Value} {x:Sch} {b:Bool} {h:AH} {Q:Value→AH→Prop} (hv:Prods h v x.ps) (hx:isX x=true) (h0:1≤x.ps.length)
  (hQ:∀ (nb c1 c2:Nat) (h':AH) (v1 w1 v2 w2 v3 w3:Value),h<+:h'→(∃ fl,h'.get nb=some ⟨prgC (pgX x b 0) v1 w1++prgC (pgX x b 1) v2 w2++prgC (pgX x b 2) v3 w3,70,false,fl⟩)→h.length≤c1→InP h.length c1 h' v1 w1 (pgX x b 0)→InP c1 c2 h' v2 w2 (pgX x b 1)→InP c2 nb h' v3 w3 (pgX x b 2)→Q (.slice (some ⟨nb,0,none⟩) 3 4) h'):WF S 170 [schV x v,.bool b] h Q:=by
 refine WF_fn (fn:=c170) rfl rfl ?_
 dsimp only[c170,oO,oM,oS,oG,oK,oE,oL,oF,oX,oN]
 obtain⟨z,hp,hl,ho⟩:=isX_facts hx
 have zn:=z.nm
 have zm:=z.mk2
 have zk:=z.nk
 ((try simp (maxSteps:=3000000) (dsimp:=false) (disch:=first|omega|simp only[lnx];omega) only[↓ypre,ypost,↓reduceIte,reduceEqDiff,reduceAdd,reduceSub,reduceLeDiff,zz0,ynew,schV,hv.one]);try simp only[yback])
 generalize hH1:AH.new h _=H1
 obtain⟨hb1,p1,n1⟩:=new_facts hH1
 generalize hH2:AH.new H1 _=H2
 obtain⟨hb2,p2,n2⟩:=new_facts hH2
 ((try simp (maxSteps:=3000000) (dsimp:=false) (disch:=first|omega|simp only[lnx];omega) only[↓ypre,ypost,↓reduceIte,reduceEqDiff,reduceAdd,reduceSub,reduceLeDiff,zz0,ynew,rdn_of (pre_get p2 hb1)]);try simp only[yback])
 refine i_placesOf (x:=x) hv.one z fun H3 p3=>?_
 ((try simp (maxSteps:=3000000) (dsimp:=false) (disch:=first|omega|simp only[lnx];omega) only[↓ypre,ypost,↓reduceIte,reduceEqDiff,reduceAdd,reduceSub,reduceLeDiff,zz0]);try simp only[yback])
 generalize hH4:AH.new H3 _=H4
 obtain⟨hb4,p4,n4⟩:=new_facts hH4
 generalize hH5:AH.new H4 _=H5
 obtain⟨hb5,p5,n5⟩:=new_facts hH5
 ((try simp (maxSteps:=3000000) (dsimp:=false) (disch:=first|omega|simp only[lnx];omega) only[↓ypre,ypost,↓reduceIte,reduceEqDiff,reduceAdd,reduceSub,reduceLeDiff,zz0,wr_of hb5]);try simp only[yback])
 generalize hHP:AH.put H5 _ _=HP
 have lP:HP.length=H5.length:=by rw[←hHP,len_put]
 rw[←lP]
 obtain⟨e5,g5⟩:∃ e5,HP.get H4.length=some ⟨[I64 (x.n*x.m),I64 (x.m*x.k),I64 (x.n*x.k)],e5,false,true⟩:=⟨_,by rw[←hHP];exact get_put_same (get_lt hb5)⟩
 have g4:HP.get H3.length=some ⟨[],70,false,true⟩:=by rw[←hHP,get_put_ne (by omega)];exact pre_get p5 hb4
 have pP:H3<+:HP:=by rw[←hHP];exact pre_put (p4.trans p5) (by omega)
 obtain⟨a,ha⟩:∃ a:Nat,x.n*x.m=a:=⟨(x.n*x.m).toNat,by omega⟩
 obtain⟨b',hb'⟩:∃ b':Nat,x.m*x.k=b':=⟨(x.m*x.k).toNat,by omega⟩
 obtain⟨c',hc'⟩:∃ c':Nat,x.n*x.k=c':=⟨(x.n*x.k).toNat,by omega⟩
 have eA:fmX x 0=lsF x 0 a:=by
  show lsF x 0 (x.n*x.m).toNat=_
  rw[ha,Int.toNat_natCast]
 have eB:fmX x 1=lsF x 1 b':=by
  show lsF x 1 (x.m*x.k).toNat=_
  rw[hb',Int.toNat_natCast]
 have eC:fmX x 2=trL (lsF x 2 c') c':=by
  show trL (lsF x 2 (x.n*x.k).toNat) (x.n*x.k).toNat=_
  rw[hc',Int.toNat_natCast]
 have okA:lsOK x.p (x.n*x.m) (fmX x 0)=true:=fmX_ok hv hx h0 (i:=0) (by omega)
 have okB:lsOK x.p (x.m*x.k) (fmX x 1)=true:=fmX_ok hv hx h0 (i:=1) (by omega)
 have okC:lsOK x.p (x.ps.length:Int) (fmX x 2)=true:=fmX_ok hv hx h0 (i:=2) (by omega)
 rw[ha] at g5 okA
 rw[hb'] at g5 okB
 rw[hc'] at g5
 rw[eA] at okA
 rw[eB] at okB
 have ia0:ixaV 3 1 (.pointer (some ⟨H4.length,0,none⟩)) (I64 0)=some (.pointer (some ⟨H4.length,0,none⟩)):=by
  have:=ixa_u (n:=H4.length) (off:=0) (len:=3) (kk:=.i64) (j:=0) (by omega)
  simpa using this
 have ia1:ixaV 3 1 (.pointer (some ⟨H4.length,0,none⟩)) (I64 1)=some (.pointer (some ⟨H4.length,1,none⟩)):=by
  have:=ixa_u (n:=H4.length) (off:=0) (len:=3) (kk:=.i64) (j:=1) (by omega)
  simpa using this
 have ia2:ixaV 3 1 (.pointer (some ⟨H4.length,0,none⟩)) (I64 2)=some (.pointer (some ⟨H4.length,2,none⟩)):=by
  have:=ixa_u (n:=H4.length) (off:=0) (len:=3) (kk:=.i64) (j:=2) (by omega)
  simpa using this
 ((try simp (maxSteps:=3000000) (dsimp:=false) (disch:=first|omega|simp only[lnx];omega) only[↓ypre,ypost,↓reduceIte,reduceEqDiff,reduceAdd,reduceSub,reduceLeDiff,zz0,ynew]);try simp only[yback])
 generalize hH6:AH.new HP _=H6
 obtain⟨hb6,p6,n6⟩:=new_facts hH6
 have p13:=((p1.trans p2).trans p3).trans (pP.trans p6)
 have x6:=pre_get (p2.trans (p3.trans (pP.trans p6))) hb1
 have s6:=pre_get (p3.trans (pP.trans p6)) hb2
 have g56:=pre_get p6 g5
 have g46:=pre_get p6 g4
 have hv6:=hv.pre p13
 have k3:=pre_len p3
 ((try simp (maxSteps:=3000000) (dsimp:=false) (disch:=first|omega|simp only[lnx];omega) only[↓ypre,ypost,↓reduceIte,reduceEqDiff,reduceAdd,reduceSub,reduceLeDiff,zz0,ynew,ia0,rd1_of g56,rdn_of x6]);try simp only[yback])
 refine i_lists (x:=x) (i:=0) (n:=a) hv6 hl (by omega) (by omega) fun u1 H7 p7 r1=>?_
 ((try simp (maxSteps:=3000000) (dsimp:=false) (disch:=first|omega|simp only[lnx];omega) only[↓ypre,ypost,↓reduceIte,reduceEqDiff,reduceAdd,reduceSub,reduceLeDiff,zz0,ynew,WK_func]);try simp only[yback])
 have k7:=pre_len p7
 have l3:=get_lt hb4
 have nP:=pre_len pP
 have pP3:H3<+:H6:=pP.trans p6
 refine⟨p7,?_⟩
 refine i_made (p:=x.p) (n:=a) (rows:=lsF x 0 a) (k:=0) (c:=[]) (ms:=H1.length) (mx:=h.length) (mo:=HP.length) (nb:=H3.length) (b:=b) r1 okA (pre_get p7 s6) (pre_get p7 x6) (pre_get p7 hb6) (pre_get p7 g46) rfl (by omega) (by omega) fun val1 nb1 v1 w1 H8 ln8 lt8 g8 gO8 i8 keep8 pre8=>?_
 have q38:H3<+:H8:=pre8 H3 (Nat.le_refl _) (by omega) (pP3.trans p7)
 have g58:=keep8 _ _ (by omega) (by omega) (pre_get p7 g56)
 have x3:=pre_get (p2.trans p3) hb1
 have s3:=pre_get p3 hb2
 have x8:=pre_get q38 x3
 have hv8:=hv6.pre (h':=H6) (List.prefix_refl _)
 have p3h:=(p1.trans p2).trans p3
 ((try simp (maxSteps:=3000000) (dsimp:=false) (disch:=first|omega|simp only[lnx];omega) only[↓ypre,ypost,↓reduceIte,reduceEqDiff,reduceAdd,reduceSub,reduceLeDiff,zz0,ynew,ia1,rd1_of g58,rdn_of x8]);try simp only[yback])
 refine i_lists (x:=x) (i:=1) (n:=b') (hv.pre (p3h.trans q38)) hl (by omega) (by omega) fun u2 H9 p9 r2=>?_
 ((try simp (maxSteps:=3000000) (dsimp:=false) (disch:=first|omega|simp only[lnx];omega) only[↓ypre,ypost,↓reduceIte,reduceEqDiff,reduceAdd,reduceSub,reduceLeDiff,zz0,ynew,WK_func]);try simp only[yback])
 refine⟨p9,?_⟩
 have k9:=pre_len p9
 have h3lt:=pre_len p3h
 have x9:=pre_get p9 x8
 have s9:=pre_get (q38.trans p9) s3
 have ltx:=get_lt hb1
 have lts:=get_lt hb2
 have ka:=pre_len p1
 have kb:=pre_len p2
 refine i_made (p:=x.p) (n:=b') (rows:=lsF x 1 b') (k:=1) (ms:=H1.length) (mx:=h.length) (mo:=HP.length) (nb:=nb1) (b:=b) r2 okB s9 x9 (pre_get p9 gO8) (pre_get p9 g8) rfl (by omega) (by omega) fun val2 nb2 v2 w2 H10 ln10 lt10 g10 gO10 i10 keep10 pre10=>?_
 have q310:H3<+:H10:=pre10 H3 (by omega) (by omega) (q38.trans p9)
 have g510:=keep10 _ _ (by omega) (by omega) (pre_get p9 g58)
 have x10:=pre_get q310 x3
 have i8':=(i8.pre p9).move (h':=H10) fun m bl e1 e2 g=>keep10 m bl (by omega) (by omega) g
 ((try simp (maxSteps:=3000000) (dsimp:=false) (disch:=first|omega|simp only[lnx];omega) only[↓ypre,ypost,↓reduceIte,reduceEqDiff,reduceAdd,reduceSub,reduceLeDiff,zz0,ynew,rd1_of x10,rdn_of x10,ia2,rd1_of g510,(hv.pre (p3h.trans q310)).1.len]);try simp only[yback])
 refine i_lists (x:=x) (i:=2) (n:=c') (hv.pre (p3h.trans q310)) hl (by omega) (by omega) fun u3 H11 p11 r3=>?_
 ((try simp (maxSteps:=3000000) (dsimp:=false) (disch:=first|omega|simp only[lnx];omega) only[↓ypre,ypost,↓reduceIte,reduceEqDiff,reduceAdd,reduceSub,reduceLeDiff,zz0,ynew]);try simp only[yback])
 refine⟨p11,?_⟩
 refine i_transposed (rows:=lsF x 2 c') (w:=c') r3 (by rw[lsF_len];omega) (by rw[lsF_len];omega) (fun i hi=>?_) (by omega) fun u4 H12 p12 r4=>?_
 ·rw[lsF_len] at hi
  rw[lsF_get hi,List.length_take,((hv.by hi).seg (by omega)).1]
  omega
 rw[←eC] at r4
 have p1012:=p11.trans p12
 have k12:=pre_len p1012
 refine⟨p12,?_⟩
 ((try simp (maxSteps:=3000000) (dsimp:=false) (disch:=first|omega|simp only[lnx];omega) only[↓ypre,ypost,↓reduceIte,reduceEqDiff,reduceAdd,reduceSub,reduceLeDiff,zz0,ynew,WK_func]);try simp only[yback])
 refine i_made (p:=x.p) (n:=(x.ps.length:Int)) (rows:=fmX x 2) (k:=2) (ms:=H1.length) (mx:=h.length) (mo:=HP.length) (nb:=nb2) (b:=b) r4.rows okC (pre_get (q310.trans p1012) s3) (pre_get p1012 x10) (pre_get p1012 gO10) (pre_get p1012 g10) rfl (by omega) (by omega) fun val3 nb3 v3 w3 H13 ln13 lt13 g13 gO13 i13 keep13 pre13=>?_
 have q313:H3<+:H13:=pre13 H3 (by omega) (by omega) (q310.trans p1012)
 have i8'':=(i8'.pre p1012).move (h':=H13) fun m bl e1 e2 g=>keep13 m bl (by omega) (by omega) g
 have i10':=(i10.pre p1012).move (h':=H13) fun m bl e1 e2 g=>keep13 m bl (by omega) (by omega) g
 ((try simp (maxSteps:=3000000) (dsimp:=false) (disch:=first|omega|simp only[lnx];omega) only[↓ypre,ypost,↓reduceIte,reduceEqDiff,reduceAdd,reduceSub,reduceLeDiff,zz0,ynew,rd1_of gO13]);try simp only[yback])
 have E0:pgO x.p (a:Int) (lsF x 0 a) b=pgX x b 0:=by
  rw[←ha,←eA]
  rfl
 have E1:pgO x.p (b':Int) (lsF x 1 b') b=pgX x b 1:=by
  rw[←hb',←eB]
  rfl
 have E2:pgO x.p (x.ps.length:Int) (fmX x 2) b=pgX x b 2:=rfl
 rw[E0,E1,E2,List.nil_append] at g13
 rw[E0] at i8''
 rw[E1] at i10'
 rw[E2] at i13
 exact hQ nb3 nb1 nb2 _ v1 w1 v2 w2 v3 w3 (p3h.trans q313) ⟨_,g13⟩ (by omega) (i8''.mono (by omega) (Nat.le_refl _)) (i10'.mono (by omega) (Nat.le_refl _)) (i13.mono (by omega) (Nat.le_refl _))
end Go.Proofs.Ytapafdpnmakekaa.X

set_option linter.unusedVariables false
set_option linter.unusedSimpArgs false
set_option maxRecDepth 20000
set_option maxHeartbeats 4000000
namespace Go.Proofs.Ytapafdpnmakekaa.X
open Go Go.RowKit
end Go.Proofs.Ytapafdpnmakekaa.X
