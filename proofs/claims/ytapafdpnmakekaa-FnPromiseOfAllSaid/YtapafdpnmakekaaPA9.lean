/- Texts of one claim, put together by merge.py: XS5, XT1, XP8, XP4, XP6, XP12, XP13, XT2, XT3, XT4, XT5, XT6. -/
import Derived.Test.YtapafdpnmakekaaPA8
set_option linter.unusedVariables false
set_option linter.unusedSimpArgs false
set_option maxRecDepth 20000
set_option maxHeartbeats 4000000
namespace Go.Proofs.Ytapafdpnmakekaa.X
open Go Go.RowKit
open Nat (reduceEqDiff reduceAdd reduceSub reduceLeDiff)
def sz (n:Int):Bool:=decide (1≤n∧n≤3)
theorem s_l01Sizes {p n m k:Int} {h:AH} {Q:Value→AH→Prop} (hQ:Q (.bool (isP p&&sz n&&sz m&&sz k)) h):WF S 275 [I64 p,I64 n,I64 m,I64 k] h Q:=by
 refine WF_fn (fn:=c275) rfl rfl ?_
 dsimp only[c275,oO,oM,oS,oG,oK,oE,oL,oF,oX,oN]
 try simp (maxSteps:=3000000) (disch:=first|omega|simp only[lnx];omega) only[↓xpre,xpost,↓reduceIte,reduceEqDiff,reduceAdd,reduceSub,reduceLeDiff,zz0]
 refine s_l01Prime ?_
 cases c0:isP p with
 | false=>
  rw[c0] at hQ
  try simp (maxSteps:=3000000) (disch:=first|omega|simp only[lnx];omega) only[↓xpre,xpost,↓reduceIte,reduceEqDiff,reduceAdd,reduceSub,reduceLeDiff,zz0,WG_un]
  exact hQ
 | true=>
  rw[c0] at hQ
  try simp (maxSteps:=3000000) (disch:=first|omega|simp only[lnx];omega) only[↓xpre,xpost,↓reduceIte,reduceEqDiff,reduceAdd,reduceSub,reduceLeDiff,zz0]
  refine s_l01In ?_
  have e1:decide (1≤n∧n≤3)=sz n:=rfl
  have e2:decide (1≤m∧m≤3)=sz m:=rfl
  have e3:decide (1≤k∧k≤3)=sz k:=rfl
  rw[e1]
  cases c1:sz n with
  | false=>
   rw[c1] at hQ
   try simp (maxSteps:=3000000) (disch:=first|omega|simp only[lnx];omega) only[↓xpre,xpost,↓reduceIte,reduceEqDiff,reduceAdd,reduceSub,reduceLeDiff,zz0,WG_un]
   exact hQ
  | true=>
   rw[c1] at hQ
   try simp (maxSteps:=3000000) (disch:=first|omega|simp only[lnx];omega) only[↓xpre,xpost,↓reduceIte,reduceEqDiff,reduceAdd,reduceSub,reduceLeDiff,zz0]
   refine s_l01In ?_
   rw[e2]
   cases c2:sz m with
   | false=>
    rw[c2] at hQ
    try simp (maxSteps:=3000000) (disch:=first|omega|simp only[lnx];omega) only[↓xpre,xpost,↓reduceIte,reduceEqDiff,reduceAdd,reduceSub,reduceLeDiff,zz0,WG_un]
    exact hQ
   | true=>
    rw[c2] at hQ
    try simp (maxSteps:=3000000) (disch:=first|omega|simp only[lnx];omega) only[↓xpre,xpost,↓reduceIte,reduceEqDiff,reduceAdd,reduceSub,reduceLeDiff,zz0]
    refine s_l01In ?_
    rw[e3]
    try simp (maxSteps:=3000000) (disch:=first|omega|simp only[lnx];omega) only[↓xpre,xpost,↓reduceIte,reduceEqDiff,reduceAdd,reduceSub,reduceLeDiff,zz0]
    exact hQ
theorem i_isSize {v:Value} {ns:List Int} {h:AH} {Q:Value→AH→Prop} (hv:Ints h v ns) (hl:(ns.length:Int)≤1048576) (hQ:Q (.bool (ns.all sz)) h):WF S 167 [v] h Q:=by
 refine WF_fn (fn:=c167) rfl rfl ?_
 dsimp only[c167,oO,oM,oS,oG,oK,oE,oL,oF,oX,oN]
 try simp (maxSteps:=3000000) (disch:=first|omega|simp only[lnx];omega) only[↓xpre,xpost,↓reduceIte,reduceEqDiff,reduceAdd,reduceSub,reduceLeDiff,zz0,hv.len]
 refine WC_loop_inv (fun m f K1=>∃ (i:Nat),m=ns.length-i∧i≤ns.length∧f 5=v∧f 6=I64 ns.length∧f 7=I64 i∧(K1=h)∧(∀ j,j<i→sz (ns.getD j 0)=true)) ?_ (ns.length-0) _ _ ⟨0,rfl,by omega,(by first|rfl|simp[upd_apply]),(by first|rfl|simp[upd_apply]),(by first|rfl|simp[upd_apply]),rfl,(by omega)⟩
 rintro m f K1 ⟨i,rfl,hi,f5,f6,f7,hK,hj⟩
 subst hK
 try simp (maxSteps:=3000000) (disch:=first|omega|simp only[lnx];omega) only[↓xpre,xpost,↓reduceIte,reduceEqDiff,reduceAdd,reduceSub,reduceLeDiff,zz0,f5,f6,f7,IfW_dec]
 refine⟨fun hlt=>?_,fun hge=>?_⟩
 ·have hi':i<ns.length:=by omega
  have hix:=hv.ix (k:=.i64) (j:=i) (by omega) (by omega)
  have hrd:=hv.rd (j:=i) (by omega) (by omega)
  simp only[nth,Int.toNat_natCast] at hrd
  have no:sz (ns.getD i 0)=false→Q (.bool false) K1:=fun e=>by
   have:ns.all sz=false:=by
    rw[List.all_eq_false]
    refine⟨ns.getD i 0,?_,by rw[e];simp⟩
    rw[List.getD_eq_getElem?_getD,List.getElem?_eq_getElem hi']
    exact List.getElem_mem hi'
   rw[this] at hQ
   exact hQ
  by_cases c1:ns.getD i 0<1
  ·try simp (maxSteps:=3000000) (disch:=first|omega|simp only[lnx];omega) only[↓xpre,xpost,↓reduceIte,reduceEqDiff,reduceAdd,reduceSub,reduceLeDiff,zz0,f5,f6,f7,hix,hrd,decide_eq_true c1,WG_un]
   exact no (by unfold sz;exact decide_eq_false (by omega))
  by_cases c2:3<ns.getD i 0
  ·try simp (maxSteps:=3000000) (disch:=first|omega|simp only[lnx];omega) only[↓xpre,xpost,↓reduceIte,reduceEqDiff,reduceAdd,reduceSub,reduceLeDiff,zz0,f5,f6,f7,hix,hrd,decide_eq_false c1,decide_eq_true c2]
   exact no (by unfold sz;exact decide_eq_false (by omega))
  try simp (maxSteps:=3000000) (disch:=first|omega|simp only[lnx];omega) only[↓xpre,xpost,↓reduceIte,reduceEqDiff,reduceAdd,reduceSub,reduceLeDiff,zz0,f5,f6,f7,hix,hrd,decide_eq_false c1,decide_eq_false c2,wrap64_in]
  refine InvQ_go (ns.length-(i+1)) (by omega) ⟨(i+1),rfl,by omega,(by first|rfl|exact f5|(simp only[upd_apply];rfl)|(show I64 _=_;congr 1;omega)),(by first|rfl|exact f6|(simp only[upd_apply];rfl)|(show I64 _=_;congr 1;omega)),(by first|rfl|exact f7|(simp only[upd_apply];rfl)|(show I64 _=_;congr 1;omega)),rfl,(step_all hj (by unfold sz;exact decide_eq_true (by omega)))⟩
 ·try simp (maxSteps:=3000000) (disch:=first|omega|simp only[lnx];omega) only[↓xpre,xpost,↓reduceIte,reduceEqDiff,reduceAdd,reduceSub,reduceLeDiff,zz0,f5,f6,f7]
  have:ns.all sz=true:=by
   rw[List.all_eq_true]
   intro x hx
   obtain⟨j,hj',rfl⟩:=List.mem_iff_getElem.1 hx
   have:=hj j (by omega)
   rw[List.getD_eq_getElem?_getD,List.getElem?_eq_getElem hj'] at this
   exact this
  rw[this] at hQ
  exact hQ
def szX (x:Sch):Bool:=isP x.p&&sz x.n&&sz x.m&&sz x.k
structure SZ (x:Sch):Prop where
 p:2≤x.p∧x.p≤5
 n:1≤x.n∧x.n≤3
 m:1≤x.m∧x.m≤3
 k:1≤x.k∧x.k≤3
 nm:1≤x.n*x.m∧x.n*x.m≤9
 mk2:1≤x.m*x.k∧x.m*x.k≤9
 nk:1≤x.n*x.k∧x.n*x.k≤9
theorem szX_facts {x:Sch} (h:szX x=true):SZ x:=by
 simp only[szX,sz,Bool.and_eq_true,decide_eq_true_eq] at h
 obtain⟨⟨⟨h1,h2⟩,h3⟩,h4⟩:=h
 exact⟨isP_in h1,h2,h3,h4,mul_in1 (A:=3) (B:=3) h2 h3,mul_in1 (A:=3) (B:=3) h3 h4,mul_in1 (A:=3) (B:=3) h2 h4⟩
theorem xres_tmp3 {f:Fr} {h:AH} {t u w:Nat}:xres f h [.tmp t,.tmp u,.tmp w]=some (.tuple #[f t,f u,f w]):=rfl
theorem s_l01Lengths {x:Sch} {v:Value} {h:AH} {Q:Value→AH→Prop} (hv:isOne v=true) (z:SZ x) (hQ:∀ h',h<+:h'→Q (.tuple #[I64 (x.n*x.m),I64 (x.m*x.k),I64 (x.n*x.k)]) h'):WF S 300 [schV x v] h Q:=by
 refine WF_fn (fn:=c300) rfl rfl ?_
 dsimp only[c300,oO,oM,oS,oG,oK,oE,oL,oF,oX,oN]
 have:=z.nm
 have:=z.mk2
 have:=z.nk
 try simp (maxSteps:=3000000) (disch:=first|omega|simp only[lnx];omega) only[↓xpre,xpost,↓reduceIte,reduceEqDiff,reduceAdd,reduceSub,reduceLeDiff,zz0,schV,hv,wrap64_in,xres_tmp3]
 exact hQ _ (pre_new (List.prefix_refl _))
theorem i_placesOf {x:Sch} {v:Value} {h:AH} {Q:Value→AH→Prop} (hv:isOne v=true) (z:SZ x) (hQ:∀ h',h<+:h'→Q (.agg #[I64 (x.n*x.m),I64 (x.m*x.k),I64 (x.n*x.k)]) h'):WF S 271 [schV x v] h Q:=by
 refine WF_fn (fn:=c271) rfl rfl ?_
 dsimp only[c271,oO,oM,oS,oG,oK,oE,oL,oF,oX,oN]
 have:=z.nm
 have:=z.mk2
 have:=z.nk
 try simp (maxSteps:=3000000) (disch:=first|omega|simp only[lnx];omega) only[↓xpre,xpost,↓reduceIte,reduceEqDiff,reduceAdd,reduceSub,reduceLeDiff,zz0,schV,hv,wrap64_in,fillL]
 exact hQ _ (pre_new (pre_new (List.prefix_refl _)))
def pl (x:Sch) (i:Nat):Int:=if i=0 then x.n*x.m else if i=1 then x.m*x.k else x.n*x.k
def okProd (x:Sch) (q:List Int):Bool:=okForm x.p (pl x 0) (seg q 0)&&okForm x.p (pl x 1) (seg q 1)&&okForm x.p (pl x 2) (seg q 2)&&!hasZ q
theorem s_l01Product {x:Sch} {v:Value} {q:List Int} {h:AH} {Q:Value→AH→Prop} (hv:isOne v=true) (z:SZ x) (hq:By 27 q) (hQ:∀ h',h<+:h'→Q (.bool (okProd x q)) h') :
  WF S 276 [schV x v,aggV .u8 q] h Q:=by
 refine WF_fn (fn:=c276) rfl rfl ?_
 dsimp only[c276,oO,oM,oS,oG,oK,oE,oL,oF,oX,oN]
 have s0:q.take 9=seg q 0:=by unfold seg;simp
 have s1:(q.drop 9).take 9=seg q 1:=rfl
 have s2:(q.drop 18).take 9=seg q 2:=rfl
 try simp (maxSteps:=3000000) (disch:=first|omega|simp only[lnx];omega) only[↓xpre,xpost,↓reduceIte,reduceEqDiff,reduceAdd,reduceSub,reduceLeDiff,zz0,schV,hv,aggV,cel_all]
 generalize hH1:AH.new h _=H1
 obtain⟨hb1,p1,n1⟩:=new_facts hH1
 generalize hH2:AH.new H1 _=H2
 obtain⟨hb2,p2,n2⟩:=new_facts hH2
 have hb1:=pre_get p2 hb1
 try simp (maxSteps:=3000000) (disch:=first|omega|simp only[lnx];omega) only[↓xpre,xpost,↓reduceIte,reduceEqDiff,reduceAdd,reduceSub,reduceLeDiff,zz0,rdn_of hb1]
 refine s_l01Lengths hv z fun H3 p3=>?_
 have hb1:=pre_get p3 hb1
 have hb2:=pre_get p3 hb2
 try simp (maxSteps:=3000000) (disch:=first|omega|simp only[lnx];omega) only[↓xpre,xpost,↓reduceIte,reduceEqDiff,reduceAdd,reduceSub,reduceLeDiff,zz0,rd1_of hb1,rdn_of hb2,cel_len,hq.1,cel_take,cel_drop,List.drop_zero,s0,s1,s2]
 refine s_l01Form (hq.seg (by omega)) fun H4 p4=>?_
 have hb1:=pre_get p4 hb1
 have hb2:=pre_get p4 hb2
 unfold okProd hasZ at hQ
 have e0:pl x 0=x.n*x.m:=rfl
 have e1:pl x 1=x.m*x.k:=rfl
 have e2:pl x 2=x.n*x.k:=rfl
 rw[e0,e1,e2] at hQ
 have ph:=(p1.trans p2).trans (p3.trans p4)
 cases c0:okForm x.p (x.n*x.m) (seg q 0) with
 | false=>
  try simp (maxSteps:=3000000) (disch:=first|omega|simp only[lnx];omega) only[↓xpre,xpost,↓reduceIte,reduceEqDiff,reduceAdd,reduceSub,reduceLeDiff,zz0,WG_un]
  have:=hQ _ ph
  rw[c0] at this
  exact this
 | true=>
  rw[c0] at hQ
  try simp (maxSteps:=3000000) (disch:=first|omega|simp only[lnx];omega) only[↓xpre,xpost,↓reduceIte,reduceEqDiff,reduceAdd,reduceSub,reduceLeDiff,zz0,rd1_of hb1,rdn_of hb2,cel_len,hq.1,cel_take,cel_drop,s0,s1,s2]
  refine s_l01Form (hq.seg (by omega)) fun H5 p5=>?_
  have hb1:=pre_get p5 hb1
  have hb2:=pre_get p5 hb2
  have ph:=ph.trans p5
  cases c1:okForm x.p (x.m*x.k) (seg q 1) with
  | false=>
   try simp (maxSteps:=3000000) (disch:=first|omega|simp only[lnx];omega) only[↓xpre,xpost,↓reduceIte,reduceEqDiff,reduceAdd,reduceSub,reduceLeDiff,zz0,WG_un]
   have:=hQ _ ph
   rw[c1] at this
   exact this
  | true=>
   rw[c1] at hQ
   try simp (maxSteps:=3000000) (disch:=first|omega|simp only[lnx];omega) only[↓xpre,xpost,↓reduceIte,reduceEqDiff,reduceAdd,reduceSub,reduceLeDiff,zz0,rd1_of hb1,rdn_of hb2,cel_len,hq.1,cel_take,cel_drop,s0,s1,s2]
   refine s_l01Form (hq.seg (by omega)) fun H6 p6=>?_
   have hb1:=pre_get p6 hb1
   have hb2:=pre_get p6 hb2
   have ph:=ph.trans p6
   cases c2:okForm x.p (x.n*x.k) (seg q 2) with
   | false=>
    try simp (maxSteps:=3000000) (disch:=first|omega|simp only[lnx];omega) only[↓xpre,xpost,↓reduceIte,reduceEqDiff,reduceAdd,reduceSub,reduceLeDiff,zz0,WG_un]
    have:=hQ _ ph
    rw[c2] at this
    exact this
   | true=>
    rw[c2] at hQ
    try simp (maxSteps:=3000000) (disch:=first|omega|simp only[lnx];omega) only[↓xpre,xpost,↓reduceIte,reduceEqDiff,reduceAdd,reduceSub,reduceLeDiff,zz0,rdn_of hb2,cel_len,hq.1,cel_take,cel_drop,List.drop_zero,s0,s1,s2]
    refine s_l01Zero (hq.seg (by omega)).1 fun H7 p7=>?_
    have hb2:=pre_get p7 hb2
    have ph:=ph.trans p7
    cases d0:isZ (seg q 0) with
    | true=>
     try simp (maxSteps:=3000000) (disch:=first|omega|simp only[lnx];omega) only[↓xpre,xpost,↓reduceIte,reduceEqDiff,reduceAdd,reduceSub,reduceLeDiff,zz0,WG_un]
     have:=hQ _ ph
     rw[d0] at this
     exact this
    | false=>
     rw[d0] at hQ
     try simp (maxSteps:=3000000) (disch:=first|omega|simp only[lnx];omega) only[↓xpre,xpost,↓reduceIte,reduceEqDiff,reduceAdd,reduceSub,reduceLeDiff,zz0,rdn_of hb2,cel_len,hq.1,cel_take,cel_drop,s0,s1,s2]
     refine s_l01Zero (hq.seg (by omega)).1 fun H8 p8=>?_
     have hb2:=pre_get p8 hb2
     have ph:=ph.trans p8
     cases d1:isZ (seg q 1) with
     | true=>
      try simp (maxSteps:=3000000) (disch:=first|omega|simp only[lnx];omega) only[↓xpre,xpost,↓reduceIte,reduceEqDiff,reduceAdd,reduceSub,reduceLeDiff,zz0,WG_un]
      have:=hQ _ ph
      rw[d1] at this
      exact this
     | false=>
      rw[d1] at hQ
      try simp (maxSteps:=3000000) (disch:=first|omega|simp only[lnx];omega) only[↓xpre,xpost,↓reduceIte,reduceEqDiff,reduceAdd,reduceSub,reduceLeDiff,zz0,rdn_of hb2,cel_len,hq.1,cel_take,cel_drop,s0,s1,s2]
      refine s_l01Zero (hq.seg (by omega)).1 fun H9 p9=>?_
      have ph:=ph.trans p9
      try simp (maxSteps:=3000000) (disch:=first|omega|simp only[lnx];omega) only[↓xpre,xpost,↓reduceIte,reduceEqDiff,reduceAdd,reduceSub,reduceLeDiff,zz0]
      exact hQ _ ph
theorem i_factors {q:List Int} {h:AH} {Q:Value→AH→Prop} (hq:q.length=27) (hQ:∀ h',h<+:h'→Q (aggV .u8 q) h'):WF S 196 [aggV .u8 q] h Q:=by
 refine WF_fn (fn:=c196) rfl rfl ?_
 dsimp only[c196,oO,oM,oS,oG,oK,oE,oL,oF,oX,oN]
 have z27:(List.replicate 27 (0:Int)).length=27:=by simp
 have a1:(q.take 9).length=9:=by simp;omega
 have a2:((q.drop 9).take 9).length=9:=by simp;omega
 have a3:((q.drop 18).take 9).length=9:=by simp;omega
 have fl:fillL ([.int .u8 0,.int .u8 0,.int .u8 0,.int .u8 0,.int .u8 0,.int .u8 0,.int .u8 0,.int .u8 0,.int .u8 0,.int .u8 0,.int .u8 0,.int .u8 0,.int .u8 0,.int .u8 0,.int .u8 0,.int .u8 0,.int .u8 0,.int .u8 0,.int .u8 0,.int .u8 0,.int .u8 0,.int .u8 0,.int .u8 0,.int .u8 0,.int .u8 0,.int .u8 0,.int .u8 0]) [(0,9,.agg (cel .u8 (q.take 9)).toArray),(9,9,.agg (cel .u8 ((q.drop 9).take 9)).toArray),(18,9,.agg (cel .u8 ((q.drop 18).take 9)).toArray)]=some (cel .u8 q):=by
  have f0:List.replicate 27 0=fillN q 0:=by rw[fillN_zero,hq]
  have f3:fillN q 27=q:=by have:=fillN_all (ns:=q);rw[hq] at this;exact this
  have s1:=cel_fill (k:=.u8) (q:=q) (i:=0) (n:=9) (by omega)
  have s2:=cel_fill (k:=.u8) (q:=q) (i:=9) (n:=9) (by omega)
  have s3:=cel_fill (k:=.u8) (q:=q) (i:=18) (n:=9) (by omega)
  rw[List.drop_zero,←f0] at s1
  rw[f3] at s3
  have fl:∀ i,i≤27→(fillN q i).length=27:=fun i hi=>by rw[fillN_len (by omega),hq]
  rw[zeros27]
  simp only[fillL,cellsL_cel,cel_len,a1,a2,a3,z27,fl 9 (by omega),fl 18 (by omega),s1,s2,s3,cel_all,and_self,if_true,Nat.reduceAdd,Nat.reduceLeDiff,Nat.zero_add]
 have tk:q.take 27=q:=List.take_of_length_le (by omega)
 have w1:∀ (h1:AH) (e:TypeId),(h1.new ⟨[.int .u8 0,.int .u8 0,.int .u8 0,.int .u8 0,.int .u8 0,.int .u8 0,.int .u8 0,.int .u8 0,.int .u8 0,.int .u8 0,.int .u8 0,.int .u8 0,.int .u8 0,.int .u8 0,.int .u8 0,.int .u8 0,.int .u8 0,.int .u8 0,.int .u8 0,.int .u8 0,.int .u8 0,.int .u8 0,.int .u8 0,.int .u8 0,.int .u8 0,.int .u8 0,.int .u8 0],e,false,true⟩).wr h1.length 0 (cel .u8 q)=some (h1.new ⟨cel .u8 q,e,false,true⟩):=fun h1 e=>wr_all (by rw[cel_len,hq];rfl)
 try simp (maxSteps:=3000000) (disch:=first|omega|simp only[lnx];omega) only[↓xpre,xpost,↓reduceIte,reduceEqDiff,reduceAdd,reduceSub,reduceLeDiff,zz0,aggV,cel_all,cel_len,hq,cel_take,cel_drop,List.drop_zero,fl,↓w1,tk]
 exact hQ _ (pre_new (pre_new (List.prefix_refl _)))
theorem pl_get {x:Sch} {i:Nat} (hi:i<3):([I64 (x.n*x.m),I64 (x.m*x.k),I64 (x.n*x.k)]:List Value)[i]?=some (I64 (pl x i)):=by
 have:i=0∨i=1∨i=2:=by omega
 rcases this with rfl|rfl|rfl<;>rfl
theorem i_isProduct {x:Sch} {q:List Int} {h:AH} {Q:Value→AH→Prop} (z:SZ x) (hq:By 27 q) (hQ:∀ h',h<+:h'→Q (.bool (okProd x q)) h') :
  WF S 270 [I64 x.p,.agg #[I64 (x.n*x.m),I64 (x.m*x.k),I64 (x.n*x.k)],aggV .u8 q] h Q:=by
 refine WF_fn (fn:=c270) rfl rfl ?_
 dsimp only[c270,oO,oM,oS,oG,oK,oE,oL,oF,oX,oN]
 try simp (maxSteps:=3000000) (disch:=first|omega|simp only[lnx];omega) only[↓xpre,xpost,↓reduceIte,reduceEqDiff,reduceAdd,reduceSub,reduceLeDiff,zz0,aggV,cel_all]
 generalize hH1:AH.new h _=H1
 obtain⟨hb1,p1,n1⟩:=new_facts hH1
 generalize hH2:AH.new H1 _=H2
 obtain⟨hb2,p2,n2⟩:=new_facts hH2
 have hb1:=pre_get p2 hb1
 have tk:q.take 27=q:=List.take_of_length_le (by rw[hq.1];exact Nat.le_refl _)
 try simp (maxSteps:=3000000) (disch:=first|omega|simp only[lnx];omega) only[↓xpre,xpost,↓reduceIte,reduceEqDiff,reduceAdd,reduceSub,reduceLeDiff,zz0,rdn_of hb2,cel_len,hq.1,cel_take,tk]
 refine i_factors hq.1 fun H3 p3=>?_
 try simp (maxSteps:=3000000) (disch:=first|omega|simp only[lnx];omega) only[↓xpre,xpost,↓reduceIte,reduceEqDiff,reduceAdd,reduceSub,reduceLeDiff,zz0]
 refine WC_loop_inv (fun m f K1=>∃ (i:Nat),m=3-i∧i≤3∧f 0=I64 x.p∧f 4=.pointer (some ⟨h.length,0,none⟩)∧f 5=.pointer (some ⟨H1.length,0,none⟩)∧f 10=aggV .u8 q∧f 11=I64 i∧(H3<+:K1)∧(∀ j,j<i→okForm x.p (pl x j) (seg q j)=true)) ?_ (3-0) _ _ ⟨0,rfl,by omega,(by first|rfl|simp[upd_apply]),(by first|rfl|simp[upd_apply]),(by first|rfl|simp[upd_apply]),(by first|rfl|simp[upd_apply]),(by first|rfl|simp[upd_apply]),List.prefix_refl _,(by omega)⟩
 rintro m f K1 ⟨i,rfl,hi,f0,f4,f5,f10,f11,pp,hj⟩
 have hb1:=pre_get (p3.trans pp) hb1
 have hb2:=pre_get (p3.trans pp) hb2
 by_cases hlt:(i:Int)<3
 ·have hi':i<3:=by omega
  have e1:idxnV 3 9 (aggV .u8 q) (I64 i)=some (.agg (cel .u8 (seg q i)).toArray):=by
   simp only[idxnV,aggV,toL,Int.toNat_natCast,cel_len,hq.1]
   rw[if_pos ⟨by omega,by omega,by omega⟩]
   simp only[cel_drop,cel_take]
   rfl
  have sl:=(hq.seg hi').1
  have w1:∀ (h1:AH) (e:TypeId),(h1.new ⟨[.int .u8 0,.int .u8 0,.int .u8 0,.int .u8 0,.int .u8 0,.int .u8 0,.int .u8 0,.int .u8 0,.int .u8 0],e,false,true⟩).wr h1.length 0 (cel .u8 (seg q i))=some (h1.new ⟨cel .u8 (seg q i),e,false,true⟩):=fun h1 e=>wr_all (by rw[cel_len,sl];rfl)
  have ts:(seg q i).take 9=seg q i:=List.take_of_length_le (by omega)
  have lt1:=get_lt hb1
  try simp (maxSteps:=3000000) (disch:=first|omega|simp only[lnx];omega) only[↓xpre,xpost,↓reduceIte,reduceEqDiff,reduceAdd,reduceSub,reduceLeDiff,zz0,f0,f4,f5,f10,f11,decide_eq_true hlt,↓WX_idxn,e1,cel_all,cel_len,sl,↓w1,↓WX_ixa,ixaV_ptr,Int.toNat_natCast,Nat.mul_one,rd1_of hb1,pl_get hi',cel_take,ts]
  refine i_isForm (hq.seg hi') fun H4 p4=>?_
  cases c0:okForm x.p (pl x i) (seg q i) with
  | false=>
   try simp (maxSteps:=3000000) (disch:=first|omega|simp only[lnx];omega) only[↓xpre,xpost,↓reduceIte,reduceEqDiff,reduceAdd,reduceSub,reduceLeDiff,zz0,f0,f4,f5,f10,f11]
   have:=hQ _ ((p1.trans p2).trans ((p3.trans pp).trans ((pre_new (List.prefix_refl _)).trans p4)))
   have e2:okProd x q=false:=by
    unfold okProd
    have:i=0∨i=1∨i=2:=by omega
    rcases this with rfl|rfl|rfl<;>simp[c0]
   rw[e2] at this
   exact this
  | true=>
   try simp (maxSteps:=3000000) (disch:=first|omega|simp only[lnx];omega) only[↓xpre,xpost,↓reduceIte,reduceEqDiff,reduceAdd,reduceSub,reduceLeDiff,zz0,f0,f4,f5,f10,f11,wrap64_in]
   refine InvQ_go (3-(i+1)) (by omega) ⟨(i+1),rfl,by omega,(by first|rfl|exact f0|(simp only[upd_apply];rfl)|(show I64 _=_;congr 1;omega)),(by first|rfl|exact f4|(simp only[upd_apply];rfl)|(show I64 _=_;congr 1;omega)),(by first|rfl|exact f5|(simp only[upd_apply];rfl)|(show I64 _=_;congr 1;omega)),(by first|rfl|exact f10|(simp only[upd_apply];rfl)|(show I64 _=_;congr 1;omega)),(by first|rfl|exact f11|(simp only[upd_apply];rfl)|(show I64 _=_;congr 1;omega)),(pp.trans ((pre_new (List.prefix_refl _)).trans p4)),(step_all hj c0)⟩
 ·try simp (maxSteps:=3000000) (disch:=first|omega|simp only[lnx];omega) only[↓xpre,xpost,↓reduceIte,reduceEqDiff,reduceAdd,reduceSub,reduceLeDiff,zz0,f0,f4,f5,f10,f11,decide_eq_false hlt,rdn_of hb2,cel_len,hq.1,cel_take,tk]
  refine i_hasZero hq fun H4 p4=>?_
  try simp (maxSteps:=3000000) (disch:=first|omega|simp only[lnx];omega) only[↓xpre,xpost,↓reduceIte,reduceEqDiff,reduceAdd,reduceSub,reduceLeDiff,zz0,f0,f4,f5,f10,f11]
  have:=hQ _ ((p1.trans p2).trans ((p3.trans pp).trans p4))
  have e2:okProd x q=!hasZ q:=by
   unfold okProd
   rw[hj 0 (by omega),hj 1 (by omega),hj 2 (by omega)]
   simp
  rw[e2] at this
  exact this
def isX (x:Sch):Bool:=szX x&&decide (x.ps.length≤30)&&x.ps.all (okProd x)
theorem Prods.by {h:AH} {v:Value} {L:List (List Int)} (hv:Prods h v L) {i:Nat} (hi:i<L.length):By 27 (L.getD i []):=⟨hv.1.wid hi,hv.2 i hi⟩
theorem all_getD {α:Type} {d:α} {f:α→Bool} {L:List α} (h:∀ j,j<L.length→f (L.getD j d)=true):L.all f=true:=by
 rw[List.all_eq_true]
 intro x hx
 obtain⟨j,hj,rfl⟩:=List.mem_iff_getElem.1 hx
 have:=h j hj
 rw[List.getD_eq_getElem?_getD,List.getElem?_eq_getElem hj] at this
 exact this
theorem all_getD_f {α:Type} {d:α} {f:α→Bool} {L:List α} {j:Nat} (hj:j<L.length) (h:f (L.getD j d)=false):L.all f=false:=by
 rw[List.all_eq_false]
 refine⟨L.getD j d,?_,by rw[h];simp⟩
 rw[List.getD_eq_getElem?_getD,List.getElem?_eq_getElem hj]
 exact List.getElem_mem hj
theorem s_l01Is {v:Value} {x:Sch} {h:AH} {Q:Value→AH→Prop} (hv:Prods h v x.ps) (hl:SmallX x.ps) (hQ:∀ h',h<+:h'→Q (.bool (isX x)) h'):WF S 154 [schV x v] h Q:=by
 refine WF_fn (fn:=c154) rfl rfl ?_
 dsimp only[c154,oO,oM,oS,oG,oK,oE,oL,oF,oX,oN]
 unfold SmallX at hl
 try simp (maxSteps:=3000000) (disch:=first|omega|simp only[lnx];omega) only[↓xpre,xpost,↓reduceIte,reduceEqDiff,reduceAdd,reduceSub,reduceLeDiff,zz0,schV,hv.one]
 generalize hH1:AH.new h _=H1
 obtain⟨hb1,p1,n1⟩:=new_facts hH1
 try simp (maxSteps:=3000000) (disch:=first|omega|simp only[lnx];omega) only[↓xpre,xpost,↓reduceIte,reduceEqDiff,reduceAdd,reduceSub,reduceLeDiff,zz0,rd1_of hb1]
 refine s_l01Sizes ?_
 have hQ1:=hQ _ p1
 unfold isX at hQ hQ1
 have e0:(isP x.p&&sz x.n&&sz x.m&&sz x.k)=szX x:=rfl
 rw[e0]
 cases c0:szX x with
 | false=>
  try simp (maxSteps:=3000000) (disch:=first|omega|simp only[lnx];omega) only[↓xpre,xpost,↓reduceIte,reduceEqDiff,reduceAdd,reduceSub,reduceLeDiff,zz0,WG_un]
  rw[c0] at hQ1
  exact hQ1
 | true=>
  rw[c0] at hQ hQ1
  have z:=szX_facts c0
  by_cases c1:(30:Int)<x.ps.length
  ·try simp (maxSteps:=3000000) (disch:=first|omega|simp only[lnx];omega) only[↓xpre,xpost,↓reduceIte,reduceEqDiff,reduceAdd,reduceSub,reduceLeDiff,zz0,rd1_of hb1,(hv.pre p1).1.len,decide_eq_true c1]
   rw[decide_eq_false (show ¬ x.ps.length≤30 by omega)] at hQ1
   exact hQ1
  rw[decide_eq_true (show x.ps.length≤30 by omega)] at hQ
  try simp (maxSteps:=3000000) (disch:=first|omega|simp only[lnx];omega) only[↓xpre,xpost,↓reduceIte,reduceEqDiff,reduceAdd,reduceSub,reduceLeDiff,zz0,rd1_of hb1,(hv.pre p1).1.len,decide_eq_false c1]
  refine WC_loop_inv (fun m f K1=>∃ (i:Nat),m=x.ps.length-i∧i≤x.ps.length∧f 1=.pointer (some ⟨h.length,0,none⟩)∧f 3=I64 i∧(H1<+:K1)∧(∀ j,j<i→okProd x (x.ps.getD j [])=true)) ?_ (x.ps.length-0) _ _ ⟨0,rfl,by omega,(by first|rfl|simp[upd_apply]),(by first|rfl|simp[upd_apply]),List.prefix_refl _,(by omega)⟩
  rintro m f K1 ⟨i,rfl,hi,f1,f3,pp,hj⟩
  have hb1:=pre_get pp hb1
  have hvK:=hv.pre (p1.trans pp)
  try simp (maxSteps:=3000000) (disch:=first|omega|simp only[lnx];omega) only[↓xpre,xpost,↓reduceIte,reduceEqDiff,reduceAdd,reduceSub,reduceLeDiff,zz0,f1,f3,rd1_of hb1,hvK.1.len,IfW_dec]
  refine⟨fun hlt=>?_,fun hge=>?_⟩
  ·have hi':i<x.ps.length:=by omega
   obtain⟨n,off,hix,hrn,hr1⟩:=hvK.1.at hi'
   have r27:=hrn 0 27 (by omega)
   rw[List.drop_zero,List.take_of_length_le (by rw[hvK.1.wid hi'];exact Nat.le_refl _),Nat.add_zero] at r27
   try simp (maxSteps:=3000000) (disch:=first|omega|simp only[lnx];omega) only[↓xpre,xpost,↓reduceIte,reduceEqDiff,reduceAdd,reduceSub,reduceLeDiff,zz0,f1,f3,rdn_of hb1,rd1_of hb1,hix,r27]
   refine s_l01Product hvK.one z (hvK.by hi') fun H2 p2=>?_
   cases c2:okProd x (x.ps.getD i []) with
   | false=>
    try simp (maxSteps:=3000000) (disch:=first|omega|simp only[lnx];omega) only[↓xpre,xpost,↓reduceIte,reduceEqDiff,reduceAdd,reduceSub,reduceLeDiff,zz0,f1,f3]
    have:=hQ _ ((p1.trans pp).trans p2)
    rw[all_getD_f hi' c2] at this
    exact this
   | true=>
    try simp (maxSteps:=3000000) (disch:=first|omega|simp only[lnx];omega) only[↓xpre,xpost,↓reduceIte,reduceEqDiff,reduceAdd,reduceSub,reduceLeDiff,zz0,f1,f3,wrap64_in]
    refine InvQ_go (x.ps.length-(i+1)) (by omega) ⟨(i+1),rfl,by omega,(by first|rfl|exact f1|(simp only[upd_apply];rfl)|(show I64 _=_;congr 1;omega)),(by first|rfl|exact f3|(simp only[upd_apply];rfl)|(show I64 _=_;congr 1;omega)),(pp.trans p2),(step_all hj c2)⟩
  ·try simp (maxSteps:=3000000) (disch:=first|omega|simp only[lnx];omega) only[↓xpre,xpost,↓reduceIte,reduceEqDiff,reduceAdd,reduceSub,reduceLeDiff,zz0,f1,f3]
   have:=hQ _ (p1.trans pp)
   rw[all_getD (d:=[]) fun j hj'=>hj j (by omega)] at this
   exact this
theorem i_IsScheme {v:Value} {x:Sch} {h:AH} {Q:Value→AH→Prop} (hv:Prods h v x.ps) (hl:SmallX x.ps) (hQ:∀ h',h<+:h'→Q (.bool (isX x)) h'):WF S 149 [schV x v] h Q:=by
 refine WF_fn (fn:=c149) rfl rfl ?_
 dsimp only[c149,oO,oM,oS,oG,oK,oE,oL,oF,oX,oN]
 unfold SmallX at hl
 try simp (maxSteps:=3000000) (disch:=first|omega|simp only[lnx];omega) only[↓xpre,xpost,↓reduceIte,reduceEqDiff,reduceAdd,reduceSub,reduceLeDiff,zz0,schV,hv.one]
 generalize hH1:AH.new h _=H1
 obtain⟨hb1,p1,n1⟩:=new_facts hH1
 try simp (maxSteps:=3000000) (disch:=first|omega|simp only[lnx];omega) only[↓xpre,xpost,↓reduceIte,reduceEqDiff,reduceAdd,reduceSub,reduceLeDiff,zz0,rd1_of hb1]
 refine i_isPrime ?_
 have hQ1:=hQ _ p1
 unfold isX at hQ hQ1
 cases c0:isP x.p with
 | false=>
  try simp (maxSteps:=3000000) (disch:=first|omega|simp only[lnx];omega) only[↓xpre,xpost,↓reduceIte,reduceEqDiff,reduceAdd,reduceSub,reduceLeDiff,zz0,WG_un]
  have:szX x=false:=by unfold szX;rw[c0];rfl
  rw[this] at hQ1
  exact hQ1
 | true=>
  try simp (maxSteps:=3000000) (disch:=first|omega|simp only[lnx];omega) only[↓xpre,xpost,↓reduceIte,reduceEqDiff,reduceAdd,reduceSub,reduceLeDiff,zz0,rd1_of hb1,fillL,zrep]
  generalize hH2:AH.new H1 _=H2
  obtain⟨hb2,p2,n2⟩:=new_facts hH2
  have hb1:=pre_get p2 hb1
  refine i_isSize (ns:=[x.n,x.m,x.k]) (Ints.own (ns:=[x.n,x.m,x.k]) hb2 rfl) (by simp) ?_
  have e0:([x.n,x.m,x.k]:List Int).all sz=szX x:=by unfold szX;rw[c0];simp[Bool.and_assoc]
  rw[e0]
  have hQ2:=hQ _ (p1.trans p2)
  cases c1:szX x with
  | false=>
   try simp (maxSteps:=3000000) (disch:=first|omega|simp only[lnx];omega) only[↓xpre,xpost,↓reduceIte,reduceEqDiff,reduceAdd,reduceSub,reduceLeDiff,zz0,WG_un]
   rw[c1] at hQ2
   exact hQ2
  | true=>
   rw[c1] at hQ hQ2
   have z:=szX_facts c1
   by_cases c2:(30:Int)<x.ps.length
   ·try simp (maxSteps:=3000000) (disch:=first|omega|simp only[lnx];omega) only[↓xpre,xpost,↓reduceIte,reduceEqDiff,reduceAdd,reduceSub,reduceLeDiff,zz0,rd1_of hb1,(hv.pre (p1.trans p2)).1.len,decide_eq_true c2]
    rw[decide_eq_false (show ¬ x.ps.length≤30 by omega)] at hQ2
    exact hQ2
   rw[decide_eq_true (show x.ps.length≤30 by omega)] at hQ
   try simp (maxSteps:=3000000) (disch:=first|omega|simp only[lnx];omega) only[↓xpre,xpost,↓reduceIte,reduceEqDiff,reduceAdd,reduceSub,reduceLeDiff,zz0,rd1_of hb1,(hv.pre (p1.trans p2)).1.len,decide_eq_false c2]
   refine WC_loop_inv (fun m f K1=>∃ (i:Nat),m=x.ps.length-i∧i≤x.ps.length∧f 1=.pointer (some ⟨h.length,0,none⟩)∧f 27=v∧f 28=I64 x.ps.length∧f 29=I64 i∧(H2<+:K1)∧(∀ j,j<i→okProd x (x.ps.getD j [])=true)) ?_ (x.ps.length-0) _ _ ⟨0,rfl,by omega,(by first|rfl|simp[upd_apply]),(by first|rfl|simp[upd_apply]),(by first|rfl|simp[upd_apply]),(by first|rfl|simp[upd_apply]),List.prefix_refl _,(by omega)⟩
   rintro m f K1 ⟨i,rfl,hi,f1,f27,f28,f29,pp,hj⟩
   have hb1:=pre_get pp hb1
   have hvK:=hv.pre ((p1.trans p2).trans pp)
   by_cases hlt:(i:Int)<x.ps.length
   ·have hi':i<x.ps.length:=by omega
    obtain⟨n,off,hix,hrn,hr1⟩:=hvK.1.at hi'
    have r27:=hrn 0 27 (by omega)
    have wi:=hvK.1.wid hi'
    have tk:(x.ps.getD i []).take 27=x.ps.getD i []:=List.take_of_length_le (by omega)
    rw[List.drop_zero,tk,Nat.add_zero] at r27
    have w1:∀ (h1:AH) (e:TypeId),(h1.new ⟨[.int .u8 0,.int .u8 0,.int .u8 0,.int .u8 0,.int .u8 0,.int .u8 0,.int .u8 0,.int .u8 0,.int .u8 0,.int .u8 0,.int .u8 0,.int .u8 0,.int .u8 0,.int .u8 0,.int .u8 0,.int .u8 0,.int .u8 0,.int .u8 0,.int .u8 0,.int .u8 0,.int .u8 0,.int .u8 0,.int .u8 0,.int .u8 0,.int .u8 0,.int .u8 0,.int .u8 0],e,false,true⟩).wr h1.length 0 (cel .u8 (x.ps.getD i []))=some (h1.new ⟨cel .u8 (x.ps.getD i []),e,false,true⟩):=fun h1 e=>wr_all (by rw[cel_len,wi];rfl)
    try simp (maxSteps:=3000000) (disch:=first|omega|simp only[lnx];omega) only[↓xpre,xpost,↓reduceIte,reduceEqDiff,reduceAdd,reduceSub,reduceLeDiff,zz0,f1,f27,f28,f29,decide_eq_true hlt,hix,r27,cel_all,cel_len,wi,↓w1]
    generalize hH3:AH.new K1 _=H3
    obtain⟨hb3,p3,n3⟩:=new_facts hH3
    have hb1:=pre_get p3 hb1
    try simp (maxSteps:=3000000) (disch:=first|omega|simp only[lnx];omega) only[↓xpre,xpost,↓reduceIte,reduceEqDiff,reduceAdd,reduceSub,reduceLeDiff,zz0,f1,f27,f28,f29,rd1_of hb1,rdn_of hb1]
    refine i_placesOf hvK.one z fun H4 p4=>?_
    have hb1:=pre_get p4 hb1
    have hb3:=pre_get p4 hb3
    try simp (maxSteps:=3000000) (disch:=first|omega|simp only[lnx];omega) only[↓xpre,xpost,↓reduceIte,reduceEqDiff,reduceAdd,reduceSub,reduceLeDiff,zz0,f1,f27,f28,f29,rdn_of hb3,cel_len,wi,cel_take,tk]
    refine⟨p4,?_⟩
    refine i_isProduct z (hvK.by hi') fun H5 p5=>?_
    cases c3:okProd x (x.ps.getD i []) with
    | false=>
     try simp (maxSteps:=3000000) (disch:=first|omega|simp only[lnx];omega) only[↓xpre,xpost,↓reduceIte,reduceEqDiff,reduceAdd,reduceSub,reduceLeDiff,zz0,f1,f27,f28,f29]
     have:=hQ _ (((p1.trans p2).trans pp).trans ((p3.trans p4).trans p5))
     rw[all_getD_f hi' c3] at this
     exact this
    | true=>
     try simp (maxSteps:=3000000) (disch:=first|omega|simp only[lnx];omega) only[↓xpre,xpost,↓reduceIte,reduceEqDiff,reduceAdd,reduceSub,reduceLeDiff,zz0,f1,f27,f28,f29,wrap64_in]
     refine InvQ_go (x.ps.length-(i+1)) (by omega) ⟨(i+1),rfl,by omega,(by first|rfl|exact f1|(simp only[upd_apply];rfl)|(show I64 _=_;congr 1;omega)),(by first|rfl|exact f27|(simp only[upd_apply];rfl)|(show I64 _=_;congr 1;omega)),(by first|rfl|exact f28|(simp only[upd_apply];rfl)|(show I64 _=_;congr 1;omega)),(by first|rfl|exact f29|(simp only[upd_apply];rfl)|(show I64 _=_;congr 1;omega)),(pp.trans ((p3.trans p4).trans p5)),(step_all hj c3)⟩
   ·try simp (maxSteps:=3000000) (disch:=first|omega|simp only[lnx];omega) only[↓xpre,xpost,↓reduceIte,reduceEqDiff,reduceAdd,reduceSub,reduceLeDiff,zz0,f1,f27,f28,f29,decide_eq_false hlt]
    have:=hQ _ ((p1.trans p2).trans pp)
    rw[all_getD (d:=[]) fun j hj'=>hj j (by omega)] at this
    exact this
def bs:Nat→(Nat→Bool)→Nat
 | 0,_=>0
 | R+1,f=>bs R f+(if f R=true then 2^R else 0)
theorem bs_lt {f:Nat→Bool}:∀ {R:Nat},bs R f<2^R
 | 0=>by simp[bs]
 | R+1=>by
  have:=bs_lt (f:=f) (R:=R)
  unfold bs
  rw[Nat.pow_succ]
  split<;>omega
theorem bs_bit {f:Nat→Bool}:∀ {R k:Nat},(bs R f).testBit k=(decide (k<R)&&f k)
 | 0,k=>by simp[bs]
 | R+1,k=>by
  have ih:=bs_bit (f:=f) (R:=R) (k:=k)
  have lt:=bs_lt (f:=f) (R:=R)
  unfold bs
  by_cases hf:f R=true
  ·rw[if_pos hf]
   rw[Nat.add_comm]
   by_cases h1:k<R
   ·rw[Nat.testBit_two_pow_add_gt h1,ih,decide_eq_true h1,decide_eq_true (show k<R+1 by omega)]
   ·by_cases h2:k=R
    ·subst h2
     rw[Nat.testBit_two_pow_add_eq,ih,hf]
     simp
    ·rw[Nat.testBit_lt_two_pow,decide_eq_false (by omega),Bool.false_and]
     have:2^(R+1)≤2^k:=Nat.pow_le_pow_right (by omega) (by omega)
     rw[Nat.pow_succ] at this
     omega
  ·rw[if_neg hf,Nat.add_zero,ih]
   by_cases h2:k=R
   ·subst h2
    simp[hf]
   ·by_cases h1:k<R
    ·rw[decide_eq_true h1,decide_eq_true (show k<R+1 by omega)]
    ·rw[decide_eq_false h1,decide_eq_false (by omega)]
theorem bs_of {n R:Nat} {f:Nat→Bool} (h:∀ k,n.testBit k=(decide (k<R)&&f k)):n=bs R f:=Nat.eq_of_testBit_eq fun k=>by rw[h,bs_bit]
theorem bs_congr {R:Nat} {f g:Nat→Bool} (h:∀ k,k<R→f k=g k):bs R f=bs R g:=bs_of fun k=>by
 rw[bs_bit]
 by_cases hk:k<R
 ·rw[h k hk]
 ·rw[decide_eq_false hk,Bool.false_and,Bool.false_and]
theorem bs_32 {R:Nat} {f:Nat→Bool} (hR:R≤32):bs R f<4294967296:=by
 have:=bs_lt (R:=R) (f:=f)
 have h2:2^R≤2^32:=Nat.pow_le_pow_right (by omega) hR
 have:(2:Nat)^32=4294967296:=by decide
 omega
def U32 (n:Nat):Value:=.int .u32 (n:Int)
theorem wrapU {n:Nat} (h:n<4294967296):IntKind.u32.wrap (n:Int)=n:=by
 simp only[IntKind.wrap,IntKind.signed,IntKind.bits]
 have e:(n:Int)%4294967296=n:=Int.emod_eq_of_lt (by omega) (by omega)
 simpa using e
theorem ofInt_nat {n:Nat}:BitVec.ofInt 32 (n:Int)=BitVec.ofNat 32 n:=by simp
section
variable {R:Nat} {f g:Nat→Bool}
theorem bv_bit {n k:Nat} (h:n<4294967296):(BitVec.ofNat 32 n).getLsbD k=n.testBit k:=by
 rw[BitVec.getLsbD_ofNat]
 by_cases hk:k<32
 ·simp[hk]
 ·rw[decide_eq_false hk,Bool.false_and,Nat.testBit_lt_two_pow]
  have:2^32≤2^k:=Nat.pow_le_pow_right (by omega) (by omega)
  omega
theorem bin_and (hR:R≤32):xbin .and (U32 (bs R f)) (U32 (bs R g))=some (U32 (bs R fun k=>f k&&g k)):=by
 have e:(BitVec.ofInt 32 ((bs R f:Nat):Int) &&& BitVec.ofInt 32 ((bs R g:Nat):Int)).toNat=bs R fun k=>f k&&g k:=bs_of fun k=>by
  rw[BitVec.testBit_toNat,BitVec.getLsbD_and,ofInt_nat,ofInt_nat,bv_bit (bs_32 hR),bv_bit (bs_32 hR),bs_bit,bs_bit]
  cases decide (k<R)<;>simp
 show (if IntKind.u32=IntKind.u32 then some (Value.int .u32 (IntKind.u32.wrap ((BitVec.ofInt 32 ((bs R f:Nat):Int) &&& BitVec.ofInt 32 ((bs R g:Nat):Int)).toNat:Int))) else none)=_
 rw[if_pos rfl,e,wrapU (bs_32 hR)]
 rfl
theorem bin_or (hR:R≤32):xbin .or (U32 (bs R f)) (U32 (bs R g))=some (U32 (bs R fun k=>f k||g k)):=by
 have e:(BitVec.ofInt 32 ((bs R f:Nat):Int) ||| BitVec.ofInt 32 ((bs R g:Nat):Int)).toNat=bs R fun k=>f k||g k:=bs_of fun k=>by
  rw[BitVec.testBit_toNat,BitVec.getLsbD_or,ofInt_nat,ofInt_nat,bv_bit (bs_32 hR),bv_bit (bs_32 hR),bs_bit,bs_bit]
  cases decide (k<R)<;>simp
 show (if IntKind.u32=IntKind.u32 then some (Value.int .u32 (IntKind.u32.wrap ((BitVec.ofInt 32 ((bs R f:Nat):Int) ||| BitVec.ofInt 32 ((bs R g:Nat):Int)).toNat:Int))) else none)=_
 rw[if_pos rfl,e,wrapU (bs_32 hR)]
 rfl
theorem bin_andNot (hR:R≤32):xbin .andNot (U32 (bs R f)) (U32 (bs R g))=some (U32 (bs R fun k=>f k&&!g k)):=by
 have e:(BitVec.ofInt 32 ((bs R f:Nat):Int) &&& ~~~ BitVec.ofInt 32 ((bs R g:Nat):Int)).toNat=bs R fun k=>f k&&!g k:=bs_of fun k=>by
  rw[BitVec.testBit_toNat,BitVec.getLsbD_and,BitVec.getLsbD_not,ofInt_nat,ofInt_nat,bv_bit (bs_32 hR),bv_bit (bs_32 hR),bs_bit,bs_bit]
  by_cases hk:k<R
  ·rw[decide_eq_true hk,decide_eq_true (show k<32 by omega)]
   simp
  ·rw[decide_eq_false hk]
   simp
 show (if IntKind.u32=IntKind.u32 then some (Value.int .u32 (IntKind.u32.wrap ((BitVec.ofInt 32 ((bs R f:Nat):Int) &&& ~~~ BitVec.ofInt 32 ((bs R g:Nat):Int)).toNat:Int))) else none)=_
 rw[if_pos rfl,e,wrapU (bs_32 hR)]
 rfl
theorem bin_shl {r:Nat} (hr:r<R) (hR:R≤32):xbin .shl (.int .u32 1) (I64 r)=some (U32 (bs R fun k=>k==r)):=by
 have e:(1:Int)*2^(min ((r:Int).toNat) 32)=((2^r:Nat):Int):=by
  rw[Int.toNat_natCast,Nat.min_eq_left (by omega),Int.one_mul]
  simp
 have e2:2^r=bs R fun k=>k==r:=bs_of fun k=>by
  rw[Nat.testBit_two_pow]
  by_cases h:r=k
  ·subst h
   simp[hr]
  ·rw[decide_eq_false h]
   have:(k==r)=false:=by simpa using fun e=>h e.symm
   rw[this,Bool.and_false]
 show (if (0:Int)≤(r:Int) then some (Value.int .u32 (IntKind.u32.wrap ((1:Int)*2^(min ((r:Int).toNat) 32)))) else none)=_
 rw[if_pos (by omega),e,e2,wrapU (bs_32 hR)]
 rfl
theorem bin_pick {r:Nat} (hR:R≤32) (hr:r<R):xbin .shr (U32 (bs R f)) (I64 r)=some (U32 (bs R f >>> r))∧xbin .and (U32 (bs R f >>> r)) (.int .u32 1)=some (.int .u32 (if f r=true then 1 else 0)):=by
 have h32:=bs_32 (f:=f) hR
 have hs:bs R f >>> r≤bs R f:=Nat.shiftRight_le _ _
 constructor
 ·show (if (0:Int)≤(r:Int) then some (Value.int .u32 (((bs R f:Nat):Int).fdiv (2^(min ((r:Int).toNat) 32)))) else none)=_
  rw[if_pos (by omega),Int.toNat_natCast,Nat.min_eq_left (by omega)]
  unfold U32
  rw[Nat.shiftRight_eq_div_pow]
  have:((bs R f:Nat):Int).fdiv (2^r)=((bs R f / 2^r:Nat):Int):=by
   rw[Int.fdiv_eq_ediv_of_nonneg _ (by exact_mod_cast Nat.zero_le _)]
   simp
  rw[this]
 ·have e:(BitVec.ofInt 32 ((bs R f >>> r:Nat):Int) &&& BitVec.ofInt 32 1).toNat=if f r=true then 1 else 0:=by
   have e1:BitVec.ofInt 32 1=BitVec.ofNat 32 1:=rfl
   refine Nat.eq_of_testBit_eq fun k=>?_
   rw[BitVec.testBit_toNat,BitVec.getLsbD_and,ofInt_nat,e1,bv_bit (by omega),bv_bit (by omega),Nat.testBit_shiftRight,bs_bit]
   have t1:Nat.testBit 1 k=decide (k=0):=by
    rw[show (1:Nat)=2^0 from rfl,Nat.testBit_two_pow]
    by_cases hk:k=0
    ·subst hk;rfl
    ·rw[decide_eq_false hk,decide_eq_false (fun e=>hk e.symm)]
   rw[t1]
   by_cases hk:k=0
   ·subst hk
    rw[Nat.add_zero,decide_eq_true hr]
    cases f r<;>simp
   ·rw[decide_eq_false hk,Bool.and_false]
    split
    ·rw[t1,decide_eq_false hk]
    ·simp
  show (if IntKind.u32=IntKind.u32 then some (Value.int .u32 (IntKind.u32.wrap ((BitVec.ofInt 32 ((bs R f >>> r:Nat):Int) &&& BitVec.ofInt 32 1).toNat:Int))) else none)=_
  rw[if_pos rfl,e]
  cases f r<;>rfl
end
def cntB (f:Nat→Bool):Nat→Nat
 | 0=>0
 | R+1=>cntB f R+(if f R=true then 1 else 0)
theorem cntB_congr {f g:Nat→Bool}:∀ {R:Nat},(∀ k,k<R→f k=g k)→cntB f R=cntB g R
 | 0,_=>rfl
 | R+1,h=>by
  unfold cntB
  rw[cntB_congr (R:=R) fun k hk=>h k (by omega),h R (by omega)]
theorem cntB_le {f:Nat→Bool}:∀ {R:Nat},cntB f R≤R
 | 0=>Nat.le_refl _
 | R+1=>by
  have:=cntB_le (f:=f) (R:=R)
  unfold cntB
  split<;>omega
theorem cntB_mono {f g:Nat→Bool}:∀ {R:Nat},(∀ k,k<R→f k=true→g k=true)→cntB f R≤cntB g R
 | 0,_=>Nat.le_refl _
 | R+1,h=>by
  have ih:=cntB_mono (R:=R) fun k hk=>h k (by omega)
  unfold cntB
  by_cases hf:f R=true
  ·rw[if_pos hf,if_pos (h R (by omega) hf)]
   omega
  ·rw[if_neg hf]
   omega
theorem cntB_add {f:Nat→Bool} {m:Nat}:∀ {n:Nat},cntB f (m+n)=cntB f m+cntB (fun k=>f (m+k)) n
 | 0=>rfl
 | n+1=>by
  show cntB f (m+n)+(if f (m+n)=true then 1 else 0)=cntB f m+(cntB (fun k=>f (m+k)) n+(if f (m+n)=true then 1 else 0))
  rw[cntB_add (n:=n)]
  omega
theorem cntB_more {f:Nat→Bool} {R:Nat}:∀ {n:Nat},cntB (fun k=>decide (k<R)&&f k) (R+n)=cntB f R
 | 0=>cntB_congr fun k hk=>by rw[decide_eq_true (show k<R from hk),Bool.true_and]
 | n+1=>by
  show cntB _ (R+n)+(if (decide (R+n<R)&&f (R+n))=true then 1 else 0)=_
  rw[cntB_more (n:=n),decide_eq_false (by omega),Bool.false_and]
  rfl
def pop (w n:Nat):Nat:=cntB n.testBit w
theorem pop_bs {R:Nat} {f:Nat→Bool} (hR:R≤32):pop 32 (bs R f)=cntB f R:=by
 unfold pop
 rw[cntB_congr (g:=fun k=>decide (k<R)&&f k) fun k _=>bs_bit,show 32=R+(32-R) by omega,cntB_more]
theorem pop_split {n:Nat}:pop 32 n=pop 8 (n / 2^24%256)+pop 8 (n / 2^16%256)+pop 8 (n / 2^8%256)+pop 8 (n%256):=by
 have e:∀ s,pop 8 (n / 2^s%256)=cntB (fun k=>n.testBit (s+k)) 8:=fun s=>cntB_congr fun k hk=>by
  rw[show (256:Nat)=2^8 from rfl,Nat.testBit_mod_two_pow,decide_eq_true hk,Bool.true_and,←Nat.shiftRight_eq_div_pow,Nat.testBit_shiftRight]
 have e0:=e 0
 rw[Nat.pow_zero,Nat.div_one] at e0
 rw[e 24,e 16,e 8,e0]
 unfold pop
 rw[show 32=24+8 from rfl,cntB_add,show 24=16+8 from rfl,cntB_add,show 16=8+8 from rfl,cntB_add,cntB_congr (f:=fun k=>n.testBit (0+k)) (g:=n.testBit) fun k _=>by rw[Nat.zero_add]]
 omega
def tblP:List Nat:=(List.range 256).map (pop 8)
theorem tblP_at {b:Nat} (h:b<256):tblP[b]?=some (pop 8 b):=by simp[tblP,h]
theorem tblP_eq:[0,1,1,2,1,2,2,3,1,2,2,3,2,3,3,4,1,2,2,3,2,3,3,4,2,3,3,4,3,4,4,5,1,2,2,3,2,3,3,4,2,3,3,4,3,4,4,5,2,3,3,4,3,4,4,5,3,4,4,5,4,5,5,6,1,2,2,3,2,3,3,4,2,3,3,4,3,4,4,5,2,3,3,4,3,4,4,5,3,4,4,5,4,5,5,6,2,3,3,4,3,4,4,5,3,4,4,5,4,5,5,6,3,4,4,5,4,5,5,6,4,5,5,6,5,6,6,7,1,2,2,3,2,3,3,4,2,3,3,4,3,4,4,5,2,3,3,4,3,4,4,5,3,4,4,5,4,5,5,6,2,3,3,4,3,4,4,5,3,4,4,5,4,5,5,6,3,4,4,5,4,5,5,6,4,5,5,6,5,6,6,7,2,3,3,4,3,4,4,5,3,4,4,5,4,5,5,6,3,4,4,5,4,5,5,6,4,5,5,6,5,6,6,7,3,4,4,5,4,5,5,6,4,5,5,6,5,6,6,7,4,5,5,6,5,6,6,7,5,6,6,7,6,7,7,8]=tblP:=by decide +kernel
def idxsV (l:List Nat) (x:Value):Option Value:=match x with
 | .int _ j=>if 0≤j then (l[j.toNat]?).map fun b=>.int .u8 b else none
 | _=>none
theorem yWX_idxs {S:XS} {f:Fr} {h:AH} {Q:Value→AH→Prop} {l:List Nat} {x:Operand}:WX S (.idxs l x) f h Q=yWV (idxsV l (ev f x)) (fun v=>Q v h) .mk:=by
 refine WX_of (fun _=>rfl) ?_
 simp only[xop]
 generalize ev f x=vx
 cases vx<;>try rfl
 rename_i k j
 simp only[idxsV]
 split
 ·cases l[j.toNat]?<;>rfl
 ·rfl
theorem pop_le {w n:Nat}:pop w n≤w:=cntB_le
theorem l_OnesCount {n:Nat} {h:AH} {Q:Value→AH→Prop} (hn:n<4294967296) (hQ:Q (I64 (pop 32 n)) h):WF S 329 [U32 n] h Q:=by
 refine WF_fn (fn:=c329) rfl rfl ?_
 dsimp only[c329,oO,oM,oS,oG,oK,oE,oL,oF,oX,oN]
 simp only[tblP_eq]
 have sh:∀ s:Nat,s<32→xbin .shr (U32 n) (.int .u64 (s:Int))=some (U32 (n / 2^s)):=fun s hs=>by
  show (if (0:Int)≤(s:Int) then some (Value.int .u32 ((n:Int).fdiv (2^(min ((s:Int).toNat) 32)))) else none)=_
  rw[if_pos (by omega),Int.toNat_natCast,Nat.min_eq_left (by omega)]
  unfold U32
  have:(n:Int).fdiv (2^s)=((n / 2^s:Nat):Int):=by
   rw[Int.fdiv_eq_ediv_of_nonneg _ (by exact_mod_cast Nat.zero_le _)]
   simp
  rw[this]
 have an:∀ m:Nat,m<4294967296→xbin .and (U32 m) (.int .u32 255)=some (U32 (m%256)):=fun m hm=>by
  have e:(BitVec.ofInt 32 (m:Int) &&& BitVec.ofInt 32 255).toNat=m%256:=by
   have e1:BitVec.ofInt 32 255=BitVec.ofNat 32 255:=rfl
   refine Nat.eq_of_testBit_eq fun k=>?_
   rw[BitVec.testBit_toNat,BitVec.getLsbD_and,ofInt_nat,e1,bv_bit hm,bv_bit (by omega),show (256:Nat)=2^8 from rfl,Nat.testBit_mod_two_pow,show (255:Nat)=2^8-1 from rfl,Nat.testBit_two_pow_sub_one,Bool.and_comm]
  show (if IntKind.u32=IntKind.u32 then some (Value.int .u32 (IntKind.u32.wrap ((BitVec.ofInt 32 (m:Int) &&& BitVec.ofInt 32 255).toNat:Int))) else none)=_
  rw[if_pos rfl,e,wrapU (by omega)]
  rfl
 have ix:∀ m:Nat,m<256→idxsV tblP (U32 m)=some (.int .u8 ((pop 8 m:Nat):Int)):=fun m hm=>by
  show (if (0:Int)≤(m:Int) then (tblP[(m:Int).toNat]?).map fun b=>Value.int .u8 (b:Int) else none)=_
  rw[if_pos (by omega),Int.toNat_natCast,tblP_at hm]
  rfl
 have d24:n / 2^24<256:=by
  have:(2:Nat)^24=16777216:=by decide
  omega
 have d16:n / 2^16<4294967296:=Nat.lt_of_le_of_lt (Nat.div_le_self _ _) hn
 have d8:n / 2^8<4294967296:=Nat.lt_of_le_of_lt (Nat.div_le_self _ _) hn
 have s24:xbin .shr (U32 n) (.int .u64 24)=some (U32 (n / 2^24)):=sh 24 (by omega)
 have s16:xbin .shr (U32 n) (.int .u64 16)=some (U32 (n / 2^16)):=sh 16 (by omega)
 have s8:xbin .shr (U32 n) (.int .u64 8)=some (U32 (n / 2^8)):=sh 8 (by omega)
 have a16:=an _ d16
 have a8:=an _ d8
 have a0:=an _ hn
 have i24:=ix _ d24
 have i16:=ix (n / 2^16%256) (Nat.mod_lt _ (by omega))
 have i8:=ix (n / 2^8%256) (Nat.mod_lt _ (by omega))
 have i0:=ix (n%256) (Nat.mod_lt _ (by omega))
 rw[pop_split,Nat.mod_eq_of_lt d24] at hQ
 have l1:=pop_le (w:=8) (n:=n / 2^24)
 have l2:=pop_le (w:=8) (n:=n / 2^16%256)
 have l3:=pop_le (w:=8) (n:=n / 2^8%256)
 have l4:=pop_le (w:=8) (n:=n%256)
 clear sh an ix
 generalize n / 2^24=n24 at *
 generalize n / 2^16=n16 at *
 generalize n / 2^8=n8 at *
 generalize pop 8 n24=q1 at *
 generalize pop 8 (n16%256)=q2 at *
 generalize pop 8 (n8%256)=q3 at *
 generalize pop 8 (n%256)=q4 at *
 have w8:∀ a:Int,0≤a→a≤255→IntKind.u8.wrap a=a:=fun a h1 h2=>by
  simp only[IntKind.wrap,IntKind.signed,IntKind.bits]
  have e:a%256=a:=Int.emod_eq_of_lt (by omega) (by omega)
  simpa using e
 have b1:=w8 ((q1:Int)+q2) (by omega) (by omega)
 have b2:=w8 ((q1:Int)+q2+q3) (by omega) (by omega)
 have b3:=w8 ((q1:Int)+q2+q3+q4) (by omega) (by omega)
 rw[show ((q1+q2+q3+q4:Nat):Int)=(q1:Int)+q2+q3+q4 by omega] at hQ
 ((try simp (maxSteps:=3000000) (dsimp:=false) (disch:=first|omega|simp only[lnx];omega) only[↓ypre,ypost,↓reduceIte,reduceEqDiff,reduceAdd,reduceSub,reduceLeDiff,zz0,ynew,s24,s16,s8,a16,a8,a0,i24,i16,i8,i0,b1,b2,b3,↓yWX_idxs,wrap64_in]);try simp only[yback])
 exact hQ
end Go.Proofs.Ytapafdpnmakekaa.X

set_option linter.unusedVariables false
set_option linter.unusedSimpArgs false
set_option maxRecDepth 20000
set_option maxHeartbeats 4000000
namespace Go.Proofs.Ytapafdpnmakekaa.X
open Go Go.RowKit
def WayX (e:TypeId) (k:IntKind) (w:Nat) (h:AH) (lo:Nat) (ex:List Nat) (sv:Value) (L:List (List Int)):Prop:=
 Wid w L∧((sv=.slice none 0 0∧L=[])∨∃ kb full,sv=.slice (some ⟨kb,0,none⟩) L.length w∧lo≤kb∧kb∉ex∧h.get kb=some ⟨cel k L.flatten,e,false,full⟩)
section
variable {e:TypeId} {k:IntKind} {w:Nat} {h h':AH} {lo:Nat} {ex:List Nat} {sv:Value} {L:List (List Int)}
theorem WayX.pre (o:WayX e k w h lo ex sv L) (p:h<+:h'):WayX e k w h' lo ex sv L:=by
 obtain⟨hw,o|⟨kb,full,h1,h2,h3,h4⟩⟩:=o
 ·exact⟨hw,.inl o⟩
 ·exact⟨hw,.inr ⟨kb,full,h1,h2,h3,pre_get p h4⟩⟩
theorem WayX.one (o:WayX e k w h lo ex sv L):isOne sv=true:=by
 obtain⟨hw,⟨rfl,_⟩|⟨kb,full,rfl,h2,h3,h4⟩⟩:=o<;>rfl
theorem WayX.cells (o:WayX e k w h lo ex sv L):cellsL sv=[sv]:=by
 obtain⟨hw,⟨rfl,_⟩|⟨kb,full,rfl,h2,h3,h4⟩⟩:=o<;>rfl
theorem WayX.len (o:WayX e k w h lo ex sv L):lenV sv=some (I64 L.length):=by
 obtain⟨hw,⟨rfl,rfl⟩|⟨kb,full,rfl,h2,h3,h4⟩⟩:=o<;>rfl
theorem WayX.put {n:Nat} {b:Blk} (o:WayX e k w h lo ex sv L) (hn:n<lo∨n∈ex):WayX e k w (h.put n b) lo ex sv L:=by
 obtain⟨hw,o|⟨kb,full,h1,h2,h3,h4⟩⟩:=o
 ·exact⟨hw,.inl o⟩
 ·refine⟨hw,.inr ⟨kb,full,h1,h2,h3,?_⟩⟩
  rw[get_put_ne]
  ·exact h4
  ·rintro rfl
   rcases hn with hn|hn
   ·omega
   ·exact h3 hn
theorem WayX.exc {ex':List Nat} (o:WayX e k w h lo ex sv L) (he:∀ m,m∈ex'→m∈ex∨h.length≤m∨m<lo):WayX e k w h lo ex' sv L:=by
 obtain⟨hw,o|⟨kb,full,h1,h2,h3,h4⟩⟩:=o
 ·exact⟨hw,.inl o⟩
 ·refine⟨hw,.inr ⟨kb,full,h1,h2,fun hk=>?_,h4⟩⟩
  have:=get_lt h4
  rcases he _ hk with h|h|h
  ·exact h3 h
  ·omega
  ·omega
theorem WayX.keep (o:WayX e k w h lo ex sv L) (hk:∀ m c f,m∉ex→lo≤m→h.get m=some ⟨c,e,false,f⟩→h'.get m=some ⟨c,e,false,f⟩):WayX e k w h' lo ex sv L:=by
 obtain⟨hw,o|⟨kb,full,h1,h2,h3,h4⟩⟩:=o
 ·exact⟨hw,.inl o⟩
 ·exact⟨hw,.inr ⟨kb,full,h1,h2,h3,hk _ _ _ h3 h2 h4⟩⟩
theorem WayX.mlo {lo':Nat} (o:WayX e k w h lo ex sv L) (hl:lo'≤lo):WayX e k w h lo' ex sv L:=by
 obtain⟨hw,o|⟨kb,full,h1,h2,h3,h4⟩⟩:=o
 ·exact⟨hw,.inl o⟩
 ·exact⟨hw,.inr ⟨kb,full,h1,by omega,h3,h4⟩⟩
theorem WayX.inE (o:WayX e k w h lo ex sv L):InE k w lo h.length h sv L:=by
 obtain⟨hw,o|⟨kb,full,h1,h2,h3,h4⟩⟩:=o
 ·exact .inl o
 ·exact .inr ⟨kb,e,full,⟨h2,get_lt h4⟩,h1,h4,hw⟩
theorem WayX.app {H:AH} {q:List Int} {e':TypeId} {ro full:Bool} {bytes:Nat} (o:WayX e k w H lo ex sv L) (hq:q.length=w) (hl:((L.length:Int)+1)*bytes≤140737488355328) (hn:(L.length:Int)<1048576) (hlo:lo≤H.length) (hex:∀ m,m∈ex→m<H.length)
  {Q:Value→AH→Prop} (hQ:∀ (sv':Value) (H':AH),H'.length=H.length+2→(∀ h0:AH,h0.length≤lo→h0<+:H→h0<+:H')→(∀ m b,m<lo∨m∈ex→H.get m=some b→H'.get m=some b)→WayX e k w H' H.length ex sv' (L++[q])→Q sv' H') :
  OQ (appV e w bytes sv (.slice (some ⟨H.length,0,none⟩) 1 w) (H.new ⟨cel k q,e',ro,full⟩)) Q:=by
 have hr:(H.new ⟨cel k q,e',ro,full⟩).rdn H.length 0 w=some (cel k q):=by
  rw[rdn_of get_new_same]
  simp only
  rw[if_pos (by rw[cel_len,hq];omega),List.drop_zero,List.take_of_length_le (by rw[cel_len,hq];omega)]
 obtain⟨hw,⟨rfl,rfl⟩|⟨kb,fu,rfl,h2,h3,h4⟩⟩:=o
 ·rw[app_nilW (.inl rfl) hr (by simp only[List.length_nil] at hl;omega),OQ_some]
  refine hQ _ _ (by rw[len_new,len_new]) (fun h0 _ p=>pre_new (pre_new p)) (fun m b hm o=>get_new_any (get_new_any o)) ⟨?_,.inr ⟨_,false,rfl,by rw[len_new];omega,fun hm=>by have:=hex _ hm;rw[len_new] at this;omega,?_⟩⟩
  ·intro r hr
   rw[List.nil_append,List.mem_singleton] at hr
   rw[hr,hq]
  ·rw[get_new_same]
   simp
 ·have hk:(H.new ⟨cel k q,e',ro,full⟩).get kb=some ⟨cel k L.flatten,e,false,fu⟩:=get_new_any h4
  have hkb:=get_lt h4
  rw[app_ownW hk (by rw[cel_len,flat_len hw]) hr ⟨hl,by omega⟩,OQ_some]
  refine hQ _ _ (by rw[len_new,len_kill,len_new]) (fun h0 q p=>pre_new (pre_kill (pre_new p) (by omega))) (fun m b hm o=>?_) ⟨?_,.inr ⟨(H.new ⟨cel k q,e',ro,full⟩).length,false,by simp,by rw[len_new];omega,fun hm=>by have:=hex _ hm;rw[len_new] at this;omega,?_⟩⟩
  ·refine get_new_any ?_
   rw[get_kill_ne]
   ·exact get_new_any o
   ·rintro rfl
    rcases hm with hm|hm
    ·omega
    ·exact h3 hm
  ·intro r hr
   rcases List.mem_append.1 hr with hr|hr
   ·exact hw r hr
   ·rw[List.mem_singleton.1 hr,hq]
  ·rw[get_new_eq (by rw[len_kill])]
   simp[cel_app]
end
def Bls (h:AH) (n:Nat) (bs:List Bool):Prop:=h.get n=some ⟨bs.map Value.bool,4,false,true⟩
section
variable {h h':AH} {n:Nat} {bs:List Bool}
theorem Bls.pre (o:Bls h n bs) (p:h<+:h'):Bls h' n bs:=pre_get p o
theorem Bls.rd {j:Nat} (o:Bls h n bs) (hj:j<bs.length):h.rd1 n j=some (.bool (bs.getD j false)):=by
 rw[rd1_of o]
 simp[List.getD_eq_getElem?_getD,hj]
end
theorem Lst.app3 {n:Nat} {l:List Int} {full:Bool} {H:AH} {x:Int} {e':TypeId} {ro fu:Bool} (o:Lst H n l full) (hl:(l.length:Int)≤1048576) {Q:Value→AH→Prop}
  (hQ:∀ H':AH,H'.length=H.length+2→(∀ h0:AH,h0.length≤n→h0<+:H→h0<+:H')→(∀ m b,m≠n→H.get m=some b→H'.get m=some b)→Lst H' (H.length+1) (l++[x]) false→Q (sl (H.length+1) (l++[x]).length) H') :
  OQ (appV 2 1 8 (sl n l.length) (.slice (some ⟨H.length,0,none⟩) 1 1) (H.new ⟨[I64 x],e',ro,fu⟩)) Q:=by
 have hn:(H.new ⟨[I64 x],e',ro,fu⟩).rdn H.length 0 1=some [I64 x]:=by rw[rdn_new_same];rfl
 have hk:(H.new ⟨[I64 x],e',ro,fu⟩).get n=some ⟨l.map (Value.int .i64),2,false,full⟩:=get_new_any o
 have hkb:=o.lt
 unfold sl
 rw[app_own hk (by simp) hn (by omega),OQ_some]
 have:=hQ (((H.new ⟨[I64 x],e',ro,fu⟩).kill n).new ⟨l.map (Value.int .i64)++[I64 x],2,false,false⟩) (by rw[len_new,len_kill,len_new]) (fun h0 q p=>pre_new (pre_kill (pre_new p) q))
  (fun m b hm o=>get_new_any (by rw[get_kill_ne (fun e=>hm e.symm)];exact get_new_any o)) (by unfold Lst;rw[get_new_eq (by rw[len_kill,len_new])];simp)
 unfold sl at this
 rw[len_new]
 rw[List.length_append,List.length_singleton] at this
 exact this
theorem InP.inP {a b:Nat} {h:AH} {v w:Value} {x:Prg} (o:InP a b h v w x):InP a b h v w x:=o
def rpOK (x:Prg) (ns:List Int):Prop:=allIn x.p ns=true∧(ns.length:Int)=x.n
instance {x:Prg} {ns:List Int}:Decidable (rpOK x ns):=by unfold rpOK;infer_instance
end Go.Proofs.Ytapafdpnmakekaa.X

set_option linter.unusedVariables false
set_option linter.unusedSimpArgs false
set_option maxRecDepth 20000
set_option maxHeartbeats 4000000
namespace Go.Proofs.Ytapafdpnmakekaa.X
open Go Go.RowKit
open Nat (reduceEqDiff reduceAdd reduceSub reduceLeDiff)
theorem Ints.cell {h:AH} {v:Value} {ns:List Int} (hv:Ints h v ns) {j:Nat} (hj:j<ns.length):∃ n off,(∀ kk:IntKind,ixsV 1 v (.int kk (j:Int))=some (.pointer (some ⟨n,off,none⟩)))∧h.rd1 n off=some (I64 (ns.getD j 0)):=by
 rcases hv with⟨rfl,t,_,rfl⟩|⟨b,off,blk,rfl,h2,h3,h4⟩
 ·simp at hj
 ·refine⟨b,off+j,fun kk=>?_,?_⟩
  ·rw[ixsV_some,if_pos (by omega)]
   simp
  ·rw[rd1_of h2]
   exact h4 j hj
theorem Rows.len {h:AH} {v:Value} {rows:List (List Int)} (hv:Rows h v rows):lenV v=some (I64 rows.length):=by
 obtain⟨cs,h1,h2,h3⟩:=hv
 rw[h1.len,h2]
theorem Rows.row {h:AH} {v:Value} {rows:List (List Int)} (hv:Rows h v rows) {i:Nat} (hi:i<rows.length) :
  ∃ n off x,(∀ kk:IntKind,ixsV 1 v (.int kk (i:Int))=some (.pointer (some ⟨n,off,none⟩)))∧h.rd1 n off=some x∧Ints h x (rows.getD i []):=by
 obtain⟨cs,hc,hl,hr⟩:=hv
 rcases hc with⟨rfl,t,_,rfl⟩|⟨b,off,blk,rfl,h2,h3,h4⟩
 ·simp at hl
  omega
 ·refine⟨b,off+i,cs.getD i undef,fun kk=>?_,?_,hr i hi⟩
  ·rw[ixsV_some,if_pos (by omega)]
   simp
  ·rw[rd1_of h2]
   exact h4 i (by omega)
theorem sl_cells {n l:Nat}:cellsL (sl n l)=[sl n l]:=rfl
theorem sl_one {n l:Nat}:isOne (sl n l)=true:=rfl
theorem TabS.app2 {h0 h2:AH} {nb n:Nat} {full fu fw:Bool} {L:List (Nat×List Int)} {r:List Int} {e:TypeId} (s:TabS h0 h2 nb full L) (hn:h0.length≤n∧n≠nb∧∀ p,p∈L→p.1≠n) (ob:OwnB h2 n (r.map (Value.int .i64)) fw)
  (hl:(L.length:Int)≤1048576) {Q:Value→AH→Prop}
  (hQ:∀ nb' H',TabS h0 H' nb' false (L++[(n,r)])→H'.length=h2.length+2→nb'=h2.length+1→(∀ m c fl,m≠nb→OwnB h2 m c fl→OwnB H' m c fl)→(∀ h9:AH,h9.length≤nb→h9<+:h2→h9<+:H')→Q (sl nb' (L++[(n,r)]).length) H') :
  OQ (appV 27 1 24 (sl nb L.length) (.slice (some ⟨h2.length,0,none⟩) 1 1) (h2.new ⟨[sl n r.length],e,false,fu⟩)) Q:=by
 have hrd:(h2.new ⟨[.slice (some ⟨n,0,none⟩) r.length 1],e,false,fu⟩).rdn h2.length 0 1=some [.slice (some ⟨n,0,none⟩) r.length 1]:=by rw[rdn_new_same];rfl
 have hk:(h2.new ⟨[.slice (some ⟨n,0,none⟩) r.length 1],e,false,fu⟩).get nb=some ⟨L.map rowV,27,false,full⟩:=get_new_any s.g
 have l1:=get_lt s.g
 have key:=s.app (e:=e) (fu:=fu) hn ob hl (Q:=fun v H'=>∃ nb',v=.slice (some ⟨nb',0,none⟩) (L++[(n,r)]).length 1∧TabS h0 H' nb' false (L++[(n,r)])) (fun nb' H' st=>⟨nb',rfl,st⟩)
 unfold sl at hQ ⊢
 rw[app_own hk (by simp) hrd (by omega),OQ_some] at key ⊢
 obtain⟨nb',e1,st⟩:=key
 have e2:nb'=h2.length+1:=by
  simp only[Value.slice.injEq,Option.some.injEq,Addr.mk.injEq] at e1
  rw[←e1.1.1,len_new]
 have:=hQ nb' _ st (by rw[len_new,len_kill,len_new]) e2 (fun m c fl hm o=>(o.new.kill_ne (fun e=>hm e.symm)).new) (fun h9 hh p=>pre_new (pre_kill (pre_new p) hh))
 rw[←e1] at this
 exact this
theorem TabS.cell {h0 h:AH} {nb i j:Nat} {full:Bool} {L:List (Nat×List Int)} {x:Int} {n:Nat} {r:List Int} (s:TabS h0 h nb full L) (hi:i<L.length) (hL:L[i]=(n,r)) (hj:j<r.length) :
  ∃ e fu,h.get n=some ⟨r.map (Value.int .i64),e,false,fu⟩∧TabS h0 (h.put n ⟨(r.set j x).map (Value.int .i64),e,false,fu⟩) nb full (L.set i (n,r.set j x)):=by
 have a:=s.rows _ (List.getElem_mem hi)
 rw[hL] at a
 obtain⟨⟨a1,a2⟩,fu,e,o⟩:=a
 refine⟨e,fu,o,pre_put s.hp a1,s.lo,?_,fun q hq=>?_,?_⟩
 ·rw[get_put_ne a2,s.g]
  congr 2
  rw[List.map_set]
  have:rowV (n,r.set j x)=(L.map rowV)[i]'(by simpa using hi):=by
   rw[List.getElem_map,hL]
   simp[rowV]
  rw[this,List.set_getElem_self]
 ·obtain⟨m,hm,rfl⟩:=List.mem_iff_getElem.1 hq
  have hm':m<L.length:=by simpa using hm
  by_cases hmi:m=i
  ·subst hmi
   rw[List.getElem_set_self]
   exact⟨⟨a1,a2⟩,fu,e,get_put_same (get_lt o)⟩
  ·rw[List.getElem_set_ne (fun q=>hmi q.symm)]
   have b:=s.rows _ (List.getElem_mem hm')
   obtain⟨b1,fq,oq⟩:=b
   refine⟨b1,fq,oq.put_ne ?_⟩
   have hd:=List.pairwise_iff_getElem.1 s.dist
   rcases Nat.lt_or_gt_of_ne hmi with hlt|hgt
   ·have:=hd m i hm' hi hlt
    rw[hL] at this
    exact fun q=>this q.symm
   ·have:=hd i m hi hm' hgt
    rw[hL] at this
    exact this
 ·have e1:(L.set i (n,r.set j x)).map Prod.fst=L.map Prod.fst:=by
   rw[List.map_set]
   have:(n,r.set j x).1=(L.map Prod.fst)[i]'(by simpa using hi):=by rw[List.getElem_map,hL]
   rw[this,List.set_getElem_self]
  have h1:=List.pairwise_map (f:=Prod.fst) (R:=fun a b:Nat=>a≠b) (l:=L)
  have h2:=List.pairwise_map (f:=Prod.fst) (R:=fun a b:Nat=>a≠b) (l:=L.set i (n,r.set j x))
  rw[←h2,e1,h1]
  exact s.dist
def trL (rows:List (List Int)) (w:Nat):List (List Int):=(List.range w).map fun j=>gen rows.length fun i=>(rows.getD i []).getD j 0
theorem trL_len {rows:List (List Int)} {w:Nat}:(trL rows w).length=w:=by simp[trL]
theorem trL_get {rows:List (List Int)} {w j:Nat} (hj:j<w):(trL rows w).getD j []=gen rows.length fun i=>(rows.getD i []).getD j 0:=by
 simp[trL,List.getD_eq_getElem?_getD,List.getElem?_map,List.getElem?_range hj]
theorem i_transposed {v:Value} {rows:List (List Int)} {w:Nat} {h:AH} {Q:Value→AH→Prop} (hv:Rows h v rows) (h0:0<rows.length) (hl:(rows.length:Int)≤1048576) (hr:∀ i,i<rows.length→(rows.getD i []).length=w) (hw:(w:Int)≤1048576)
  (hQ:∀ v' h',h<+:h'→OwnRows h h' v' (trL rows w)→Q v' h'):WF S 208 [v] h Q:=by
 refine WF_fn (fn:=c208) rfl rfl ?_
 dsimp only[c208,oO,oM,oS,oG,oK,oE,oL,oF,oX,oN]
 obtain⟨n0,off0,x0,hix0,hrd0,i0⟩:=hv.row h0
 have hx0:=hix0 .i64
 rw[show ((0:Nat):Int)=0 from rfl] at hx0
 ((try simp (maxSteps:=3000000) (dsimp:=false) (disch:=first|omega|simp only[lnx];omega) only[↓ypre,ypost,↓reduceIte,reduceEqDiff,reduceAdd,reduceSub,reduceLeDiff,zz0,ynew]);try simp only[yback])
 generalize hH1:AH.new h _=H1
 obtain⟨hb1,p1,n1⟩:=new_facts hH1
 have lt0:n0<h.length:=by
  unfold AH.rd1 at hrd0
  obtain⟨b,hb,_⟩:=Option.bind_eq_some_iff.1 hrd0
  exact get_lt hb
 have hrd1:H1.rd1 n0 off0=some x0:=by rw[←hH1,rd1_new_lt lt0];exact hrd0
 ((try simp (maxSteps:=3000000) (dsimp:=false) (disch:=first|omega|simp only[lnx];omega) only[↓ypre,ypost,↓reduceIte,reduceEqDiff,reduceAdd,reduceSub,reduceLeDiff,zz0,ynew,hx0,hrd1,hrd0,i0.len,hr 0 h0]);try simp only[yback])
 refine WC_loop_inv (fun m f K1=>∃ (j:Nat) (nb:Nat) (full:Bool) (L:List (Nat×List Int)),m=w-j∧j≤w∧f 0=v∧f 3=sl nb L.length∧f 12=I64 w∧f 13=I64 j∧(TabS h K1 nb full L)∧(L.map Prod.snd=(trL rows w).take j)) ?_ (w-0) _ _ ⟨0,h.length,true,[],rfl,by omega,(by first|rfl|simp[upd_apply]),(by first|rfl|simp[upd_apply]),(by first|rfl|simp[upd_apply]),(by first|rfl|simp[upd_apply]),⟨p1,Nat.le_refl _,hb1,by simp,by simp⟩,(by simp)⟩
 rintro m f K1 ⟨j,nb,full,L,rfl,hj,f0,f3,f12,f13,st,hL⟩
 have hLl:L.length=j:=by
  have:=congrArg List.length hL
  rw[List.length_map,List.length_take,trL_len] at this
  omega
 have lt:=st.lt
 have lh:=pre_len st.hp
 by_cases hlt:(j:Int)<w
 ·have hj':j<w:=by omega
  ((try simp (maxSteps:=3000000) (dsimp:=false) (disch:=first|omega|simp only[lnx];omega) only[↓ypre,ypost,↓reduceIte,reduceEqDiff,reduceAdd,reduceSub,reduceLeDiff,zz0,ynew,f0,f3,f12,f13,decide_eq_true hlt]);try simp only[yback])
  generalize hH3:AH.new K1 _=H3
  obtain⟨hb3,p3,n3⟩:=new_facts hH3
  have l0:Lst H3 K1.length (gen 0 fun i=>(rows.getD i []).getD j 0) true:=hb3
  ((try simp (maxSteps:=3000000) (dsimp:=false) (disch:=first|omega|simp only[lnx];omega) only[↓ypre,ypost,↓reduceIte,reduceEqDiff,reduceAdd,reduceSub,reduceLeDiff,zz0,ynew,f0,f3,f12,f13,hv.len]);try simp only[yback])
  refine WC_loop_inv (fun m f K2=>∃ (i:Nat) (kb:Nat) (fu:Bool),m=rows.length-i∧i≤rows.length∧f 0=v∧f 3=sl nb L.length∧f 12=I64 w∧f 13=I64 j∧f 4=I64 j∧f 17=v∧f 18=I64 rows.length∧f 19=I64 i∧f 5=sl kb (gen i fun i=>(rows.getD i []).getD j 0).length∧(K1<+:K2)∧(K1.length≤kb)∧(Lst K2 kb (gen i fun i=>(rows.getD i []).getD j 0) fu)) ?_ (rows.length-0) _ _ ⟨0,K1.length,true,rfl,by omega,(by first|rfl|exact f0|(simp[upd_apply];done)),(by first|rfl|exact f3|(simp[upd_apply];done)),(by first|rfl|exact f12|(simp[upd_apply];done)),(by first|rfl|exact f13|(simp[upd_apply];done)),(by first|rfl|simp[upd_apply]),(by first|rfl|simp[upd_apply]),(by first|rfl|simp[upd_apply]),(by first|rfl|simp[upd_apply]),(by first|rfl|simp[upd_apply]),p3,Nat.le_refl _,l0⟩
  rintro m f K2 ⟨i,kb,fu,rfl,hi,f0,f3,f12,f13,f4,f17,f18,f19,f5,q2,kb1,li⟩
  by_cases hlti:(i:Int)<rows.length
  ·have hi':i<rows.length:=by omega
   obtain⟨n,off,x,hix,hrd,ix⟩:=(hv.pre (st.hp.trans q2)).row hi'
   obtain⟨n',off',hix',hrd'⟩:=ix.cell (j:=j) (by rw[hr i hi'];exact hj')
   ((try simp (maxSteps:=3000000) (dsimp:=false) (disch:=first|omega|simp only[lnx];omega) only[↓ypre,ypost,↓reduceIte,reduceEqDiff,reduceAdd,reduceSub,reduceLeDiff,zz0,ynew,f0,f3,f12,f13,f4,f17,f18,f19,f5,decide_eq_true hlti,hix,hrd,hix',hrd']);try simp only[yback])
   refine li.app (by rw[gen_len];omega) fun H5 l5 pre5 own5 lst5 li5=>?_
   ((try simp (maxSteps:=3000000) (dsimp:=false) (disch:=first|omega|simp only[lnx];omega) only[↓ypre,ypost,↓reduceIte,reduceEqDiff,reduceAdd,reduceSub,reduceLeDiff,zz0,ynew,f0,f3,f12,f13,f4,f17,f18,f19,f5,wrap64_in]);try simp only[yback])
   have eg:gen i (fun i=>(rows.getD i []).getD j 0)++[(rows.getD i []).getD j 0]=gen (i+1) fun i=>(rows.getD i []).getD j 0:=gen_succ.symm
   rw[eg] at li5
   refine InvQ_go (rows.length-(i+1)) (by omega) ⟨(i+1),(K2.length+1),false,rfl,by omega,(by first|rfl|exact f0|(simp only[upd_apply];rfl)|(show I64 _=_;congr 1;omega)),(by first|rfl|exact f3|(simp only[upd_apply];rfl)|(show I64 _=_;congr 1;omega)),(by first|rfl|exact f12|(simp only[upd_apply];rfl)|(show I64 _=_;congr 1;omega)),(by first|rfl|exact f13|(simp only[upd_apply];rfl)|(show I64 _=_;congr 1;omega)),(by first|rfl|exact f4|(simp only[upd_apply];rfl)|(show I64 _=_;congr 1;omega)),(by first|rfl|exact f17|(simp only[upd_apply];rfl)|(show I64 _=_;congr 1;omega)),(by first|rfl|exact f18|(simp only[upd_apply];rfl)|(show I64 _=_;congr 1;omega)),(by first|rfl|exact f19|(simp only[upd_apply];rfl)|(show I64 _=_;congr 1;omega)),(by show sl _ _=_;rw[eg]),(pre5 _ kb1 q2),(by have:=pre_len q2;omega),li5⟩
  ·have ei:i=rows.length:=by omega
   subst ei
   ((try simp (maxSteps:=3000000) (dsimp:=false) (disch:=first|omega|simp only[lnx];omega) only[↓ypre,ypost,↓reduceIte,reduceEqDiff,reduceAdd,reduceSub,reduceLeDiff,zz0,ynew,f0,f3,f12,f13,f4,f17,f18,f19,f5,decide_eq_false hlti,sl_cells,sl_one]);try simp only[yback])
   refine (st.pre q2).app2 ⟨by omega,by omega,fun q hq=>by have:=lt.2 q hq;omega⟩ li.own (by omega) fun nb' H' st' l' e' own' pre'=>?_
   ((try simp (maxSteps:=3000000) (dsimp:=false) (disch:=first|omega|simp only[lnx];omega) only[↓ypre,ypost,↓reduceIte,reduceEqDiff,reduceAdd,reduceSub,reduceLeDiff,zz0,ynew,f0,f3,f12,f13,f4,f17,f18,f19,f5,wrap64_in]);try simp only[yback])
   refine InvQ_go (w-(j+1)) (by omega) ⟨(j+1),nb',false,(L++[(kb,gen rows.length fun i=>(rows.getD i []).getD j 0)]),rfl,by omega,(by first|rfl|exact f0|(simp only[upd_apply];rfl)|(show I64 _=_;congr 1;omega)),(by first|rfl|exact f3|(simp only[upd_apply];rfl)|(show I64 _=_;congr 1;omega)),(by first|rfl|exact f12|(simp only[upd_apply];rfl)|(show I64 _=_;congr 1;omega)),(by first|rfl|exact f13|(simp only[upd_apply];rfl)|(show I64 _=_;congr 1;omega)),st',?_⟩
   rw[List.map_append,hL,take_next (d:=[]) (by rw[trL_len];exact hj'),trL_get hj']
   rfl
 ·have ej:j=w:=by omega
  subst ej
  rw[List.take_of_length_le (by rw[trL_len];exact Nat.le_refl _)] at hL
  ((try simp (maxSteps:=3000000) (dsimp:=false) (disch:=first|omega|simp only[lnx];omega) only[↓ypre,ypost,↓reduceIte,reduceEqDiff,reduceAdd,reduceSub,reduceLeDiff,zz0,ynew,f0,f3,f12,f13,decide_eq_false hlt]);try simp only[yback])
  have o:=st.own
  rw[hL] at o
  exact hQ _ _ st.hp o
theorem WayX.app2 {e:TypeId} {k:IntKind} {w:Nat} {lo:Nat} {sv:Value} {L:List (List Int)} {H:AH} {q:List Int} {e':TypeId} {ro full:Bool} {bytes:Nat} (o:WayX e k w H lo [] sv L) (hq:q.length=w) (hl:((L.length:Int)+1)*bytes≤140737488355328) (hn:(L.length:Int)<1048576) (hlo:lo≤H.length)
  {Q:Value→AH→Prop} (hQ:∀ (sv':Value) (H':AH),H'.length=H.length+2→(∀ h0:AH,h0.length≤lo→h0<+:H→h0<+:H')→(∀ m b,b.e≠e→H.get m=some b→H'.get m=some b)→WayX e k w H' H.length [] sv' (L++[q])→Q sv' H') :
  OQ (appV e w bytes sv (.slice (some ⟨H.length,0,none⟩) 1 w) (H.new ⟨cel k q,e',ro,full⟩)) Q:=by
 have hr:(H.new ⟨cel k q,e',ro,full⟩).rdn H.length 0 w=some (cel k q):=by
  rw[rdn_of get_new_same]
  simp only
  rw[if_pos (by rw[cel_len,hq];omega),List.drop_zero,List.take_of_length_le (by rw[cel_len,hq];omega)]
 obtain⟨hw,⟨rfl,rfl⟩|⟨kb,fu,rfl,h2,h3,h4⟩⟩:=o
 ·rw[app_nilW (.inl rfl) hr (by simp only[List.length_nil] at hl;omega),OQ_some]
  refine hQ _ _ (by rw[len_new,len_new]) (fun h0 _ p=>pre_new (pre_new p)) (fun m b _ o=>get_new_any (get_new_any o)) ⟨?_,.inr ⟨_,false,rfl,by rw[len_new];omega,by simp,?_⟩⟩
  ·intro r hr
   rw[List.nil_append,List.mem_singleton] at hr
   rw[hr,hq]
  ·rw[get_new_same]
   simp
 ·have hk:(H.new ⟨cel k q,e',ro,full⟩).get kb=some ⟨cel k L.flatten,e,false,fu⟩:=get_new_any h4
  have hkb:=get_lt h4
  rw[app_ownW hk (by rw[cel_len,flat_len hw]) hr ⟨hl,by omega⟩,OQ_some]
  refine hQ _ _ (by rw[len_new,len_kill,len_new]) (fun h0 q p=>pre_new (pre_kill (pre_new p) (by omega))) (fun m b hm o=>?_) ⟨?_,.inr ⟨(H.new ⟨cel k q,e',ro,full⟩).length,false,by simp,by rw[len_new];omega,by simp,?_⟩⟩
  ·refine get_new_any ?_
   rw[get_kill_ne]
   ·exact get_new_any o
   ·rintro rfl
    rw[h4] at o
    cases o
    exact hm rfl
  ·intro r hr
   rcases List.mem_append.1 hr with hr|hr
   ·exact hw r hr
   ·rw[List.mem_singleton.1 hr,hq]
  ·rw[get_new_eq (by rw[len_kill])]
   simp[cel_app]
theorem WayX.types {e e':TypeId} {k:IntKind} {w:Nat} {h h':AH} {lo:Nat} {sv:Value} {L:List (List Int)} (o:WayX e k w h lo [] sv L) (he:e≠e') (hk:∀ m b,b.e≠e'→h.get m=some b→h'.get m=some b):WayX e k w h' lo [] sv L:=
 o.keep fun m c f _ _ g=>hk _ _ he g
theorem WayX.put_ty {e:TypeId} {k:IntKind} {w:Nat} {h:AH} {lo n:Nat} {ex:List Nat} {sv:Value} {L:List (List Int)} {b b':Blk} (o:WayX e k w h lo ex sv L) (g:h.get n=some b') (hb:b'.e≠e):WayX e k w (h.put n b) lo ex sv L:=
 o.keep fun m c f _ _ g'=>by
  rw[get_put_ne]
  ·exact g'
  ·rintro rfl
   rw[g'] at g
   cases g
   exact hb rfl
structure Stay (lo:Nat) (h h':AH):Prop where
 len:h.length≤h'.length
 pre:∀ h0:AH,h0.length≤lo→h0<+:h→h0<+:h'
 get:∀ m b,h.get m=some b→b.e≠181→b.e≠183→h'.get m=some b
theorem Stay.refl {lo:Nat} {h:AH}:Stay lo h h:=⟨Nat.le_refl _,fun _ _ p=>p,fun _ _ g _ _=>g⟩
theorem Stay.of {lo:Nat} {h h':AH} (p:h<+:h'):Stay lo h h':=⟨pre_len p,fun _ _ q=>q.trans p,fun _ _ g _ _=>pre_get p g⟩
theorem Stay.trans {lo:Nat} {h h1 h2:AH} (a:Stay lo h h1) (b:Stay lo h1 h2):Stay lo h h2:=
 ⟨Nat.le_trans a.len b.len,fun h0 hl p=>b.pre h0 hl (a.pre h0 hl p),fun m c g h1 h2=>b.get m c (a.get m c g h1 h2) h1 h2⟩
theorem Stay.put {lo:Nat} {h h':AH} {n:Nat} {b:Blk} (a:Stay lo h h') (hn:h.length≤n) (hlo:lo≤n):Stay lo h (h'.put n b):=
 ⟨by rw[len_put];exact a.len,fun h0 hl p=>pre_put (a.pre h0 hl p) (by omega),fun m c g h1 h2=>by
  have:=get_lt g
  rw[get_put_ne (by omega)]
  exact a.get m c g h1 h2⟩
def invP (p n:Int):Int:=if (1*n).tmod p=1 then 1 else if (2*n).tmod p=1 then 2 else if (3*n).tmod p=1 then 3 else 4
theorem invP_is {p n:Int} (hp:isP p=true) (hn:1≤n∧n<p):IsInv p n (invP p n):=by
 obtain⟨w,h1,h2,h3,h4⟩:=inv_is hp hn
 have hp5:=isP_in hp
 have hc:w=1∨w=2∨w=3∨w=4:=by omega
 have e:invP p n=w:=by
  unfold invP
  rcases hc with rfl|rfl|rfl|rfl
  ·rw[if_pos h3]
  ·rw[if_neg (h4 1 (by omega) (by omega)),if_pos h3]
  ·rw[if_neg (h4 1 (by omega) (by omega)),if_neg (h4 2 (by omega) (by omega)),if_pos h3]
  ·rw[if_neg (h4 1 (by omega) (by omega)),if_neg (h4 2 (by omega) (by omega)),if_neg (h4 3 (by omega) (by omega))]
 rw[e]
 exact⟨h1,h2,h3,h4⟩
structure RS where
 st:List (List Int)
 val:Int
 fac:Int
def rowSt (p n:Int) (st0:List (List Int)) (row:List Int):Nat→RS
 | 0=>⟨st0,-1,0⟩
 | k+1=>
  let s:=rowSt p n st0 row k
  if row.getD k 0=0 then s else if s.val<0 then ⟨s.st,k,row.getD k 0⟩
  else ⟨s.st++[[s.val,k,(row.getD k 0*invP p s.fac).tmod p]],n+((s.st.length:Int)+1)-1,s.fac⟩
def rowP (x:Prg) (row:List Int):Prg:=
 let s:=rowSt x.p x.n x.st row row.length
 ⟨x.p,x.n,s.st,x.out++[[max s.val 0,s.fac]]⟩
theorem rowSt_facts {p n:Int} {st0:List (List Int)} {row:List Int} (hp:isP p=true) (hr:allIn p row=true) (hn:1≤n∧n≤30):∀ {k:Nat},k≤row.length →
  st0.length≤(rowSt p n st0 row k).st.length∧(rowSt p n st0 row k).st.length≤st0.length+k∧(-1≤(rowSt p n st0 row k).val∧(rowSt p n st0 row k).val≤n+st0.length+k)∧(0≤(rowSt p n st0 row k).fac∧(rowSt p n st0 row k).fac<p) ∧
  ((rowSt p n st0 row k).val<0↔(rowSt p n st0 row k).fac=0)
 | 0,_=>by
  have:=isP_in hp
  unfold rowSt
  dsimp only
  refine⟨by omega,by omega,⟨by omega,by omega⟩,⟨by omega,by omega⟩,by omega⟩
 | k+1,hk=>by
  have ih:=rowSt_facts (st0:=st0) hp hr hn (k:=k) (by omega)
  have hrk:=allIn_iff.1 hr k (by omega)
  unfold rowSt
  simp only
  split
  ·omega
  ·rename_i h0
   split
   ·simp only
    omega
   ·simp only[List.length_append,List.length_singleton]
    omega
theorem rowP_out {x:Prg} {row:List Int}:(rowP x row).out.length=x.out.length+1:=by simp[rowP]
def finP (x:Prg) (rows:List (List Int)):Nat→Prg
 | 0=>x
 | i+1=>rowP (finP x rows i) (rows.getD i [])
theorem finP_facts {x:Prg} {rows:List (List Int)} {N:Nat} (hp:isP x.p=true) (hr:∀ i,i<rows.length→allIn x.p (rows.getD i [])=true∧(rows.getD i []).length≤N) (hn:1≤x.n∧x.n≤30):∀ {i:Nat},i≤rows.length →
  (finP x rows i).p=x.p∧(finP x rows i).n=x.n∧(finP x rows i).st.length≤x.st.length+i*N∧(finP x rows i).out.length=x.out.length+i
 | 0,_=>⟨rfl,rfl,by simp[finP],rfl⟩
 | i+1,hi=>by
  obtain⟨h1,h2,h3,h4⟩:=finP_facts hp hr hn (i:=i) (by omega)
  have f:=rowSt_facts (st0:=(finP x rows i).st) (p:=(finP x rows i).p) (n:=(finP x rows i).n) (row:=rows.getD i []) (by rw[h1];exact hp) (by rw[h1];exact (hr i (by omega)).1) (by rw[h2];exact hn) (k:=(rows.getD i []).length) (Nat.le_refl _)
  have hN:=(hr i (by omega)).2
  unfold finP
  refine⟨h1,h2,?_,by rw[rowP_out,h4];omega⟩
  show (rowSt (finP x rows i).p (finP x rows i).n (finP x rows i).st (rows.getD i []) (rows.getD i []).length).st.length≤_
  rw[Nat.add_mul,Nat.one_mul]
  omega
structure Way2 (h:AH) (lo:Nat) (v w:Value) (x:Prg):Prop where
 st:WayX (181) .i64 3 h lo [] v x.st
 out:WayX (183) .i64 2 h lo [] w x.out
theorem Way2.pre {h h':AH} {lo:Nat} {v w:Value} {x:Prg} (o:Way2 h lo v w x) (p:h<+:h'):Way2 h' lo v w x:=⟨o.st.pre p,o.out.pre p⟩
theorem Way2.rd {h:AH} {lo:Nat} {v w:Value} {x:Prg} (o:Way2 h lo v w x):PrgR h v w x:=⟨o.st.inE.rd,o.out.inE.rd⟩
theorem Way2.mlo {h:AH} {lo lo':Nat} {v w:Value} {x:Prg} (o:Way2 h lo v w x) (hl:lo'≤lo):Way2 h lo' v w x:=⟨o.st.mlo hl,o.out.mlo hl⟩
def OrdB (v w:Value):Prop:=∀ a b la lb wa wb,v=.slice (some ⟨a,0,none⟩) la wa→w=.slice (some ⟨b,0,none⟩) lb wb→a<b
theorem WayX.ord {e e':TypeId} {k:IntKind} {w w':Nat} {h h':AH} {lo:Nat} {ex ex':List Nat} {sv so:Value} {L L':List (List Int)} (o:WayX e k w h lo ex sv L) (o':WayX e' k w' h' h.length ex' so L'):OrdB sv so:=by
 intro a b la lb wa wb e1 e2
 obtain⟨hw,⟨h1,_⟩|⟨kb,full,h1,h2,h3,h4⟩⟩:=o
 ·rw[e1] at h1
  cases h1
 ·obtain⟨hw',⟨h1',_⟩|⟨kb',full',h1',h2',h3',h4'⟩⟩:=o'
  ·rw[e2] at h1'
   cases h1'
  ·rw[e1] at h1
   rw[e2] at h1'
   simp only[Value.slice.injEq,Option.some.injEq,Addr.mk.injEq,and_true] at h1 h1'
   have:=get_lt h4
   omega
theorem Way2.inP {h:AH} {lo:Nat} {v w:Value} {x:Prg} (o:Way2 h lo v w x) (ho:OrdB v w) (hlo:lo≤h.length):InP lo h.length h v w x:=by
 obtain⟨⟨hw,h1⟩,⟨hw',h1'⟩⟩:=o
 rcases h1' with h1'|⟨kb',full',e1',h2',h3',h4'⟩
 ·refine⟨h.length,hlo,Nat.le_refl _,?_,.inl h1'⟩
  rcases h1 with h1|⟨kb,full,e1,h2,h3,h4⟩
  ·exact .inl h1
  ·exact .inr ⟨kb,_,full,⟨h2,get_lt h4⟩,e1,h4,hw⟩
 ·refine⟨kb',h2',by have:=get_lt h4';omega,?_,.inr ⟨kb',_,full',⟨Nat.le_refl _,get_lt h4'⟩,e1',h4',hw'⟩⟩
  rcases h1 with h1|⟨kb,full,e1,h2,h3,h4⟩
  ·exact .inl h1
  ·exact .inr ⟨kb,_,full,⟨h2,ho _ _ _ _ _ _ e1 e1'⟩,e1,h4,hw⟩
def RowsS (lo:Nat) (h:AH) (u:Value) (rows:List (List Int)):Prop:=
 ∃ cs,(∀ h',Stay lo h h'→Vals h' u cs)∧cs.length=rows.length∧∀ i,i<rows.length→∀ h',Stay lo h h'→Ints h' (cs.getD i undef) (rows.getD i [])
theorem Rows.stays {h:AH} {u:Value} {rows:List (List Int)} (o:Rows h u rows):RowsS h.length h u rows:=by
 obtain⟨cs,h1,h2,h3⟩:=o
 exact⟨cs,fun h' s=>h1.pre (s.pre _ (Nat.le_refl _) (List.prefix_refl _)),h2,fun i hi h' s=>(h3 i hi).pre (s.pre _ (Nat.le_refl _) (List.prefix_refl _))⟩
theorem RowsS.trans {lo:Nat} {h h1:AH} {u:Value} {rows:List (List Int)} (o:RowsS lo h u rows) (s:Stay lo h h1):RowsS lo h1 u rows:=by
 obtain⟨cs,c1,c2,c3⟩:=o
 exact⟨cs,fun h' t=>c1 _ (s.trans t),c2,fun i hi h' t=>c3 i hi _ (s.trans t)⟩
theorem i_finished {v w u:Value} {x:Prg} {rows:List (List Int)} {lo:Nat} {h:AH} {Q:Value→AH→Prop} (hp:isP x.p=true) (hn:1≤x.n∧x.n≤30) (o:Way2 h lo v w x) (hlo:lo≤h.length)
  (hu:RowsS lo h u rows) (hr:∀ i,i<rows.length→allIn x.p (rows.getD i [])=true∧(rows.getD i []).length≤10000) (hl:rows.length≤30) (hs:x.st.length≤100000) (ho:x.out.length≤100000)
  (hQ:∀ v' w' h',Stay lo h h'→Way2 h' lo v' w' (finP x rows rows.length)→(0<rows.length→OrdB v' w')→Q (prgV (finP x rows rows.length) v' w') h'):WF S 206 [prgV x v w,u] h Q:=by
 refine WF_fn (fn:=c206) rfl rfl ?_
 dsimp only[c206,oO,oM,oS,oG,oK,oE,oL,oF,oX,oN]
 have hp5:=isP_in hp
 obtain⟨cs,hv,hcl,hri⟩:=hu
 ((try simp (maxSteps:=3000000) (dsimp:=false) (disch:=first|omega|simp only[lnx];omega) only[↓ypre,ypost,↓reduceIte,reduceEqDiff,reduceAdd,reduceSub,reduceLeDiff,zz0,ynew,prgV,o.st.one,o.out.one]);try simp only[yback])
 generalize hH1:AH.new h _=H1
 obtain⟨hb1,p1,n1⟩:=new_facts hH1
 generalize hH2:AH.new H1 _=H2
 obtain⟨hb2,p2,n2⟩:=new_facts hH2
 have p12:=p1.trans p2
 ((try simp (maxSteps:=3000000) (dsimp:=false) (disch:=first|omega|simp only[lnx];omega) only[↓ypre,ypost,↓reduceIte,reduceEqDiff,reduceAdd,reduceSub,reduceLeDiff,zz0,ynew,(hv _ (Stay.of p12)).len,hcl]);try simp only[yback])
 refine WC_loop_inv (fun m f K1=>∃ (i:Nat) (sv:Value) (so:Value),m=rows.length-i∧i≤rows.length∧f 2=.pointer (some ⟨h.length,0,none⟩)∧f 4=.pointer (some ⟨H1.length,0,none⟩)∧f 10=u∧f 11=I64 rows.length∧f 12=I64 i∧(Stay lo h K1)∧(Way2 K1 lo sv so (finP x rows i))∧(0<i→OrdB sv so)∧(K1.get h.length=some ⟨[I64 x.p,I64 x.n,sv,so],70,false,true⟩)∧(K1.get H1.length=some ⟨[I64 0,I64 0,.slice none 0 0,.slice none 0 0],70,false,true⟩)) ?_ (rows.length-0) _ _ ⟨0,v,w,rfl,by omega,(by first|rfl|simp[upd_apply]),(by first|rfl|simp[upd_apply]),(by first|rfl|simp[upd_apply]),(by first|rfl|simp[upd_apply]),(by first|rfl|simp[upd_apply]),Stay.of p12,o.pre p12,(by omega),pre_get p2 hb1,hb2⟩
 rintro m f K1 ⟨i,sv,so,rfl,hi,f2,f4,f10,f11,f12,sy,o2,ob,g1,g2⟩
 obtain⟨ep,en,sle,ole⟩:=finP_facts hp hr hn (i:=i) hi
 have lt1:=get_lt g1
 have lt2:=get_lt g2
 have sl:=sy.len
 by_cases hlt:(i:Int)<rows.length
 ·have hi':i<rows.length:=by omega
  obtain⟨hra,hrl⟩:=hr i hi'
  have ix:=(hv _ sy).ix (k:=.i64) (j:=i) (by omega) (by omega)
  have rd:=(hv _ sy).rd (j:=i) (by omega) (by omega)
  have hri:=hri i hi'
  rw[Int.toNat_natCast] at rd
  generalize cs.getD i undef=rv at *
  have fin1:finP x rows (i+1)=rowP (finP x rows i) (rows.getD i []):=rfl
  generalize hX:finP x rows i=X at *
  generalize hR:rows.getD i []=row at *
  ((try simp (maxSteps:=3000000) (dsimp:=false) (disch:=first|omega|simp only[lnx];omega) only[↓ypre,ypost,↓reduceIte,reduceEqDiff,reduceAdd,reduceSub,reduceLeDiff,zz0,ynew,f2,f4,f10,f11,f12,decide_eq_true hlt,ix,rd,nth,Int.toNat_natCast,wrap64_in]);try simp only[yback])
  generalize hHB:AH.new K1 _=HB
  obtain⟨hbB,pB,nB⟩:=new_facts hHB
  have syB:=sy.trans (Stay.of pB)
  ((try simp (maxSteps:=3000000) (dsimp:=false) (disch:=first|omega|simp only[lnx];omega) only[↓ypre,ypost,↓reduceIte,reduceEqDiff,reduceAdd,reduceSub,reduceLeDiff,zz0,ynew,f2,f4,f10,f11,f12,(hri _ syB).len]);try simp only[yback])
  have wwB:WayX (183) .i64 2 HB lo [K1.length] so X.out:=(o2.out.exc (fun m' hm=>by simp at hm;omega)).pre pB
  refine WC_loop_inv (fun m f K2=>∃ (k:Nat) (sv:Value),m=row.length-k∧k≤row.length∧f 2=.pointer (some ⟨h.length,0,none⟩)∧f 4=.pointer (some ⟨H1.length,0,none⟩)∧f 7=.pointer (some ⟨K1.length,0,none⟩)∧f 10=u∧f 11=I64 rows.length∧f 12=I64 i∧f 17=rv∧f 18=I64 row.length∧f 19=I64 k∧(Stay lo h K2)∧(WayX (181) .i64 3 K2 lo [] sv (rowSt X.p X.n X.st row k).st)∧(WayX (183) .i64 2 K2 lo [K1.length] so X.out)∧(K2.get h.length=some ⟨[I64 x.p,I64 x.n,sv,so],70,false,true⟩)∧(K2.get H1.length=some ⟨[I64 0,I64 0,.slice none 0 0,.slice none 0 0],70,false,true⟩)∧(K2.get K1.length=some ⟨[I64 (max (rowSt X.p X.n X.st row k).val 0),I64 (rowSt X.p X.n X.st row k).fac],183,false,true⟩)) ?_ (row.length-0) _ _ ⟨0,sv,rfl,by omega,(by first|rfl|exact f2|(simp[upd_apply];done)),(by first|rfl|exact f4|(simp[upd_apply];done)),(by first|rfl|simp[upd_apply]),(by first|rfl|exact f10|(simp[upd_apply];done)),(by first|rfl|exact f11|(simp[upd_apply];done)),(by first|rfl|exact f12|(simp[upd_apply];done)),(by first|rfl|simp[upd_apply]),(by first|rfl|simp[upd_apply]),(by first|rfl|simp[upd_apply]),syB,o2.st.pre pB,wwB,pre_get pB g1,pre_get pB g2,hbB⟩
  rintro m f K2 ⟨k,sv,rfl,hk,f2,f4,f7,f10,f11,f12,f17,f18,f19,sy,wv,ww,g1,g2,g7⟩
  have hu':=hri _ sy
  have lt1':=get_lt g1
  have lt2':=get_lt g2
  have lt7:=get_lt g7
  have sl2:=sy.len
  have fc:=rowSt_facts (p:=X.p) (n:=X.n) (st0:=X.st) (by rw[ep];exact hp) (by rw[ep];exact hra) (by rw[en];exact hn) (k:=k) hk
  by_cases hltk:(k:Int)<row.length
  ·have hk':k<row.length:=by omega
   have hrk:=allIn_iff.1 hra k hk'
   have fc':=rowSt_facts (p:=X.p) (n:=X.n) (st0:=X.st) (by rw[ep];exact hp) (by rw[ep];exact hra) (by rw[en];exact hn) (k:=k+1) hk'
   have er:rowSt X.p X.n X.st row (k+1)=if row.getD k 0=0 then rowSt X.p X.n X.st row k else if (rowSt X.p X.n X.st row k).val<0 then ⟨(rowSt X.p X.n X.st row k).st,k,row.getD k 0⟩
    else ⟨(rowSt X.p X.n X.st row k).st++[[(rowSt X.p X.n X.st row k).val,k,(row.getD k 0*invP X.p (rowSt X.p X.n X.st row k).fac).tmod X.p]],X.n+(((rowSt X.p X.n X.st row k).st.length:Int)+1)-1,(rowSt X.p X.n X.st row k).fac⟩:=rfl
   generalize hS:rowSt X.p X.n X.st row k=S0 at *
   have ix:=hu'.ix (k:=.i64) (j:=k) (by omega) (by omega)
   have rd:=hu'.rd (j:=k) (by omega) (by omega)
   by_cases h0:row.getD k 0=0
   ·rw[if_pos h0] at er
    ((try simp (maxSteps:=3000000) (dsimp:=false) (disch:=first|omega|simp only[lnx];omega) only[↓ypre,ypost,↓reduceIte,reduceEqDiff,reduceAdd,reduceSub,reduceLeDiff,zz0,ynew,f2,f4,f7,f10,f11,f12,f17,f18,f19,decide_eq_true hltk,ix,rd,nth,Int.toNat_natCast,h0,decide_eq_true (show (0:Int)=0 from rfl),wrap64_in]);try simp only[yback])
    refine InvQ_go (row.length-(k+1)) (by omega) ⟨(k+1),sv,rfl,by omega,(by first|rfl|exact f2|(simp only[upd_apply];rfl)|(show I64 _=_;congr 1;omega)),(by first|rfl|exact f4|(simp only[upd_apply];rfl)|(show I64 _=_;congr 1;omega)),(by first|rfl|exact f7|(simp only[upd_apply];rfl)|(show I64 _=_;congr 1;omega)),(by first|rfl|exact f10|(simp only[upd_apply];rfl)|(show I64 _=_;congr 1;omega)),(by first|rfl|exact f11|(simp only[upd_apply];rfl)|(show I64 _=_;congr 1;omega)),(by first|rfl|exact f12|(simp only[upd_apply];rfl)|(show I64 _=_;congr 1;omega)),(by first|rfl|exact f17|(simp only[upd_apply];rfl)|(show I64 _=_;congr 1;omega)),(by first|rfl|exact f18|(simp only[upd_apply];rfl)|(show I64 _=_;congr 1;omega)),(by first|rfl|exact f19|(simp only[upd_apply];rfl)|(show I64 _=_;congr 1;omega)),sy,(by rw[er];exact wv),ww,g1,g2,(by rw[er];exact g7)⟩
   rw[if_neg h0] at er
   by_cases h1:S0.val<0
   ·rw[if_pos h1] at er
    have f0:S0.fac=0:=fc.2.2.2.2.1 h1
    ((try simp (maxSteps:=3000000) (dsimp:=false) (disch:=first|omega|simp only[lnx];omega) only[↓ypre,ypost,↓reduceIte,reduceEqDiff,reduceAdd,reduceSub,reduceLeDiff,zz0,ynew,f2,f4,f7,f10,f11,f12,f17,f18,f19,decide_eq_true hltk,ix,rd,nth,Int.toNat_natCast,decide_eq_false h0,rd1_of g7,f0,decide_eq_true (show (0:Int)=0 from rfl),wr_of g7,wrap64_in]);try simp only[yback])
    refine InvQ_go (row.length-(k+1)) (by omega) ⟨(k+1),sv,rfl,by omega,(by first|rfl|exact f2|(simp only[upd_apply];rfl)|(show I64 _=_;congr 1;omega)),(by first|rfl|exact f4|(simp only[upd_apply];rfl)|(show I64 _=_;congr 1;omega)),(by first|rfl|exact f7|(simp only[upd_apply];rfl)|(show I64 _=_;congr 1;omega)),(by first|rfl|exact f10|(simp only[upd_apply];rfl)|(show I64 _=_;congr 1;omega)),(by first|rfl|exact f11|(simp only[upd_apply];rfl)|(show I64 _=_;congr 1;omega)),(by first|rfl|exact f12|(simp only[upd_apply];rfl)|(show I64 _=_;congr 1;omega)),(by first|rfl|exact f17|(simp only[upd_apply];rfl)|(show I64 _=_;congr 1;omega)),(by first|rfl|exact f18|(simp only[upd_apply];rfl)|(show I64 _=_;congr 1;omega)),(by first|rfl|exact f19|(simp only[upd_apply];rfl)|(show I64 _=_;congr 1;omega)),(sy.put (by omega) (by omega)),(by rw[er];exact wv.put_ty g7 (by simp)),(ww.put (.inr (by simp))),(by rw[get_put_ne (by omega)];exact g1),(by rw[get_put_ne (by omega)];exact g2),?_⟩
    rw[get_put_same lt7,er]
    show _=some (⟨[I64 (max (k:Int) 0),_],_,_,_⟩:Blk)
    rw[show max (k:Int) 0=k by omega]
   rw[if_neg h1] at er
   have f0:S0.fac≠0:=fun e=>h1 (fc.2.2.2.2.2 e)
   have mv:max S0.val 0=S0.val:=by omega
   have iv:=invP_is hp (n:=S0.fac) (by omega)
   ((try simp (maxSteps:=3000000) (dsimp:=false) (disch:=first|omega|simp only[lnx];omega) only[↓ypre,ypost,↓reduceIte,reduceEqDiff,reduceAdd,reduceSub,reduceLeDiff,zz0,ynew,f2,f4,f7,f10,f11,f12,f17,f18,f19,decide_eq_true hltk,ix,rd,nth,Int.toNat_natCast,decide_eq_false h0,rd1_of g7,decide_eq_false f0,rd1_of g1,mv,wrap64_in]);try simp only[yback])
   refine i_inverse hp5 (by omega) iv ?_
   have b:=mul_in (A:=5) (B:=5) (a:=row.getD k 0) (b:=invP x.p S0.fac) (by omega) (by have:=iv.1;have:=iv.2.1;omega)
   ((try simp (maxSteps:=3000000) (dsimp:=false) (disch:=first|omega|simp only[lnx];omega) only[↓ypre,ypost,↓reduceIte,reduceEqDiff,reduceAdd,reduceSub,reduceLeDiff,zz0,ynew,f2,f4,f7,f10,f11,f12,f17,f18,f19,rd1_of g1,wrap64_in,bin_rem]);try simp only[yback])
   refine⟨List.prefix_refl _,?_⟩
   refine wv.app2 (q:=[S0.val,k,(row.getD k 0*invP x.p S0.fac).tmod x.p]) rfl (by omega) (by omega) (by omega) fun sv' H' l' pre' keep' wv0=>?_
   have wv':=wv0.mlo (lo':=lo) (by omega)
   have g1':=keep' _ _ (by simp) g1
   have g2':=keep' _ _ (by simp) g2
   have g7':=keep' _ _ (by simp) g7
   have ww':WayX (183) .i64 2 H' lo [K1.length] so X.out:=ww.keep fun m' c' f' _ _ g=>keep' _ _ (by simp) g
   have lt1'':=get_lt g1'
   have lt7'':=get_lt g7'
   have wl:=wv'.len
   rw[List.length_append,List.length_singleton] at wl
   have g7'':(H'.put h.length ⟨[I64 x.p,I64 x.n,sv',so],70,false,true⟩).get K1.length=some ⟨[I64 (max S0.val 0),I64 S0.fac],183,false,true⟩:=by rw[get_put_ne (by omega)];exact g7'
   ((try simp (maxSteps:=3000000) (dsimp:=false) (disch:=first|omega|simp only[lnx];omega) only[↓ypre,ypost,↓reduceIte,reduceEqDiff,reduceAdd,reduceSub,reduceLeDiff,zz0,ynew,f2,f4,f7,f10,f11,f12,f17,f18,f19,wv'.one,wv'.cells,wr_of g1',rd1_of (get_put_same lt1''),wl,wr_of g7'',wrap64_in]);try simp only[yback])
   have lt7p:K1.length<(H'.put h.length ⟨[I64 x.p,I64 x.n,sv',so],70,false,true⟩).length:=by rw[len_put];exact lt7''
   have er':rowSt X.p X.n X.st row (k+1)=⟨S0.st++[[S0.val,k,(row.getD k 0*invP x.p S0.fac).tmod x.p]],x.n+((S0.st.length:Int)+1)-1,S0.fac⟩:=by
    rw[er,ep,en]
   refine InvQ_go (row.length-(k+1)) (by omega) ⟨(k+1),sv',rfl,by omega,(by first|rfl|exact f2|(simp only[upd_apply];rfl)|(show I64 _=_;congr 1;omega)),(by first|rfl|exact f4|(simp only[upd_apply];rfl)|(show I64 _=_;congr 1;omega)),(by first|rfl|exact f7|(simp only[upd_apply];rfl)|(show I64 _=_;congr 1;omega)),(by first|rfl|exact f10|(simp only[upd_apply];rfl)|(show I64 _=_;congr 1;omega)),(by first|rfl|exact f11|(simp only[upd_apply];rfl)|(show I64 _=_;congr 1;omega)),(by first|rfl|exact f12|(simp only[upd_apply];rfl)|(show I64 _=_;congr 1;omega)),(by first|rfl|exact f17|(simp only[upd_apply];rfl)|(show I64 _=_;congr 1;omega)),(by first|rfl|exact f18|(simp only[upd_apply];rfl)|(show I64 _=_;congr 1;omega)),(by first|rfl|exact f19|(simp only[upd_apply];rfl)|(show I64 _=_;congr 1;omega)),(((sy.trans ⟨by omega,pre',fun m' b' g q _=>keep' m' b' q g⟩).put (Nat.le_refl _) hlo).put (by omega) (by omega)),(by rw[er'];exact (wv'.put_ty g1' (by simp)).put_ty g7'' (by simp)),((ww'.put_ty g1' (by simp)).put (.inr (by simp))),(by rw[get_put_ne (by omega),get_put_same lt1'']),(by rw[get_put_ne (by omega),get_put_ne (by omega)];exact g2'),?_⟩
   rw[get_put_same lt7p,er']
   show _=some (⟨[I64 (max (x.n+((S0.st.length:Int)+1)-1) 0),_],_,_,_⟩:Blk)
   rw[show max (x.n+((S0.st.length:Int)+1)-1) 0=x.n+((S0.st.length:Int)+1)-1 by omega]
   rfl
  have ek:k=row.length:=by omega
  subst ek
  generalize hS:rowSt X.p X.n X.st row row.length=S0 at *
  ((try simp (maxSteps:=3000000) (dsimp:=false) (disch:=first|omega|simp only[lnx];omega) only[↓ypre,ypost,↓reduceIte,reduceEqDiff,reduceAdd,reduceSub,reduceLeDiff,zz0,ynew,f2,f4,f7,f10,f11,f12,f17,f18,f19,decide_eq_false hltk,rd1_of g1,rdn_of g7]);try simp only[yback])
  have ww0:WayX (183) .i64 2 K2 lo [] so X.out:=ww.exc (by simp)
  refine ww0.app2 (q:=[max S0.val 0,S0.fac]) rfl (by omega) (by omega) (by omega) fun so' H' l' pre' keep' ww0'=>?_
  have ww':=ww0'.mlo (lo':=lo) (by omega)
  have g1':=keep' _ _ (by simp) g1
  have g2':=keep' _ _ (by simp) g2
  have wv':=wv.types (by decide) keep'
  have lt1'':=get_lt g1'
  ((try simp (maxSteps:=3000000) (dsimp:=false) (disch:=first|omega|simp only[lnx];omega) only[↓ypre,ypost,↓reduceIte,reduceEqDiff,reduceAdd,reduceSub,reduceLeDiff,zz0,ynew,f2,f4,f7,f10,f11,f12,f17,f18,f19,ww'.one,ww'.cells,wr_of g1',wrap64_in]);try simp only[yback])
  refine InvQ_go (rows.length-(i+1)) (by omega) ⟨(i+1),sv,so',rfl,by omega,(by first|rfl|exact f2|(simp only[upd_apply];rfl)|(show I64 _=_;congr 1;omega)),(by first|rfl|exact f4|(simp only[upd_apply];rfl)|(show I64 _=_;congr 1;omega)),(by first|rfl|exact f10|(simp only[upd_apply];rfl)|(show I64 _=_;congr 1;omega)),(by first|rfl|exact f11|(simp only[upd_apply];rfl)|(show I64 _=_;congr 1;omega)),(by first|rfl|exact f12|(simp only[upd_apply];rfl)|(show I64 _=_;congr 1;omega)),((sy.trans ⟨by omega,pre',fun m' b' g _ q=>keep' m' b' q g⟩).put (Nat.le_refl _) hlo),?_,(fun _=>wv.ord ww0'),(get_put_same lt1''),(by rw[get_put_ne (by omega)];exact g2')⟩
  rw[fin1]
  refine⟨?_,?_⟩
  ·show WayX _ _ _ _ _ _ _ (rowSt X.p X.n X.st row row.length).st
   rw[hS]
   exact wv'.put_ty g1' (by simp)
  ·show WayX _ _ _ _ _ _ _ (X.out++[[max (rowSt X.p X.n X.st row row.length).val 0,(rowSt X.p X.n X.st row row.length).fac]])
   rw[hS]
   exact ww'.put_ty g1' (by simp)
 have ei:i=rows.length:=by omega
 subst ei
 ((try simp (maxSteps:=3000000) (dsimp:=false) (disch:=first|omega|simp only[lnx];omega) only[↓ypre,ypost,↓reduceIte,reduceEqDiff,reduceAdd,reduceSub,reduceLeDiff,zz0,ynew,f2,f4,f10,f11,f12,decide_eq_false hlt,rdn_of g1,wr_of g2,o2.st.one,o2.st.cells,o2.out.one,o2.out.cells]);try simp only[yback])
 have:=hQ sv so _ (sy.put (b:=⟨[I64 x.p,I64 x.n,sv,so],70,false,true⟩) (show h.length≤H1.length by omega) (by omega)) ⟨o2.st.put_ty g2 (by simp),o2.out.put_ty g2 (by simp)⟩ ob
 unfold prgV at this
 rw[ep,en] at this
 exact this
end Go.Proofs.Ytapafdpnmakekaa.X

set_option linter.unusedVariables false
set_option linter.unusedSimpArgs false
set_option maxRecDepth 20000
set_option maxHeartbeats 4000000
namespace Go.Proofs.Ytapafdpnmakekaa.X
open Go Go.RowKit
def lsOK (p n:Int) (rows:List (List Int)):Bool:=isP p&&(decide (1≤n∧n≤30)&&(decide (1≤(rows.length:Int)∧(rows.length:Int)≤30)&&isMat p n rows))
theorem lsOK_iff {p n:Int} {rows:List (List Int)}:lsOK p n rows=true↔isP p=true∧(1≤n∧n≤30)∧(1≤(rows.length:Int)∧(rows.length:Int)≤30)∧isMat p n rows=true:=by
 simp[lsOK]
def lsC (p n:Int) (rows:List (List Int)):Int:=if lsOK p n rows=true then 0 else 2
def mkB (p:Int) (T:List (List Int)) (i j r:Nat) (k:Nat):Bool:=decide (tb T k i≠0)&&decide (tb T k j=(tb T k i*r).tmod p)
def cntT (p:Int) (T:List (List Int)) (i j r:Nat):Nat:=cntB (mkB p T i j r) T.length
structure BS where
 l:Nat
 j:Nat
 r:Nat
 m:Nat
def upB (s:BS) (i j r c:Nat):BS:=if s.m<c then ⟨i,j,r,c⟩ else s
section
variable (p:Int) (T:List (List Int))
def foldR (i j:Nat):Nat→BS→BS
 | 0,s=>s
 | n+1,s=>upB (foldR i j n s) i j (n+1) (cntT p T i j (n+1))
def foldJ (i:Nat):Nat→BS→BS
 | 0,s=>s
 | n+1,s=>foldR p T i (i+1+n) (p.toNat-1) (foldJ i n s)
def foldI (W:Nat):Nat→BS→BS
 | 0,s=>s
 | n+1,s=>foldJ p T n (W-(n+1)) (foldI W n s)
def bst:BS:=foldI p T (T.getD 0 []).length (T.getD 0 []).length ⟨0,0,0,1⟩
end
def RelB (s m:BS):Prop:=(s.m<2∧m.m=1)∨(2≤s.m∧m=s)
theorem upB_rel {s m:BS} {i j r c:Nat} (h:RelB s m):RelB (upB s i j r c) (upB m i j r c):=by
 unfold upB
 rcases h with⟨h1,h2⟩|⟨h1,rfl⟩
 ·by_cases hc:2≤c
  ·rw[if_pos (by omega),if_pos (by omega)]
   exact .inr ⟨hc,rfl⟩
  ·rw[if_neg (c:=m.m<c) (by omega)]
   split
   ·exact .inl ⟨by simp only;omega,h2⟩
   ·exact .inl ⟨h1,h2⟩
 ·split
  ·exact .inr ⟨by simp only;omega,rfl⟩
  ·exact .inr ⟨h1,rfl⟩
theorem foldR_rel {p:Int} {T:List (List Int)} {i j:Nat} {s m:BS} (h:RelB s m):∀ {n:Nat},RelB (foldR p T i j n s) (foldR p T i j n m)
 | 0=>h
 | n+1=>upB_rel (foldR_rel h (n:=n))
theorem cntT_le {p:Int} {T:List (List Int)} {i j r:Nat}:cntT p T i j r≤cntB (fun k=>decide (tb T k i≠0)) T.length:=cntB_mono fun k _ h=>by
 unfold mkB at h
 exact (Bool.and_eq_true _ _▸h).1
theorem foldR_skip {p:Int} {T:List (List Int)} {i j:Nat} {m:BS} (h:∀ j r,cntT p T i j r≤m.m):∀ {n:Nat},foldR p T i j n m=m
 | 0=>rfl
 | n+1=>by
  unfold foldR upB
  rw[foldR_skip h (n:=n),if_neg (by have:=h j (n+1);omega)]
theorem foldJ_skip {p:Int} {T:List (List Int)} {i:Nat} {m:BS} (h:∀ j r,cntT p T i j r≤m.m):∀ {n:Nat},foldJ p T i n m=m
 | 0=>rfl
 | n+1=>by
  unfold foldJ
  rw[foldJ_skip h (n:=n),foldR_skip h]
def BOK (p:Int) (T:List (List Int)) (W:Nat) (s:BS):Prop:=2≤s.m→s.l<s.j∧s.j<W∧1≤s.r∧(s.r:Int)<p∧s.m=cntT p T s.l s.j s.r
theorem upB_ok {p:Int} {T:List (List Int)} {W i j r:Nat} {s:BS} (h:BOK p T W s) (h1:i<j∧j<W∧1≤r∧(r:Int)<p):BOK p T W (upB s i j r (cntT p T i j r)):=by
 unfold upB
 split
 ·exact fun _=>⟨h1.1,h1.2.1,h1.2.2.1,h1.2.2.2,rfl⟩
 ·exact h
theorem foldR_ok {p:Int} {T:List (List Int)} {W i j:Nat} {s:BS} (h:BOK p T W s) (h1:i<j∧j<W):∀ {n:Nat},(n:Int)<p→BOK p T W (foldR p T i j n s)
 | 0,_=>h
 | n+1,hn=>upB_ok (foldR_ok h h1 (n:=n) (by omega)) ⟨h1.1,h1.2,by omega,hn⟩
theorem foldJ_ok {p:Int} {T:List (List Int)} {W i:Nat} {s:BS} (hp:1≤p) (h:BOK p T W s):∀ {n:Nat},i+1+n≤W→BOK p T W (foldJ p T i n s)
 | 0,_=>h
 | n+1,hn=>foldR_ok (foldJ_ok hp h (n:=n) (by omega)) ⟨by omega,by omega⟩ (by omega)
theorem foldI_ok {p:Int} {T:List (List Int)} {W:Nat} {s:BS} (hp:1≤p) (h:BOK p T W s):∀ {n:Nat},n≤W→BOK p T W (foldI p T W n s)
 | 0,_=>h
 | n+1,hn=>foldJ_ok hp (foldI_ok hp h (n:=n) (by omega)) (by omega)
theorem foldR_m {p:Int} {T:List (List Int)} {i j:Nat} {s:BS} {B:Nat} (h:s.m≤B) (hT:T.length≤B):∀ {n:Nat},(foldR p T i j n s).m≤B
 | 0=>h
 | n+1=>by
  have ih:=foldR_m (p:=p) (T:=T) (i:=i) (j:=j) h hT (n:=n)
  have:cntT p T i j (n+1)≤T.length:=cntB_le
  unfold foldR upB
  split
  ·simp only
   omega
  ·exact ih
theorem foldJ_m {p:Int} {T:List (List Int)} {i:Nat} {s:BS} {B:Nat} (h:s.m≤B) (hT:T.length≤B):∀ {n:Nat},(foldJ p T i n s).m≤B
 | 0=>h
 | n+1=>foldR_m (foldJ_m h hT (n:=n)) hT
theorem foldI_m {p:Int} {T:List (List Int)} {W:Nat} {s:BS} {B:Nat} (h:s.m≤B) (hT:T.length≤B):∀ {n:Nat},(foldI p T W n s).m≤B
 | 0=>h
 | n+1=>foldJ_m (foldI_m h hT (n:=n)) hT
theorem mul_nz {p a r:Int} (hp:isP p=true) (ha:1≤a∧a<p) (hr:1≤r∧r<p):1≤(a*r).tmod p∧(a*r).tmod p<p:=by
 have hpp:p=2∨p=3∨p=5:=by simpa [isP] using hp
 rcases hpp with rfl|rfl|rfl
 ·have h1:a=1:=by omega
  have h3:r=1:=by omega
  subst h1 h3
  decide
 ·have h1:a=1∨a=2:=by omega
  have h3:r=1∨r=2:=by omega
  rcases h1 with rfl|rfl<;>rcases h3 with rfl|rfl<;>decide
 ·have h1:a=1∨a=2∨a=3∨a=4:=by omega
  have h3:r=1∨r=2∨r=3∨r=4:=by omega
  rcases h1 with rfl|rfl|rfl|rfl<;>rcases h3 with rfl|rfl|rfl|rfl<;>decide
def mvOK (p:Int) (l j r:Nat) (row:List Int):Bool:=decide (row.getD l 0≠0)&&decide (row.getD j 0=(row.getD l 0*r).tmod p)
def mvRow (p:Int) (l j r:Nat) (row:List Int):List Int:=if mvOK p l j r row=true then ((row.set l 0).set j 0)++[row.getD l 0] else row++[0]
def mvT (p:Int) (s:BS) (T:List (List Int)):List (List Int):=T.map (mvRow p s.l s.j s.r)
def GT (p:Int) (W:Nat) (T:List (List Int)):Prop:=∀ k,k<T.length→(T.getD k []).length=W∧∀ i,i<W→0≤tb T k i∧tb T k i<p
theorem mvRow_len {p:Int} {l j r:Nat} {row:List Int}:(mvRow p l j r row).length=row.length+1:=by
 unfold mvRow
 split<;>simp
theorem mvT_len {p:Int} {s:BS} {T:List (List Int)}:(mvT p s T).length=T.length:=by simp[mvT]
theorem mvT_get {p:Int} {s:BS} {T:List (List Int)} {k:Nat} (hk:k<T.length):(mvT p s T).getD k []=mvRow p s.l s.j s.r (T.getD k []):=by
 simp[mvT,List.getD_eq_getElem?_getD,List.getElem?_map,List.getElem?_eq_getElem hk]
theorem mvRow_at {p:Int} {l j r i:Nat} {row:List Int} (hl:l<row.length) (hj:j<row.length) (hi:i≤row.length) :
  (mvRow p l j r row).getD i 0=if i=row.length then (if mvOK p l j r row=true then row.getD l 0 else 0) else if mvOK p l j r row=true∧(i=l∨i=j) then 0 else row.getD i 0:=by
 unfold mvRow
 by_cases hm:mvOK p l j r row=true
 ·rw[if_pos hm,if_pos hm]
  by_cases he:i=row.length
  ·subst he
   rw[if_pos rfl,List.getD_eq_getElem?_getD,List.getElem?_append_right (by simp)]
   simp
  ·rw[if_neg he,List.getD_eq_getElem?_getD,List.getElem?_append_left (by simp;omega),←List.getD_eq_getElem?_getD,set_getD (by simp;exact hj),set_getD hl]
   by_cases h1:i=j
   ·rw[if_pos h1,if_pos ⟨hm,.inr h1⟩]
   ·rw[if_neg h1]
    by_cases h2:i=l
    ·rw[if_pos h2,if_pos ⟨hm,.inl h2⟩]
    ·rw[if_neg h2,if_neg (fun h=>h.2.elim h2 h1)]
 ·rw[if_neg hm,if_neg hm]
  by_cases he:i=row.length
  ·subst he
   rw[if_pos rfl,List.getD_eq_getElem?_getD,List.getElem?_append_right (Nat.le_refl _)]
   simp
  ·rw[if_neg he,if_neg (fun h=>hm h.1),List.getD_eq_getElem?_getD,List.getElem?_append_left (by omega),←List.getD_eq_getElem?_getD]
theorem GT.step {p:Int} {W:Nat} {T:List (List Int)} {s:BS} (g:GT p W T) (hp:1≤p) (h1:s.l<W) (h2:s.j<W):GT p (W+1) (mvT p s T):=by
 intro k hk
 rw[mvT_len] at hk
 obtain⟨gl,gi⟩:=g k hk
 refine⟨by rw[mvT_get hk,mvRow_len,gl],fun i hi=>?_⟩
 have hi':tb (mvT p s T) k i=(mvRow p s.l s.j s.r (T.getD k [])).getD i 0:=by unfold tb;rw[mvT_get hk]
 rw[hi',mvRow_at (by omega) (by omega) (by omega)]
 have g1:=gi s.l h1
 unfold tb at gi g1
 split
 ·split
  ·exact g1
  ·omega
 ·split
  ·omega
  ·exact gi i (by omega)
def nzR (row:List Int):Nat:=cntB (fun i=>decide (row.getD i 0≠0)) row.length
def sumN (f:Nat→Nat):Nat→Nat
 | 0=>0
 | n+1=>sumN f n+f n
def nzT (T:List (List Int)):Nat:=sumN (fun k=>nzR (T.getD k [])) T.length
theorem cntB_flip {f g:Nat→Bool} {l:Nat} (h1:f l=true) (h2:g l=false) (h3:∀ k,k≠l→f k=g k):∀ {R:Nat},l<R→cntB f R=cntB g R+1
 | 0,h=>by omega
 | R+1,h=>by
  unfold cntB
  by_cases e:l=R
  ·subst e
   rw[h1,h2,cntB_congr (f:=f) (g:=g) fun k hk=>h3 k (by omega)]
   simp
  ·rw[cntB_flip h1 h2 h3 (R:=R) (by omega),h3 R (fun q=>e q.symm)]
   omega
theorem nzR_mv {p:Int} {l j r:Nat} {row:List Int} (hp:isP p=true) (hl:l<row.length) (hj:j<row.length) (hlj:l≠j) (hr:1≤r∧(r:Int)<p) (g:∀ i,i<row.length→0≤row.getD i 0∧row.getD i 0<p) :
  nzR (mvRow p l j r row)+(if mvOK p l j r row=true then 1 else 0)=nzR row:=by
 have e:∀ i,i≤row.length→(mvRow p l j r row).getD i 0=_:=fun i hi=>mvRow_at hl hj hi
 unfold nzR
 rw[mvRow_len]
 show cntB _ row.length+(if (decide ((mvRow p l j r row).getD row.length 0≠0))=true then 1 else 0)+_=_
 rw[e row.length (Nat.le_refl _),if_pos rfl]
 by_cases hm:mvOK p l j r row=true
 ·have hm':=hm
  unfold mvOK at hm'
  rw[Bool.and_eq_true,decide_eq_true_eq,decide_eq_true_eq] at hm'
  have gl:=g l hl
  have nz:=mul_nz hp (a:=row.getD l 0) (r:=r) (by omega) (by omega)
  rw[if_pos hm,if_pos hm,if_pos (decide_eq_true hm'.1)]
  have f1:=cntB_flip (f:=fun i=>decide (row.getD i 0≠0)) (g:=fun i=>if i=l then false else decide (row.getD i 0≠0)) (l:=l) (decide_eq_true hm'.1) (by simp) (fun k hk=>by simp[hk]) (R:=row.length) hl
  have f2:=cntB_flip (f:=fun i=>if i=l then false else decide (row.getD i 0≠0)) (g:=fun i=>if i=j then false else if i=l then false else decide (row.getD i 0≠0)) (l:=j) (by
   show (if j=l then false else decide (row.getD j 0≠0))=true
   rw[if_neg (fun q=>hlj q.symm),decide_eq_true (by omega)]) (by simp) (fun k hk=>by simp[hk]) (R:=row.length) hj
  have f3:cntB (fun i=>decide ((mvRow p l j r row).getD i 0≠0)) row.length=cntB (fun i=>if i=j then false else if i=l then false else decide (row.getD i 0≠0)) row.length:=cntB_congr fun k hk=>by
   show decide ((mvRow p l j r row).getD k 0≠0)=if k=j then false else if k=l then false else decide (row.getD k 0≠0)
   rw[e k (by omega),if_neg (by omega)]
   by_cases h1:k=j
   ·rw[if_pos ⟨hm,.inr h1⟩,if_pos h1]
    rfl
   ·by_cases h2:k=l
    ·rw[if_pos ⟨hm,.inl h2⟩,if_neg h1,if_pos h2]
     rfl
    ·rw[if_neg (fun h=>h.2.elim h2 h1),if_neg h1,if_neg h2]
  rw[f3,f1,f2]
 ·rw[if_neg hm,if_neg hm,if_neg (by simp)]
  refine cntB_congr fun k hk=>?_
  show decide ((mvRow p l j r row).getD k 0≠0)=_
  rw[e k (by omega),if_neg (by omega),if_neg (fun h=>hm h.1)]
theorem sumN_add {f g h:Nat→Nat}:∀ {n:Nat},(∀ k,k<n→f k+g k=h k)→sumN f n+sumN g n=sumN h n
 | 0,_=>rfl
 | n+1,hh=>by
  have ih:=sumN_add (n:=n) fun k hk=>hh k (by omega)
  have:=hh n (by omega)
  unfold sumN
  omega
theorem sumN_cnt {f:Nat→Bool}:∀ {n:Nat},sumN (fun k=>if f k=true then 1 else 0) n=cntB f n
 | 0=>rfl
 | n+1=>by
  unfold sumN cntB
  rw[sumN_cnt (n:=n)]
theorem sumN_le {f:Nat→Nat} {B:Nat}:∀ {n:Nat},(∀ k,k<n→f k≤B)→sumN f n≤n*B
 | 0,_=>by simp[sumN]
 | n+1,h=>by
  have ih:=sumN_le (n:=n) fun k hk=>h k (by omega)
  have:=h n (by omega)
  unfold sumN
  rw[Nat.add_mul]
  omega
theorem nzT_mv {p:Int} {W:Nat} {T:List (List Int)} {s:BS} (hp:isP p=true) (g:GT p W T) (h1:s.l<s.j∧s.j<W∧1≤s.r∧(s.r:Int)<p):nzT (mvT p s T)+cntT p T s.l s.j s.r=nzT T:=by
 unfold nzT cntT
 rw[mvT_len,←sumN_cnt]
 refine sumN_add fun k hk=>?_
 obtain⟨gl,gi⟩:=g k hk
 rw[mvT_get hk]
 exact nzR_mv hp (by omega) (by omega) (by omega) ⟨h1.2.2.1,h1.2.2.2⟩ (by rw[gl];exact gi)
structure SS where
 T:List (List Int)
 st:List (List Int)
def stepS (p:Int) (s:SS):SS:=⟨mvT p (bst p s.T) s.T,s.st++[[((bst p s.T).l:Int),((bst p s.T).j:Int),((bst p s.T).r:Int)]]⟩
def shF (p:Int):Nat→SS→SS
 | 0,s=>s
 | f+1,s=>if 2≤(bst p s.T).m then shF p f (stepS p s) else s
theorem bst_ok {p:Int} {W:Nat} {T:List (List Int)} (hp:isP p=true) (g:GT p W T) (hT:1≤T.length) (h:2≤(bst p T).m) :
  (bst p T).l<(bst p T).j∧(bst p T).j<W∧1≤(bst p T).r∧((bst p T).r:Int)<p∧(bst p T).m=cntT p T (bst p T).l (bst p T).j (bst p T).r:=by
 have hp5:=isP_in hp
 have hw:=(g 0 (by omega)).1
 have:=foldI_ok (T:=T) (W:=(T.getD 0 []).length) (s:=⟨0,0,0,1⟩) (show 1≤p by omega) (fun h=>by simp only at h;omega) (n:=(T.getD 0 []).length) (Nat.le_refl _)
 rw[←hw]
 exact this h
theorem stepS_facts {p:Int} {W:Nat} {s:SS} (hp:isP p=true) (g:GT p W s.T) (hT:1≤s.T.length) (h:2≤(bst p s.T).m) :
  GT p (W+1) (stepS p s).T∧(stepS p s).T.length=s.T.length∧nzT (stepS p s).T+2≤nzT s.T:=by
 have hp5:=isP_in hp
 obtain⟨h1,h2,h3,h4,h5⟩:=bst_ok hp g hT h
 refine⟨g.step (by omega) (by omega) h2,mvT_len,?_⟩
 have:=nzT_mv hp g ⟨h1,h2,h3,h4⟩
 show nzT (mvT p (bst p s.T) s.T)+2≤_
 omega
theorem shF_same {p:Int} (hp:isP p=true):∀ {f g W:Nat} {s:SS},GT p W s.T→1≤s.T.length→nzT s.T≤f→nzT s.T≤g→shF p f s=shF p g s
 | 0,0,_,_,_,_,_,_=>rfl
 | 0,g+1,W,s,gt,hT,h1,h2=>by
  unfold shF
  rw[if_neg]
  intro h
  have:=(stepS_facts hp gt hT h).2.2
  omega
 | f+1,0,W,s,gt,hT,h1,h2=>by
  unfold shF
  rw[if_neg]
  intro h
  have:=(stepS_facts hp gt hT h).2.2
  omega
 | f+1,g+1,W,s,gt,hT,h1,h2=>by
  unfold shF
  by_cases h:2≤(bst p s.T).m
  ·rw[if_pos h,if_pos h]
   obtain⟨a,b,c⟩:=stepS_facts hp gt hT h
   exact shF_same hp a (by omega) (by omega) (by omega)
  ·rw[if_neg h,if_neg h]
theorem shF_go {p:Int} {W:Nat} {s:SS} (hp:isP p=true) (g:GT p W s.T) (hT:1≤s.T.length) (h:2≤(bst p s.T).m):shF p (nzT s.T) s=shF p (nzT (stepS p s).T) (stepS p s):=by
 obtain⟨a,b,c⟩:=stepS_facts hp g hT h
 obtain⟨f,hf⟩:∃ f,nzT s.T=f+1:=⟨nzT s.T-1,by omega⟩
 rw[hf]
 show (if 2≤(bst p s.T).m then shF p f (stepS p s) else s)=_
 rw[if_pos h]
 exact shF_same hp a (by omega) (by omega) (Nat.le_refl _)
theorem shF_stop {p:Int} {f:Nat} {s:SS} (h:¬ 2≤(bst p s.T).m):shF p f s=s:=by
 cases f with
 | zero=>rfl
 | succ f=>
  unfold shF
  rw[if_neg h]
def shS (p:Int) (rows:List (List Int)):SS:=shF p (nzT rows) ⟨rows,[]⟩
def shP (p n:Int) (rows:List (List Int)):Prg:=finP ⟨p,n,(shS p rows).st,[]⟩ (shS p rows).T (shS p rows).T.length
structure ShI (p:Int) (N:Nat) (rows:List (List Int)) (s:SS):Prop where
 gt:GT p (N+s.st.length) s.T
 len:s.T.length=rows.length
 nz:s.st.length+nzT s.T≤900
 eq:shF p (nzT s.T) s=shS p rows
 wid:Wid 3 s.st
theorem lsOK_gt {p n:Int} {rows:List (List Int)} (h:lsOK p n rows=true):GT p n.toNat rows:=by
 obtain⟨hp,hn,hl,hm⟩:=lsOK_iff.1 h
 intro k hk
 obtain⟨h1,h2⟩:=isMat_iff.1 hm k hk
 refine⟨by omega,fun i hi=>?_⟩
 exact allIn_iff.1 h2 i (by omega)
theorem ShI.start {p n:Int} {rows:List (List Int)} (h:lsOK p n rows=true):ShI p n.toNat rows ⟨rows,[]⟩:=by
 obtain⟨hp,hn,hl,hm⟩:=lsOK_iff.1 h
 refine⟨lsOK_gt h,rfl,?_,rfl,fun q hq=>by simp at hq⟩
 have:nzT rows≤rows.length*30:=sumN_le fun k hk=>by
  have:=(isMat_iff.1 hm k hk).1
  have:nzR (rows.getD k [])≤(rows.getD k []).length:=cntB_le
  omega
 simp only[List.length_nil]
 have:rows.length*30≤30*30:=Nat.mul_le_mul_right _ (by omega)
 omega
theorem ShI.go {p:Int} {N:Nat} {rows:List (List Int)} {s:SS} (i:ShI p N rows s) (hp:isP p=true) (hT:1≤rows.length) (h:2≤(bst p s.T).m):ShI p N rows (stepS p s)∧nzT (stepS p s).T<nzT s.T:=by
 have hT':1≤s.T.length:=by rw[i.len];exact hT
 obtain⟨a,b,c⟩:=stepS_facts hp i.gt hT' h
 have e:(stepS p s).st.length=s.st.length+1:=by simp[stepS]
 have n:=i.nz
 refine⟨⟨by rw[e];exact a,by rw[b,i.len],by omega,by rw[←shF_go hp i.gt hT' h];exact i.eq,?_⟩,by omega⟩
 intro q hq
 rcases List.mem_append.1 (show q∈s.st++_ from hq) with hq|hq
 ·exact i.wid q hq
 ·rw[List.mem_singleton.1 hq]
  rfl
theorem ShI.stop {p:Int} {N:Nat} {rows:List (List Int)} {s:SS} (i:ShI p N rows s) (h:¬ 2≤(bst p s.T).m):s=shS p rows:=by
 rw[←i.eq,shF_stop h]
theorem shS_facts {p n:Int} {rows:List (List Int)} (h:lsOK p n rows=true):ShI p n.toNat rows (shS p rows):=by
 obtain⟨hp,hn,hl,hm⟩:=lsOK_iff.1 h
 have key:∀ (f:Nat) (s:SS),nzT s.T≤f→ShI p n.toNat rows s→ShI p n.toNat rows (shS p rows):=by
  intro f
  induction f with
  | zero=>
   intro s h1 i
   have:¬ 2≤(bst p s.T).m:=fun hb=>by
    have:=(i.go hp (by omega) hb).2
    omega
   rw[←i.stop this]
   exact i
  | succ f ih=>
   intro s h1 i
   by_cases hb:2≤(bst p s.T).m
   ·obtain⟨i',lt⟩:=i.go hp (by omega) hb
    exact ih _ (by omega) i'
   ·rw[←i.stop hb]
    exact i
 exact key _ _ (Nat.le_refl _) (ShI.start h)
def ctA (p:Int) (T:List (List Int)) (i j:Nat) (c:Int) (k:Nat):Bool:=decide (tb T k i≠0)&&(decide (tb T k j≠0)&&decide ((tb T k j*invP p (tb T k i)).tmod p=c))
theorem WayX.appK {e:TypeId} {k:IntKind} {w:Nat} {lo:Nat} {ex:List Nat} {sv:Value} {L:List (List Int)} {H:AH} {q:List Int} {e':TypeId} {ro full:Bool} {bytes:Nat} (o:WayX e k w H lo ex sv L) (hq:q.length=w) (hl:((L.length:Int)+1)*bytes≤140737488355328) (hn:(L.length:Int)<1048576) (hlo:lo≤H.length) (hex:∀ m,m∈ex→m<H.length)
  {Q:Value→AH→Prop} (hQ:∀ (sv':Value) (H':AH),H'.length=H.length+2→(∀ h0:AH,h0.length≤lo→h0<+:H→h0<+:H')→(∀ m b,(m∈ex∨b.e≠e)→H.get m=some b→H'.get m=some b)→WayX e k w H' H.length ex sv' (L++[q])→Q sv' H') :
  OQ (appV e w bytes sv (.slice (some ⟨H.length,0,none⟩) 1 w) (H.new ⟨cel k q,e',ro,full⟩)) Q:=by
 have hr:(H.new ⟨cel k q,e',ro,full⟩).rdn H.length 0 w=some (cel k q):=by
  rw[rdn_of get_new_same]
  simp only
  rw[if_pos (by rw[cel_len,hq];omega),List.drop_zero,List.take_of_length_le (by rw[cel_len,hq];omega)]
 obtain⟨hw,⟨rfl,rfl⟩|⟨kb,fu,rfl,h2,h3,h4⟩⟩:=o
 ·rw[app_nilW (.inl rfl) hr (by simp only[List.length_nil] at hl;omega),OQ_some]
  refine hQ _ _ (by rw[len_new,len_new]) (fun h0 _ p=>pre_new (pre_new p)) (fun m b _ o=>get_new_any (get_new_any o)) ⟨?_,.inr ⟨_,false,rfl,by rw[len_new];omega,fun hm=>by have:=hex _ hm;rw[len_new] at this;omega,?_⟩⟩
  ·intro r hr
   rw[List.nil_append,List.mem_singleton] at hr
   rw[hr,hq]
  ·rw[get_new_same]
   simp
 ·have hk:(H.new ⟨cel k q,e',ro,full⟩).get kb=some ⟨cel k L.flatten,e,false,fu⟩:=get_new_any h4
  have hkb:=get_lt h4
  rw[app_ownW hk (by rw[cel_len,flat_len hw]) hr ⟨hl,by omega⟩,OQ_some]
  refine hQ _ _ (by rw[len_new,len_kill,len_new]) (fun h0 q p=>pre_new (pre_kill (pre_new p) (by omega))) (fun m b hm o=>?_) ⟨?_,.inr ⟨(H.new ⟨cel k q,e',ro,full⟩).length,false,by simp,by rw[len_new];omega,fun hm=>by have:=hex _ hm;rw[len_new] at this;omega,?_⟩⟩
  ·refine get_new_any ?_
   rw[get_kill_ne]
   ·exact get_new_any o
   ·rintro rfl
    rcases hm with hm|hm
    ·exact h3 hm
    ·rw[h4] at o
     cases o
     exact hm rfl
  ·intro r hr
   rcases List.mem_append.1 hr with hr|hr
   ·exact hw r hr
   ·rw[List.mem_singleton.1 hr,hq]
  ·rw[get_new_eq (by rw[len_kill])]
   simp[cel_app]
structure TabL (h:AH) (lo nb:Nat) (full:Bool) (L:List (Nat×List Int)):Prop where
 g:h.get nb=some ⟨L.map rowV,27,false,full⟩
 low:lo≤nb
 rows:∀ i (hi:i<L.length),lo≤(L[i]).1∧∃ fu,Lst h (L[i]).1 (L[i]).2 fu
 dist:∀ i j (hi:i<L.length) (hj:j<L.length),i≠j→(L[i]).1≠(L[j]).1
section
variable {h h':AH} {lo nb:Nat} {full:Bool} {L:List (Nat×List Int)}
theorem TabL.keep (s:TabL h lo nb full L) (hk:∀ m b,(b.e=2∨b.e=27)→h.get m=some b→h'.get m=some b):TabL h' lo nb full L:=
 ⟨hk _ _ (.inr rfl) s.g,s.low,fun i hi=>⟨(s.rows i hi).1,by obtain⟨fu,o⟩:=(s.rows i hi).2;exact⟨fu,hk _ _ (.inl rfl) o⟩⟩,s.dist⟩
theorem TabL.pre (s:TabL h lo nb full L) (p:h<+:h'):TabL h' lo nb full L:=s.keep fun m b _ g=>pre_get p g
theorem TabL.put (s:TabL h lo nb full L) {n:Nat} {b b':Blk} (g:h.get n=some b') (hb:b'.e≠2∧b'.e≠27):TabL (h.put n b) lo nb full L:=s.keep fun m c hc g'=>by
 rw[get_put_ne]
 ·exact g'
 ·rintro rfl
  rw[g] at g'
  cases g'
  rcases hc with hc|hc
  ·exact hb.1 hc
  ·exact hb.2 hc
theorem TabL.rd (s:TabL h lo nb full L) {i:Nat} (hi:i<L.length):h.rd1 nb i=some (sl (L[i]).1 (L[i]).2.length):=by
 rw[rd1_of s.g]
 simp[hi,rowV,sl]
theorem TabL.ne (s:TabL h lo nb full L) {i:Nat} (hi:i<L.length):(L[i]).1≠nb:=by
 obtain⟨fu,o⟩:=(s.rows i hi).2
 intro e
 have g:=s.g
 unfold Lst at o
 rw[e,g] at o
 have:=congrArg (fun b:Option Blk=>b.map (·.e)) o
 simp at this
theorem TabL.vals (s:TabL h lo nb full L):Vals h (sl nb L.length) (L.map rowV):=by
 refine .inr ⟨nb,0,_,?_,s.g,by simp,fun i hi=>?_⟩
 ·simp[sl]
 ·rw[Nat.zero_add,List.getD_eq_getElem?_getD,List.getElem?_eq_getElem hi]
  rfl
theorem TabL.at (s:TabL h lo nb full L) {i:Nat} (hi:i<L.length):Ints h ((L.map rowV).getD i undef) ((L.map Prod.snd).getD i []):=by
 obtain⟨fu,o⟩:=(s.rows i hi).2
 have e1:(L.map rowV).getD i undef=sl (L[i]).1 (L[i]).2.length:=by simp[List.getD_eq_getElem?_getD,hi,rowV,sl]
 have e2:(L.map Prod.snd).getD i []=(L[i]).2:=by simp[List.getD_eq_getElem?_getD,hi]
 rw[e1,e2]
 exact o.ints
theorem TabL.rowsS (s:TabL h lo nb full L):RowsS lo h (sl nb L.length) (L.map Prod.snd):=by
 have hk:∀ h',Stay lo h h'→TabL h' lo nb full L:=fun h' st=>s.keep fun m b hb g=>st.get m b g (by rcases hb with hb|hb<;>rw[hb]<;>decide) (by rcases hb with hb|hb<;>rw[hb]<;>decide)
 exact⟨L.map rowV,fun h' st=>(hk h' st).vals,by simp,fun i hi h' st=>(hk h' st).at (by simpa using hi)⟩
theorem TabL.app {n:Nat} {fu fw:Bool} {r:List Int} {e:TypeId} {h2:AH} (s:TabL h2 lo nb full L) (hn:lo≤n) (hd:∀ j (hj:j<L.length),(L[j]).1≠n) (ob:Lst h2 n r fw) (hlo:lo≤h2.length)
  (hl:(L.length:Int)≤1048576) {Q:Value→AH→Prop}
  (hQ:∀ H':AH,H'.length=h2.length+2→TabL H' lo (h2.length+1) false (L++[(n,r)])→(∀ m b,m≠nb→h2.get m=some b→H'.get m=some b)→(∀ h9:AH,h9.length≤nb→h9<+:h2→h9<+:H')→Q (sl (h2.length+1) (L++[(n,r)]).length) H') :
  OQ (appV 27 1 24 (sl nb L.length) (.slice (some ⟨h2.length,0,none⟩) 1 1) (h2.new ⟨[sl n r.length],e,false,fu⟩)) Q:=by
 have hrd:(h2.new ⟨[.slice (some ⟨n,0,none⟩) r.length 1],e,false,fu⟩).rdn h2.length 0 1=some [.slice (some ⟨n,0,none⟩) r.length 1]:=by rw[rdn_new_same];rfl
 have hk:(h2.new ⟨[.slice (some ⟨n,0,none⟩) r.length 1],e,false,fu⟩).get nb=some ⟨L.map rowV,27,false,full⟩:=get_new_any s.g
 have l1:=get_lt s.g
 have keep:∀ m b,m≠nb→h2.get m=some b→(((h2.new ⟨[.slice (some ⟨n,0,none⟩) r.length 1],e,false,fu⟩).kill nb).new ⟨L.map rowV++[.slice (some ⟨n,0,none⟩) r.length 1],27,false,false⟩).get m=some b:=fun m b hm g=>get_new_any (by rw[get_kill_ne (fun e=>hm e.symm)];exact get_new_any g)
 unfold sl at hQ ⊢
 rw[app_own hk (by simp) hrd (by omega),OQ_some]
 have:=hQ _ (by rw[len_new,len_kill,len_new]) ?_ keep (fun h9 hh p=>pre_new (pre_kill (pre_new p) hh))
 ·rw[len_new]
  rw[List.length_append,List.length_singleton] at this
  exact this
 ·refine⟨by rw[get_new_eq (by rw[len_kill,len_new])];simp[rowV],by omega,fun i hi=>?_,fun a b ha hb hab=>?_⟩
  ·by_cases hiL:i<L.length
   ·rw[List.getElem_append_left hiL]
    obtain⟨q1,fq,o⟩:=s.rows i hiL
    exact⟨q1,fq,keep _ _ (s.ne hiL) o⟩
   ·have e1:i=L.length:=by simp at hi;omega
    subst e1
    rw[List.getElem_append_right (Nat.le_refl _)]
    simp only[Nat.sub_self,List.getElem_cons_zero]
    refine⟨hn,fw,keep _ _ ?_ ob⟩
    rintro rfl
    have g:=s.g
    unfold Lst at ob
    rw[g] at ob
    have:=congrArg (fun b:Option Blk=>b.map (·.e)) ob
    simp at this
  ·by_cases ha':a<L.length
   ·rw[List.getElem_append_left ha']
    by_cases hb':b<L.length
    ·rw[List.getElem_append_left hb']
     exact s.dist a b ha' hb' hab
    ·have e1:b=L.length:=by simp at hb;omega
     subst e1
     rw[List.getElem_append_right (Nat.le_refl _)]
     simp only[Nat.sub_self,List.getElem_cons_zero]
     exact hd a ha'
   ·have e1:a=L.length:=by simp at ha;omega
    subst e1
    have hb':b<L.length:=by simp at hb;omega
    rw[List.getElem_append_right (Nat.le_refl _),List.getElem_append_left hb']
    simp only[Nat.sub_self,List.getElem_cons_zero]
    exact (hd b hb').symm
end
structure StayT (lo:Nat) (h h':AH):Prop where
 len:h.length≤h'.length
 pre:∀ h0:AH,h0.length≤lo→h0<+:h→h0<+:h'
 get:∀ m b,h.get m=some b→b.e≠2→b.e≠27→h'.get m=some b
theorem StayT.refl {lo:Nat} {h:AH}:StayT lo h h:=⟨Nat.le_refl _,fun _ _ p=>p,fun _ _ g _ _=>g⟩
theorem StayT.of {lo:Nat} {h h':AH} (p:h<+:h'):StayT lo h h':=⟨pre_len p,fun _ _ q=>q.trans p,fun _ _ g _ _=>pre_get p g⟩
theorem StayT.trans {lo:Nat} {h h1 h2:AH} (a:StayT lo h h1) (b:StayT lo h1 h2):StayT lo h h2:=
 ⟨Nat.le_trans a.len b.len,fun h0 hl p=>b.pre h0 hl (a.pre h0 hl p),fun m c g h1 h2=>b.get m c (a.get m c g h1 h2) h1 h2⟩
theorem StayT.put {lo n:Nat} {h:AH} {b b':Blk} (g:h.get n=some b') (hb:b'.e=2∨b'.e=27) (hlo:lo≤n):StayT lo h (h.put n b):=
 ⟨by rw[len_put];exact Nat.le_refl _,fun h0 hl p=>pre_put p (by omega),fun m c g' h1 h2=>by
  rw[get_put_ne]
  ·exact g'
  ·rintro rfl
   rw[g] at g'
   cases g'
   rcases hb with hb|hb
   ·exact h1 hb
   ·exact h2 hb⟩
structure StayI (lo:Nat) (h h':AH):Prop where
 len:h.length≤h'.length
 pre:∀ h0:AH,h0.length≤lo→h0<+:h→h0<+:h'
 get:∀ m b,h.get m=some b→(b.e=2∨b.e=27)→h'.get m=some b
theorem StayI.trans {lo:Nat} {h h1 h2:AH} (a:StayI lo h h1) (b:StayI lo h1 h2):StayI lo h h2:=
 ⟨Nat.le_trans a.len b.len,fun h0 hl p=>b.pre h0 hl (a.pre h0 hl p),fun m c g h1=>b.get m c (a.get m c g h1) h1⟩
theorem StayI.put {lo n:Nat} {h:AH} {b b':Blk} (g:h.get n=some b') (hb:b'.e≠2∧b'.e≠27) (hlo:lo≤n):StayI lo h (h.put n b):=
 ⟨by rw[len_put];exact Nat.le_refl _,fun h0 hl p=>pre_put p (by omega),fun m c g' h1=>by
  rw[get_put_ne]
  ·exact g'
  ·rintro rfl
   rw[g] at g'
   cases g'
   rcases h1 with h1|h1
   ·exact hb.1 h1
   ·exact hb.2 h1⟩
end Go.Proofs.Ytapafdpnmakekaa.X

set_option linter.unusedVariables false
set_option linter.unusedSimpArgs false
set_option maxRecDepth 20000
set_option maxHeartbeats 4000000
namespace Go.Proofs.Ytapafdpnmakekaa.X
open Go Go.RowKit
open Nat (reduceEqDiff reduceAdd reduceSub reduceLeDiff)
def Col (T:List (List Int)) (i:Nat) (q:List Int):Prop:=q.length=5∧∀ x:Nat,1≤x→x<5→q.getD x 0=((bs T.length fun k=>decide (tb T k i=x):Nat):Int)
theorem Col.at {T:List (List Int)} {i x:Nat} {q:List Int} (c:Col T i q) (h:1≤x∧x<5):(cel .u32 q)[x]?=some (U32 (bs T.length fun k=>decide (tb T k i=x))):=by
 rw[cel_get (by rw[c.1];exact h.2),c.2 x h.1 h.2]
 rfl
theorem bs_none {R:Nat}:bs R (fun _=>false)=0:=(bs_of fun k=>by simp).symm
theorem ixa_u {n off len:Nat} {kk:IntKind} {j:Nat} (h:j<len):ixaV len 1 (.pointer (some ⟨n,off,none⟩)) (.int kk (j:Int))=some (.pointer (some ⟨n,off+j,none⟩)):=by
 rw[ixaV_ptr (by omega),Int.toNat_natCast,Nat.mul_one]
theorem i_rowsWith {p:Int} {W i j r:Nat} {T:List (List Int)} {qa qb:List Int} {h:AH} {Q:Value→AH→Prop} (hp:isP p=true) (g:GT p W T) (hT:T.length≤30) (hi:i<W) (hj:j<W) (ca:Col T i qa) (cb:Col T j qb) (hr:1≤r∧(r:Int)<p)
  (hQ:∀ h',h<+:h'→Q (U32 (bs T.length (mkB p T i j r))) h'):WF S 295 [I64 p,aggV .u32 qa,aggV .u32 qb,I64 r] h Q:=by
 refine WF_fn (fn:=c295) rfl rfl ?_
 dsimp only[c295,oO,oM,oS,oG,oK,oE,oL,oF,oX,oN]
 have hp5:=isP_in hp
 ((try simp (maxSteps:=3000000) (dsimp:=false) (disch:=first|omega|simp only[lnx];omega) only[↓ypre,ypost,↓reduceIte,reduceEqDiff,reduceAdd,reduceSub,reduceLeDiff,zz0,ynew,aggV,cel_all,cellsL_cel]);try simp only[yback])
 generalize hH1:AH.new h _=H1
 obtain⟨hb1,p1,n1⟩:=new_facts hH1
 generalize hH2:AH.new H1 _=H2
 obtain⟨hb2,p2,n2⟩:=new_facts hH2
 have hb1:=pre_get p2 hb1
 obtain⟨fN,hfN⟩:∃ fN:Nat→Nat→Bool,fN=fun (c:Nat) (k:Nat)=>decide (1≤tb T k i∧tb T k i≤(c:Int))&&decide (tb T k j=(tb T k i*r).tmod p):=⟨_,rfl⟩
 have z0:Value.int IntKind.u32 0=U32 (bs T.length (fN 0)):=by
  have:bs T.length (fN 0)=bs T.length fun _=>false:=bs_congr fun k _=>by
   rw[hfN]
   show (decide (1≤tb T k i∧tb T k i≤((0:Nat):Int))&&_)=false
   rw[decide_eq_false (by omega),Bool.false_and]
  rw[this,bs_none]
  rfl
 rw[z0]
 refine WC_loop_inv (fun m f K1=>∃ (c:Nat),m=((p.toNat-1))-c∧c≤((p.toNat-1))∧f 0=I64 p∧f 3=I64 r∧f 5=.pointer (some ⟨h.length,0,none⟩)∧f 6=.pointer (some ⟨H1.length,0,none⟩)∧f 9=U32 (bs T.length (fN c))∧f 10=I64 ((c:Int)+1)∧K1=H2) ?_ (((p.toNat-1))-0) _ _ ⟨0,rfl,by omega,(by first|rfl|simp[upd_apply]),(by first|rfl|simp[upd_apply]),(by first|rfl|simp[upd_apply]),(by first|rfl|simp[upd_apply]),(by first|rfl|simp[upd_apply]),(by first|rfl|simp[upd_apply]),rfl⟩
 rintro m f K1 ⟨c,rfl,hc,f0,f3,f5,f6,f9,f10,rfl⟩
 by_cases hlt:(c:Int)+1<p
 ·have hc:c<p.toNat-1:=by omega
  have nz:=mul_nz hp (a:=((c+1:Nat):Int)) (r:=(r:Int)) (by omega) (by omega)
  have mb:=mul_in (A:=5) (B:=5) (a:=((c+1:Nat):Int)) (b:=(r:Int)) (by omega) (by omega)
  obtain⟨y,hy⟩:∃ y:Nat,(((c+1:Nat):Int)*r).tmod p=y:=⟨_,(Int.toNat_of_nonneg (by omega)).symm⟩
  have eI:(c:Int)+1=((c+1:Nat):Int):=by omega
  rw[eI] at f10
  have ra:=ca.at (x:=c+1) (by omega)
  have rb:=cb.at (x:=y) (by omega)
  have ixA:=ixa_u (n:=h.length) (off:=0) (len:=5) (kk:=.i64) (j:=c+1) (by omega)
  have ixB:=ixa_u (n:=H1.length) (off:=0) (len:=5) (kk:=.i64) (j:=y) (by omega)
  rw[Nat.zero_add] at ixA ixB
  have an:=bin_and (R:=T.length) (f:=fun k=>decide (tb T k i=((c+1:Nat):Int))) (g:=fun k=>decide (tb T k j=((y:Nat):Int))) (by omega)
  have orr:=bin_or (R:=T.length) (f:=fN c) (g:=fun k=>decide (tb T k i=((c+1:Nat):Int))&&decide (tb T k j=((y:Nat):Int))) (by omega)
  have e1:bs T.length (fun k=>fN c k||(decide (tb T k i=((c+1:Nat):Int))&&decide (tb T k j=((y:Nat):Int))))=bs T.length (fN (c+1)):=bs_congr fun k hk=>by
   rw[hfN]
   show (decide (1≤tb T k i∧tb T k i≤(c:Int))&&decide (tb T k j=(tb T k i*r).tmod p)||(decide (tb T k i=((c+1:Nat):Int))&&decide (tb T k j=((y:Nat):Int))))=(decide (1≤tb T k i∧tb T k i≤((c+1:Nat):Int))&&decide (tb T k j=(tb T k i*r).tmod p))
   by_cases e:tb T k i=((c+1:Nat):Int)
   ·rw[decide_eq_false (p:=1≤tb T k i∧tb T k i≤(c:Int)) (by omega),decide_eq_true (p:=tb T k i=((c+1:Nat):Int)) e,decide_eq_true (p:=1≤tb T k i∧tb T k i≤((c+1:Nat):Int)) (by omega),e,hy]
    simp
   ·rw[decide_eq_false (p:=tb T k i=((c+1:Nat):Int)) e]
    by_cases e2:1≤tb T k i∧tb T k i≤(c:Int)
    ·rw[decide_eq_true e2,decide_eq_true (p:=1≤tb T k i∧tb T k i≤((c+1:Nat):Int)) (by omega)]
     simp
    ·rw[decide_eq_false e2,decide_eq_false (p:=1≤tb T k i∧tb T k i≤((c+1:Nat):Int)) (by omega)]
     simp
  rw[e1] at orr
  ((try simp (maxSteps:=3000000) (dsimp:=false) (disch:=first|omega|simp only[lnx];omega) only[↓ypre,ypost,↓reduceIte,reduceEqDiff,reduceAdd,reduceSub,reduceLeDiff,zz0,ynew,f0,f3,f5,f6,f9,f10,decide_eq_true (show ((c+1:Nat):Int)<p by omega),ixA,rd1_of hb1,ra,bin_rem,hy,ixB,rd1_of hb2,rb,an,orr,wrap64_in]);try simp only[yback])
  refine InvQ_go (((p.toNat-1))-(c+1)) (by omega) ⟨(c+1),rfl,by omega,(by first|rfl|exact f0|(simp only[upd_apply];rfl)|(show I64 _=_;congr 1;omega)),(by first|rfl|exact f3|(simp only[upd_apply];rfl)|(show I64 _=_;congr 1;omega)),(by first|rfl|exact f5|(simp only[upd_apply];rfl)|(show I64 _=_;congr 1;omega)),(by first|rfl|exact f6|(simp only[upd_apply];rfl)|(show I64 _=_;congr 1;omega)),(by first|rfl|exact f9|(simp only[upd_apply];rfl)|(show I64 _=_;congr 1;omega)),(by show I64 _=I64 _;congr 1),rfl⟩
 have ec:c=p.toNat-1:=by omega
 subst ec
 ((try simp (maxSteps:=3000000) (dsimp:=false) (disch:=first|omega|simp only[lnx];omega) only[↓ypre,ypost,↓reduceIte,reduceEqDiff,reduceAdd,reduceSub,reduceLeDiff,zz0,ynew,f0,f3,f5,f6,f9,f10,decide_eq_false hlt]);try simp only[yback])
 have e2:bs T.length (fN (p.toNat-1))=bs T.length (mkB p T i j r):=bs_congr fun k hk=>by
  obtain⟨_,gi⟩:=g k hk
  have:=gi i hi
  rw[hfN]
  show (decide (1≤tb T k i∧tb T k i≤((p.toNat-1:Nat):Int))&&_)=(decide (tb T k i≠0)&&_)
  by_cases e:tb T k i=0
  ·rw[decide_eq_false (p:=tb T k i≠0) (fun y=>y e),decide_eq_false (p:=1≤tb T k i∧_) (by omega)]
  ·rw[decide_eq_true (p:=tb T k i≠0) e,decide_eq_true (p:=1≤tb T k i∧_) (by omega)]
 rw[e2]
 exact hQ _ (p1.trans p2)
def slcaW (len sz:Nat) (x c:Value) (h:AH):Option (Value×AH):=xop (.slca len sz (.const x) (some (.const c)) none) (fun _=>undef) h
theorem yWX_slcaW {S:XS} {f:Fr} {h:AH} {Q:Value→AH→Prop} {len sz:Nat} {x:Operand} {c:Value}:WX S (.slca len sz x (some (.const c)) none) f h Q=yOQ (slcaW len sz (ev f x) c h) Q .mk:=by
 rw[WX_op (fun _=>rfl)]
 rfl
theorem slcaW_of {h:AH} {n:Nat} {c:List Value} {e:TypeId} (hg:h.get n=some ⟨c,e,false,true⟩) (hl:c.length=5):slcaW 5 1 (.pointer (some ⟨n,0,none⟩)) (I64 1) h=some (.slice (some ⟨n,1,none⟩) 4 1,h):=by
 simp only[slcaW,xop,ev,hg,bound]
 rw[if_pos ⟨trivial,trivial,by omega,by omega,by omega,by omega⟩]
 rfl
theorem i_mostRows {v:Value} {p:Int} {W:Nat} {T:List (List Int)} {cols:List (List Int)} {h:AH} {Q:Value→AH→Prop} (hv:Els .u32 5 h v cols) (hcw:cols.length=W) (hcol:∀ i,i<W→Col T i (cols.getD i [])) (hp:isP p=true) (g:GT p W T) (hT:1≤T.length∧T.length≤30) (hW:W≤1000)
  (hQ:∀ h',h<+:h'→Q (.tuple #[.agg #[I64 (bst p T).l,I64 (bst p T).j,I64 (bst p T).r],.bool (decide (1<((bst p T).m:Int)))]) h'):WF S 294 [I64 p,v] h Q:=by
 refine WF_fn (fn:=c294) rfl rfl ?_
 dsimp only[c294,oO,oM,oS,oG,oK,oE,oL,oF,oX,oN]
 have hp5:=isP_in hp
 ((try simp (maxSteps:=3000000) (dsimp:=false) (disch:=first|omega|simp only[lnx];omega) only[↓ypre,ypost,↓reduceIte,reduceEqDiff,reduceAdd,reduceSub,reduceLeDiff,zz0,ynew,hv.one]);try simp only[yback])
 generalize hH1:AH.new h _=H1
 obtain⟨hb1,p1,n1⟩:=new_facts hH1
 generalize hH2:AH.new H1 _=H2
 obtain⟨hb2,p2,n2⟩:=new_facts hH2
 have hw0:=(g 0 (by omega)).1
 have hlen:=(hv.pre (p1.trans p2)).len
 rw[hcw] at hlen
 ((try simp (maxSteps:=3000000) (dsimp:=false) (disch:=first|omega|simp only[lnx];omega) only[↓ypre,ypost,↓reduceIte,reduceEqDiff,reduceAdd,reduceSub,reduceLeDiff,zz0,ynew,hlen]);try simp only[yback])
 have hm0:∀ n,(foldI p T W n ⟨0,0,0,1⟩).m≤30:=fun n=>foldI_m (by simp) hT.2
 refine WC_loop_inv (fun m f K1=>∃ (i:Nat),m=W-i∧i≤W∧f 0=I64 p∧f 1=v∧f 4=.pointer (some ⟨h.length,0,none⟩)∧f 6=.pointer (some ⟨H1.length,0,none⟩)∧f 7=I64 (foldI p T W i ⟨0,0,0,1⟩).m∧f 17=v∧f 18=I64 W∧f 19=I64 i∧(H1<+:K1)∧(OwnB K1 H1.length [I64 (foldI p T W i ⟨0,0,0,1⟩).l,I64 (foldI p T W i ⟨0,0,0,1⟩).j,I64 (foldI p T W i ⟨0,0,0,1⟩).r] true)) ?_ (W-0) _ _ ⟨0,rfl,by omega,(by first|rfl|simp[upd_apply]),(by first|rfl|simp[upd_apply]),(by first|rfl|simp[upd_apply]),(by first|rfl|simp[upd_apply]),(by first|rfl|simp[upd_apply]),(by first|rfl|simp[upd_apply]),(by first|rfl|simp[upd_apply]),(by first|rfl|simp[upd_apply]),p2,⟨_,hb2⟩⟩
 rintro m f K1 ⟨i,rfl,hi,f0,f1,f4,f6,f7,f17,f18,f19,pp,g6⟩
 have hvK:=hv.pre (p1.trans pp)
 by_cases hlt:(i:Int)<W
 ·have hi':i<W:=by omega
  obtain⟨s0,hs0⟩:∃ s0,s0=foldI p T W i ⟨0,0,0,1⟩:=⟨_,rfl⟩
  have m0:=hm0 i
  have ei1:foldI p T W (i+1) ⟨0,0,0,1⟩=foldJ p T i (W-(i+1)) s0:=by rw[hs0];rfl
  rw[←hs0] at f7 g6 m0
  have ca:=hcol i hi'
  obtain⟨n5,off5,hix,hrn⟩:=hvK.rdw (i:=i) (by omega)
  have wq:=ca.1
  generalize hq:cols.getD i []=q at *
  have w1:∀ (h1:AH) (e:TypeId),(h1.new ⟨[.int .u32 0,.int .u32 0,.int .u32 0,.int .u32 0,.int .u32 0],e,false,true⟩).wr h1.length 0 (cel .u32 q)=some (h1.new ⟨cel .u32 q,e,false,true⟩):=fun h1 e=>wr_all (by rw[cel_len,wq];rfl)
  ((try simp (maxSteps:=3000000) (dsimp:=false) (disch:=first|omega|simp only[lnx];omega) only[↓ypre,ypost,↓reduceIte,reduceEqDiff,reduceAdd,reduceSub,reduceLeDiff,zz0,ynew,f0,f1,f4,f6,f7,f17,f18,f19,decide_eq_true hlt,hix,hrn,cel_all,cellsL_cel,cel_len,wq,↓w1,wrap64_in]);try simp only[yback])
  generalize hH5:AH.new K1 _=H5
  obtain⟨hb5,p5,n5'⟩:=new_facts hH5
  have sw:=slcaW_of hb5 (by rw[cel_len];exact wq)
  ((try simp (maxSteps:=3000000) (dsimp:=false) (disch:=first|omega|simp only[lnx];omega) only[↓ypre,ypost,↓reduceIte,reduceEqDiff,reduceAdd,reduceSub,reduceLeDiff,zz0,ynew,f0,f1,f4,f6,f7,f17,f18,f19,↓yWX_slcaW,sw]);try simp only[yback])
  obtain⟨fN,hfN⟩:∃ fN:Nat→Nat→Bool,fN=fun (c:Nat) (k:Nat)=>decide (1≤tb T k i∧tb T k i≤(c:Int)):=⟨_,rfl⟩
  have z0:Value.int IntKind.u32 0=U32 (bs T.length (fN 0)):=by
   have:bs T.length (fN 0)=bs T.length fun _=>false:=bs_congr fun k _=>by
    rw[hfN]
    exact decide_eq_false (by omega)
   rw[this,bs_none]
   rfl
  rw[z0]
  refine WC_loop_inv (fun m f K2=>∃ (c:Nat),m=4-c∧c≤4∧f 0=I64 p∧f 1=v∧f 4=.pointer (some ⟨h.length,0,none⟩)∧f 6=.pointer (some ⟨H1.length,0,none⟩)∧f 7=I64 s0.m∧f 8=I64 i∧f 9=.pointer (some ⟨K1.length,0,none⟩)∧f 10=U32 (bs T.length (fN c))∧f 17=v∧f 18=I64 W∧f 19=I64 i∧f 24=.slice (some ⟨K1.length,1,none⟩) 4 1∧f 25=I64 4∧f 26=I64 c∧K2=H5) ?_ (4-0) _ _ ⟨0,rfl,by omega,(by first|rfl|exact f0|(simp[upd_apply];done)),(by first|rfl|exact f1|(simp[upd_apply];done)),(by first|rfl|exact f4|(simp[upd_apply];done)),(by first|rfl|exact f6|(simp[upd_apply];done)),(by first|rfl|exact f7|(simp[upd_apply];done)),(by first|rfl|simp[upd_apply]),(by first|rfl|simp[upd_apply]),(by first|rfl|simp[upd_apply]),(by first|rfl|exact f17|(simp[upd_apply];done)),(by first|rfl|exact f18|(simp[upd_apply];done)),(by first|rfl|exact f19|(simp[upd_apply];done)),(by first|rfl|simp[upd_apply]),(by first|rfl|simp[upd_apply]),(by first|rfl|simp[upd_apply]),rfl⟩
  rintro m f K2 ⟨c,rfl,hc,f0,f1,f4,f6,f7,f8,f9,f10,f17,f18,f19,f24,f25,f26,rfl⟩
  by_cases hltc:(c:Int)<4
  ·have hc4:c<4:=by omega
   have ra:=ca.at (x:=c+1) (by omega)
   have ixc:ixsV 1 (.slice (some ⟨K1.length,1,none⟩) 4 1) (I64 c)=some (.pointer (some ⟨K1.length,c+1,none⟩)):=by
    rw[ixsV_some,if_pos (by omega)]
    simp[Nat.add_comm]
   have orr:=bin_or (R:=T.length) (f:=fN c) (g:=fun k=>decide (tb T k i=((c+1:Nat):Int))) (by omega)
   have e1:bs T.length (fun k=>fN c k||decide (tb T k i=((c+1:Nat):Int)))=bs T.length (fN (c+1)):=bs_congr fun k hk=>by
    rw[hfN]
    show (decide (1≤tb T k i∧tb T k i≤(c:Int))||decide (tb T k i=((c+1:Nat):Int)))=decide (1≤tb T k i∧tb T k i≤((c+1:Nat):Int))
    rw[←Bool.decide_or]
    congr 1
    exact propext ⟨by omega,by omega⟩
   rw[e1] at orr
   ((try simp (maxSteps:=3000000) (dsimp:=false) (disch:=first|omega|simp only[lnx];omega) only[↓ypre,ypost,↓reduceIte,reduceEqDiff,reduceAdd,reduceSub,reduceLeDiff,zz0,ynew,f0,f1,f4,f6,f7,f8,f9,f10,f17,f18,f19,f24,f25,f26,decide_eq_true hltc,ixc,rd1_of hb5,ra,orr,wrap64_in]);try simp only[yback])
   refine InvQ_go (4-(c+1)) (by omega) ⟨(c+1),rfl,by omega,(by first|rfl|exact f0|(simp only[upd_apply];rfl)|(show I64 _=_;congr 1;omega)),(by first|rfl|exact f1|(simp only[upd_apply];rfl)|(show I64 _=_;congr 1;omega)),(by first|rfl|exact f4|(simp only[upd_apply];rfl)|(show I64 _=_;congr 1;omega)),(by first|rfl|exact f6|(simp only[upd_apply];rfl)|(show I64 _=_;congr 1;omega)),(by first|rfl|exact f7|(simp only[upd_apply];rfl)|(show I64 _=_;congr 1;omega)),(by first|rfl|exact f8|(simp only[upd_apply];rfl)|(show I64 _=_;congr 1;omega)),(by first|rfl|exact f9|(simp only[upd_apply];rfl)|(show I64 _=_;congr 1;omega)),(by first|rfl|exact f10|(simp only[upd_apply];rfl)|(show I64 _=_;congr 1;omega)),(by first|rfl|exact f17|(simp only[upd_apply];rfl)|(show I64 _=_;congr 1;omega)),(by first|rfl|exact f18|(simp only[upd_apply];rfl)|(show I64 _=_;congr 1;omega)),(by first|rfl|exact f19|(simp only[upd_apply];rfl)|(show I64 _=_;congr 1;omega)),(by first|rfl|exact f24|(simp only[upd_apply];rfl)|(show I64 _=_;congr 1;omega)),(by first|rfl|exact f25|(simp only[upd_apply];rfl)|(show I64 _=_;congr 1;omega)),(by first|rfl|exact f26|(simp only[upd_apply];rfl)|(show I64 _=_;congr 1;omega)),rfl⟩
  have ec:c=4:=by omega
  subst ec
  have e4:bs T.length (fN 4)=bs T.length fun k=>decide (tb T k i≠0):=bs_congr fun k hk=>by
   obtain⟨_,gi⟩:=g k hk
   have:=gi i hi'
   rw[hfN]
   show decide (1≤tb T k i∧tb T k i≤((4:Nat):Int))=decide (tb T k i≠0)
   congr 1
   exact propext ⟨by omega,by omega⟩
  rw[e4] at f10
  ((try simp (maxSteps:=3000000) (dsimp:=false) (disch:=first|omega|simp only[lnx];omega) only[↓ypre,ypost,↓reduceIte,reduceEqDiff,reduceAdd,reduceSub,reduceLeDiff,zz0,ynew,f0,f1,f4,f6,f7,f8,f9,f10,f17,f18,f19,f24,f25,f26,decide_eq_false hltc]);try simp only[yback])
  refine l_OnesCount (bs_32 (by omega)) ?_
  rw[pop_bs (by omega)]
  have pp5:=pp.trans p5
  by_cases hskip:((cntB (fun k=>decide (tb T k i≠0)) T.length:Nat):Int)≤((s0.m:Nat):Int)
  ·rw[foldJ_skip (fun j r=>by have:=cntT_le (p:=p) (T:=T) (i:=i) (j:=j) (r:=r);omega)] at ei1
   ((try simp (maxSteps:=3000000) (dsimp:=false) (disch:=first|omega|simp only[lnx];omega) only[↓ypre,ypost,↓reduceIte,reduceEqDiff,reduceAdd,reduceSub,reduceLeDiff,zz0,ynew,f0,f1,f4,f6,f7,f8,f9,f10,f17,f18,f19,f24,f25,f26,decide_eq_true hskip,wrap64_in]);try simp only[yback])
   obtain⟨e6,g6⟩:=g6
   refine InvQ_go (W-(i+1)) (by omega) ⟨(i+1),rfl,by omega,(by first|rfl|exact f0|(simp only[upd_apply];rfl)|(show I64 _=_;congr 1;omega)),(by first|rfl|exact f1|(simp only[upd_apply];rfl)|(show I64 _=_;congr 1;omega)),(by first|rfl|exact f4|(simp only[upd_apply];rfl)|(show I64 _=_;congr 1;omega)),(by first|rfl|exact f6|(simp only[upd_apply];rfl)|(show I64 _=_;congr 1;omega)),(by rw[ei1];exact f7),(by first|rfl|exact f17|(simp only[upd_apply];rfl)|(show I64 _=_;congr 1;omega)),(by first|rfl|exact f18|(simp only[upd_apply];rfl)|(show I64 _=_;congr 1;omega)),(by first|rfl|exact f19|(simp only[upd_apply];rfl)|(show I64 _=_;congr 1;omega)),pp5,⟨e6,by rw[ei1];exact pre_get p5 g6⟩⟩
  have hmJ:∀ n,(foldJ p T i n s0).m≤30:=fun n=>foldJ_m m0 hT.2
  ((try simp (maxSteps:=3000000) (dsimp:=false) (disch:=first|omega|simp only[lnx];omega) only[↓ypre,ypost,↓reduceIte,reduceEqDiff,reduceAdd,reduceSub,reduceLeDiff,zz0,ynew,f0,f1,f4,f6,f7,f8,f9,f10,f17,f18,f19,decide_eq_false hskip,wrap64_in]);try simp only[yback])
  obtain⟨e6,g6⟩:=g6
  refine WC_loop_inv (fun m f K3=>∃ (b:Nat),m=((W-(i+1)))-b∧b≤((W-(i+1)))∧f 0=I64 p∧f 1=v∧f 4=.pointer (some ⟨h.length,0,none⟩)∧f 6=.pointer (some ⟨H1.length,0,none⟩)∧f 7=I64 (foldJ p T i b s0).m∧f 8=I64 i∧f 9=.pointer (some ⟨K1.length,0,none⟩)∧f 13=I64 ((i:Int)+1+b)∧f 17=v∧f 18=I64 W∧f 19=I64 i∧(H1<+:K3)∧(OwnB K3 H1.length [I64 (foldJ p T i b s0).l,I64 (foldJ p T i b s0).j,I64 (foldJ p T i b s0).r] true)∧(OwnB K3 K1.length (cel .u32 q) true)) ?_ (((W-(i+1)))-0) _ _ ⟨0,rfl,by omega,(by first|rfl|exact f0|(simp[upd_apply];done)),(by first|rfl|exact f1|(simp[upd_apply];done)),(by first|rfl|exact f4|(simp[upd_apply];done)),(by first|rfl|exact f6|(simp[upd_apply];done)),(by first|rfl|exact f7|(simp[upd_apply];done)),(by first|rfl|exact f8|(simp[upd_apply];done)),(by first|rfl|exact f9|(simp[upd_apply];done)),(by first|rfl|simp[upd_apply]),(by first|rfl|exact f17|(simp[upd_apply];done)),(by first|rfl|exact f18|(simp[upd_apply];done)),(by first|rfl|exact f19|(simp[upd_apply];done)),pp5,⟨e6,pre_get p5 g6⟩,⟨_,hb5⟩⟩
  rintro m f K3 ⟨b,rfl,hb,f0,f1,f4,f6,f7,f8,f9,f13,f17,f18,f19,pp,g6,g9⟩
  by_cases hltb:(i:Int)+1+b<W
  ·obtain⟨j,hj⟩:∃ j:Nat,j=i+1+b:=⟨_,rfl⟩
   have ej:(i:Int)+1+(b:Int)=(j:Int):=by omega
   have hj':j<W:=by omega
   rw[ej] at f13
   have hv3:=hv.pre (p1.trans pp)
   have hlen3:=hv3.len
   rw[hcw] at hlen3
   ((try simp (maxSteps:=3000000) (dsimp:=false) (disch:=first|omega|simp only[lnx];omega) only[↓ypre,ypost,↓reduceIte,reduceEqDiff,reduceAdd,reduceSub,reduceLeDiff,zz0,ynew,f0,f1,f4,f6,f7,f8,f9,f13,f17,f18,f19,hlen3,decide_eq_true (show (j:Int)<W by omega),wrap64_in]);try simp only[yback])
   have hmR:∀ n,(foldR p T i j n (foldJ p T i b s0)).m≤30:=fun n=>foldR_m (hmJ b) hT.2
   refine WC_loop_inv (fun m f K4=>∃ (r:Nat),m=((p.toNat-1))-r∧r≤((p.toNat-1))∧f 0=I64 p∧f 1=v∧f 4=.pointer (some ⟨h.length,0,none⟩)∧f 6=.pointer (some ⟨H1.length,0,none⟩)∧f 7=I64 (foldR p T i j r (foldJ p T i b s0)).m∧f 8=I64 i∧f 9=.pointer (some ⟨K1.length,0,none⟩)∧f 13=I64 j∧f 14=I64 ((r:Int)+1)∧f 17=v∧f 18=I64 W∧f 19=I64 i∧(H1<+:K4)∧(OwnB K4 H1.length [I64 (foldR p T i j r (foldJ p T i b s0)).l,I64 (foldR p T i j r (foldJ p T i b s0)).j,I64 (foldR p T i j r (foldJ p T i b s0)).r] true)∧(OwnB K4 K1.length (cel .u32 q) true)) ?_ (((p.toNat-1))-0) _ _ ⟨0,rfl,by omega,(by first|rfl|exact f0|(simp[upd_apply];done)),(by first|rfl|exact f1|(simp[upd_apply];done)),(by first|rfl|exact f4|(simp[upd_apply];done)),(by first|rfl|exact f6|(simp[upd_apply];done)),(by first|rfl|exact f7|(simp[upd_apply];done)),(by first|rfl|exact f8|(simp[upd_apply];done)),(by first|rfl|exact f9|(simp[upd_apply];done)),(by first|rfl|exact f13|(simp[upd_apply];done)),(by first|rfl|simp[upd_apply]),(by first|rfl|exact f17|(simp[upd_apply];done)),(by first|rfl|exact f18|(simp[upd_apply];done)),(by first|rfl|exact f19|(simp[upd_apply];done)),pp,g6,g9⟩
   rintro m f K4 ⟨r,rfl,hr,f0,f1,f4,f6,f7,f8,f9,f13,f14,f17,f18,f19,pp,g6,g9⟩
   by_cases hltr:(r:Int)+1<p
   ·have hv4:=hv.pre (p1.trans pp)
    obtain⟨n7,off7,hix7,hrn7⟩:=hv4.rdw (i:=j) (by omega)
    have cb:=hcol j hj'
    have er:foldR p T i j (r+1) (foldJ p T i b s0)=upB (foldR p T i j r (foldJ p T i b s0)) i j (r+1) (cntT p T i j (r+1)):=rfl
    have eI:(r:Int)+1=((r+1:Nat):Int):=by omega
    rw[eI] at f14
    have mr:=hmR r
    have mr1:cntT p T i j (r+1)≤T.length:=cntB_le
    obtain⟨e6,g6⟩:=g6
    obtain⟨e9,g9⟩:=g9
    have lt6:=get_lt g6
    generalize foldR p T i j r (foldJ p T i b s0)=s1 at *
    have tk:(cel .u32 q).take 5=cel .u32 q:=List.take_of_length_le (by rw[cel_len];omega)
    ((try simp (maxSteps:=3000000) (dsimp:=false) (disch:=first|omega|simp only[lnx];omega) only[↓ypre,ypost,↓reduceIte,reduceEqDiff,reduceAdd,reduceSub,reduceLeDiff,zz0,ynew,f0,f1,f4,f6,f7,f8,f9,f13,f14,f17,f18,f19,decide_eq_true (show ((r+1:Nat):Int)<p by omega),rdn_of g9,cel_len,wq,tk,hix7,hrn7,wrap64_in]);try simp only[yback])
    refine i_rowsWith (qa:=q) (qb:=cols.getD j []) hp g hT.2 hi' hj' ca cb (r:=r+1) (by omega) fun H8 p8=>?_
    ((try simp (maxSteps:=3000000) (dsimp:=false) (disch:=first|omega|simp only[lnx];omega) only[↓ypre,ypost,↓reduceIte,reduceEqDiff,reduceAdd,reduceSub,reduceLeDiff,zz0,ynew,f0,f1,f4,f6,f7,f8,f9,f13,f14,f17,f18,f19]);try simp only[yback])
    refine l_OnesCount (bs_32 (by omega)) ?_
    rw[pop_bs (by omega)]
    have ec:cntB (mkB p T i j (r+1)) T.length=cntT p T i j (r+1):=rfl
    rw[ec]
    generalize cntT p T i j (r+1)=c1 at *
    unfold upB at er
    have g6:=pre_get p8 g6
    have g9:=pre_get p8 g9
    have lt6:=get_lt g6
    have lt9:=get_lt g9
    have k8:=pre_len p8
    by_cases hcc:s1.m<c1
    ·rw[if_pos hcc] at er
     ((try simp (maxSteps:=3000000) (dsimp:=false) (disch:=first|omega|simp only[lnx];omega) only[↓ypre,ypost,↓reduceIte,reduceEqDiff,reduceAdd,reduceSub,reduceLeDiff,zz0,ynew,f0,f1,f4,f6,f7,f8,f9,f13,f14,f17,f18,f19,decide_eq_true (show ((s1.m:Nat):Int)<((c1:Nat):Int) by omega),wr_of g6,wrap64_in]);try simp only[yback])
     refine InvQ_go (((p.toNat-1))-(r+1)) (by omega) ⟨(r+1),rfl,by omega,(by first|rfl|exact f0|(simp only[upd_apply];rfl)|(show I64 _=_;congr 1;omega)),(by first|rfl|exact f1|(simp only[upd_apply];rfl)|(show I64 _=_;congr 1;omega)),(by first|rfl|exact f4|(simp only[upd_apply];rfl)|(show I64 _=_;congr 1;omega)),(by first|rfl|exact f6|(simp only[upd_apply];rfl)|(show I64 _=_;congr 1;omega)),(by rw[er];rfl),(by first|rfl|exact f8|(simp only[upd_apply];rfl)|(show I64 _=_;congr 1;omega)),(by first|rfl|exact f9|(simp only[upd_apply];rfl)|(show I64 _=_;congr 1;omega)),(by first|rfl|exact f13|(simp only[upd_apply];rfl)|(show I64 _=_;congr 1;omega)),(by show I64 _=I64 _;congr 1),(by first|rfl|exact f17|(simp only[upd_apply];rfl)|(show I64 _=_;congr 1;omega)),(by first|rfl|exact f18|(simp only[upd_apply];rfl)|(show I64 _=_;congr 1;omega)),(by first|rfl|exact f19|(simp only[upd_apply];rfl)|(show I64 _=_;congr 1;omega)),(pre_put (pp.trans p8) (Nat.le_refl _)),⟨e6,by rw[er];exact get_put_same lt6⟩,⟨e9,by rw[get_put_ne (by have:=get_lt (show K1.get H1.length=_ from by assumption);omega)];exact g9⟩⟩
    ·rw[if_neg hcc] at er
     ((try simp (maxSteps:=3000000) (dsimp:=false) (disch:=first|omega|simp only[lnx];omega) only[↓ypre,ypost,↓reduceIte,reduceEqDiff,reduceAdd,reduceSub,reduceLeDiff,zz0,ynew,f0,f1,f4,f6,f7,f8,f9,f13,f14,f17,f18,f19,decide_eq_false (show ¬ ((s1.m:Nat):Int)<((c1:Nat):Int) by omega),wrap64_in]);try simp only[yback])
     refine InvQ_go (((p.toNat-1))-(r+1)) (by omega) ⟨(r+1),rfl,by omega,(by first|rfl|exact f0|(simp only[upd_apply];rfl)|(show I64 _=_;congr 1;omega)),(by first|rfl|exact f1|(simp only[upd_apply];rfl)|(show I64 _=_;congr 1;omega)),(by first|rfl|exact f4|(simp only[upd_apply];rfl)|(show I64 _=_;congr 1;omega)),(by first|rfl|exact f6|(simp only[upd_apply];rfl)|(show I64 _=_;congr 1;omega)),(by rw[er];exact f7),(by first|rfl|exact f8|(simp only[upd_apply];rfl)|(show I64 _=_;congr 1;omega)),(by first|rfl|exact f9|(simp only[upd_apply];rfl)|(show I64 _=_;congr 1;omega)),(by first|rfl|exact f13|(simp only[upd_apply];rfl)|(show I64 _=_;congr 1;omega)),(by show I64 _=I64 _;congr 1),(by first|rfl|exact f17|(simp only[upd_apply];rfl)|(show I64 _=_;congr 1;omega)),(by first|rfl|exact f18|(simp only[upd_apply];rfl)|(show I64 _=_;congr 1;omega)),(by first|rfl|exact f19|(simp only[upd_apply];rfl)|(show I64 _=_;congr 1;omega)),(pp.trans p8),⟨e6,by rw[er];exact g6⟩,⟨e9,g9⟩⟩
   have er:r=p.toNat-1:=by omega
   subst er
   ((try simp (maxSteps:=3000000) (dsimp:=false) (disch:=first|omega|simp only[lnx];omega) only[↓ypre,ypost,↓reduceIte,reduceEqDiff,reduceAdd,reduceSub,reduceLeDiff,zz0,ynew,f0,f1,f4,f6,f7,f8,f9,f13,f14,f17,f18,f19,decide_eq_false hltr,wrap64_in]);try simp only[yback])
   have ef:foldJ p T i (b+1) s0=foldR p T i j (p.toNat-1) (foldJ p T i b s0):=by rw[hj];rfl
   refine InvQ_go (((W-(i+1)))-(b+1)) (by omega) ⟨(b+1),rfl,by omega,(by first|rfl|exact f0|(simp only[upd_apply];rfl)|(show I64 _=_;congr 1;omega)),(by first|rfl|exact f1|(simp only[upd_apply];rfl)|(show I64 _=_;congr 1;omega)),(by first|rfl|exact f4|(simp only[upd_apply];rfl)|(show I64 _=_;congr 1;omega)),(by first|rfl|exact f6|(simp only[upd_apply];rfl)|(show I64 _=_;congr 1;omega)),(by rw[ef];exact f7),(by first|rfl|exact f8|(simp only[upd_apply];rfl)|(show I64 _=_;congr 1;omega)),(by first|rfl|exact f9|(simp only[upd_apply];rfl)|(show I64 _=_;congr 1;omega)),(by show I64 _=I64 _;congr 1;omega),(by first|rfl|exact f17|(simp only[upd_apply];rfl)|(show I64 _=_;congr 1;omega)),(by first|rfl|exact f18|(simp only[upd_apply];rfl)|(show I64 _=_;congr 1;omega)),(by first|rfl|exact f19|(simp only[upd_apply];rfl)|(show I64 _=_;congr 1;omega)),pp,(by rw[ef];exact g6),g9⟩
  have eb:b=W-(i+1):=by omega
  subst eb
  have hlen3:=(hv.pre (p1.trans pp)).len
  rw[hcw] at hlen3
  ((try simp (maxSteps:=3000000) (dsimp:=false) (disch:=first|omega|simp only[lnx];omega) only[↓ypre,ypost,↓reduceIte,reduceEqDiff,reduceAdd,reduceSub,reduceLeDiff,zz0,ynew,f0,f1,f4,f6,f7,f8,f9,f13,f17,f18,f19,hlen3,decide_eq_false hltb,wrap64_in]);try simp only[yback])
  refine InvQ_go (W-(i+1)) (by omega) ⟨(i+1),rfl,by omega,(by first|rfl|exact f0|(simp only[upd_apply];rfl)|(show I64 _=_;congr 1;omega)),(by first|rfl|exact f1|(simp only[upd_apply];rfl)|(show I64 _=_;congr 1;omega)),(by first|rfl|exact f4|(simp only[upd_apply];rfl)|(show I64 _=_;congr 1;omega)),(by first|rfl|exact f6|(simp only[upd_apply];rfl)|(show I64 _=_;congr 1;omega)),(by rw[ei1];exact f7),(by first|rfl|exact f17|(simp only[upd_apply];rfl)|(show I64 _=_;congr 1;omega)),(by first|rfl|exact f18|(simp only[upd_apply];rfl)|(show I64 _=_;congr 1;omega)),(by first|rfl|exact f19|(simp only[upd_apply];rfl)|(show I64 _=_;congr 1;omega)),pp,(by rw[ei1];exact g6)⟩
 have ei:i=W:=by omega
 subst ei
 obtain⟨e6,g6⟩:=g6
 have hb1:=pre_get pp hb1
 have lt1:=get_lt hb1
 ((try simp (maxSteps:=3000000) (dsimp:=false) (disch:=first|omega|simp only[lnx];omega) only[↓ypre,ypost,↓reduceIte,reduceEqDiff,reduceAdd,reduceSub,reduceLeDiff,zz0,ynew,f0,f1,f4,f6,f7,f17,f18,f19,decide_eq_false hlt,rdn_of g6,wr_of hb1]);try simp only[yback])
 have:=hQ _ (pre_put (b:=⟨[I64 (bst p T).l,I64 (bst p T).j,I64 (bst p T).r],248,false,true⟩) (p1.trans pp) (Nat.le_refl _))
 unfold bst at this
 rw[hw0] at this
 exact this
end Go.Proofs.Ytapafdpnmakekaa.X
