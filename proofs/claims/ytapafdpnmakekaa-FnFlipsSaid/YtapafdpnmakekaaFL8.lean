/- Texts of one claim, put together by merge.py: XS5, XT1, XP8, XP4, XP6, XP12, XP13, XT2, XT3, XT4, XT5, XT6, XT7, XT8, XT9, XU1, XD3, XS6, XS7, XS16, XS17, XS19, XD4, XD5, XD6, XD7, XD8. -/
import Derived.Test.YtapafdpnmakekaaFL7
set_option linter.unusedVariables false
set_option linter.unusedSimpArgs false
set_option maxRecDepth 20000
set_option maxHeartbeats 4000000
namespace Go.Proofs.Ytapafdpnmakekaa.X
open Go Go.RowKit
open Nat (reduceEqDiff reduceAdd reduceSub reduceLeDiff)
def sz (n:Int):Bool:=decide (1≤n∧n≤3)
theorem s_l01Sizes {p n m k:Int} {h:AH} {Q:Value→AH→Prop} (hQ:Q (.bool (isP p&&sz n&&sz m&&sz k)) h):WF S 275 [I64 p,I64 n,I64 m,I64 k] h Q:=by
 refine WF_fn (fn:=c275) rfl rfl ?_
 dsimp only[c275,oO,oM,oS,oG,oK,oE,oL,oF,oX,oN]
 try simp (maxSteps:=3000000) (disch:=first|omega|simp only[lnx];omega) only[↓xpre,xpost,↓reduceIte,reduceEqDiff,reduceAdd,reduceSub,reduceLeDiff,zz0]
 refine s_l01Prime ?_
 cases c0:isP p with
 | false=>
  rw[c0] at hQ
  try simp (maxSteps:=3000000) (disch:=first|omega|simp only[lnx];omega) only[↓xpre,xpost,↓reduceIte,reduceEqDiff,reduceAdd,reduceSub,reduceLeDiff,zz0,WG_un]
  exact hQ
 | true=>
  rw[c0] at hQ
  try simp (maxSteps:=3000000) (disch:=first|omega|simp only[lnx];omega) only[↓xpre,xpost,↓reduceIte,reduceEqDiff,reduceAdd,reduceSub,reduceLeDiff,zz0]
  refine s_l01In ?_
  have e1:decide (1≤n∧n≤3)=sz n:=rfl
  have e2:decide (1≤m∧m≤3)=sz m:=rfl
  have e3:decide (1≤k∧k≤3)=sz k:=rfl
  rw[e1]
  cases c1:sz n with
  | false=>
   rw[c1] at hQ
   try simp (maxSteps:=3000000) (disch:=first|omega|simp only[lnx];omega) only[↓xpre,xpost,↓reduceIte,reduceEqDiff,reduceAdd,reduceSub,reduceLeDiff,zz0,WG_un]
   exact hQ
  | true=>
   rw[c1] at hQ
   try simp (maxSteps:=3000000) (disch:=first|omega|simp only[lnx];omega) only[↓xpre,xpost,↓reduceIte,reduceEqDiff,reduceAdd,reduceSub,reduceLeDiff,zz0]
   refine s_l01In ?_
   rw[e2]
   cases c2:sz m with
   | false=>
    rw[c2] at hQ
    try simp (maxSteps:=3000000) (disch:=first|omega|simp only[lnx];omega) only[↓xpre,xpost,↓reduceIte,reduceEqDiff,reduceAdd,reduceSub,reduceLeDiff,zz0,WG_un]
    exact hQ
   | true=>
    rw[c2] at hQ
    try simp (maxSteps:=3000000) (disch:=first|omega|simp only[lnx];omega) only[↓xpre,xpost,↓reduceIte,reduceEqDiff,reduceAdd,reduceSub,reduceLeDiff,zz0]
    refine s_l01In ?_
    rw[e3]
    try simp (maxSteps:=3000000) (disch:=first|omega|simp only[lnx];omega) only[↓xpre,xpost,↓reduceIte,reduceEqDiff,reduceAdd,reduceSub,reduceLeDiff,zz0]
    exact hQ
theorem i_isSize {v:Value} {ns:List Int} {h:AH} {Q:Value→AH→Prop} (hv:Ints h v ns) (hl:(ns.length:Int)≤1048576) (hQ:Q (.bool (ns.all sz)) h):WF S 167 [v] h Q:=by
 refine WF_fn (fn:=c167) rfl rfl ?_
 dsimp only[c167,oO,oM,oS,oG,oK,oE,oL,oF,oX,oN]
 try simp (maxSteps:=3000000) (disch:=first|omega|simp only[lnx];omega) only[↓xpre,xpost,↓reduceIte,reduceEqDiff,reduceAdd,reduceSub,reduceLeDiff,zz0,hv.len]
 refine WC_loop_inv (fun m f K1=>∃ (i:Nat),m=ns.length-i∧i≤ns.length∧f 5=v∧f 6=I64 ns.length∧f 7=I64 i∧(K1=h)∧(∀ j,j<i→sz (ns.getD j 0)=true)) ?_ (ns.length-0) _ _ ⟨0,rfl,by omega,(by first|rfl|simp[upd_apply]),(by first|rfl|simp[upd_apply]),(by first|rfl|simp[upd_apply]),rfl,(by omega)⟩
 rintro m f K1 ⟨i,rfl,hi,f5,f6,f7,hK,hj⟩
 subst hK
 try simp (maxSteps:=3000000) (disch:=first|omega|simp only[lnx];omega) only[↓xpre,xpost,↓reduceIte,reduceEqDiff,reduceAdd,reduceSub,reduceLeDiff,zz0,f5,f6,f7,IfW_dec]
 refine⟨fun hlt=>?_,fun hge=>?_⟩
 ·have hi':i<ns.length:=by omega
  have hix:=hv.ix (k:=.i64) (j:=i) (by omega) (by omega)
  have hrd:=hv.rd (j:=i) (by omega) (by omega)
  simp only[nth,Int.toNat_natCast] at hrd
  have no:sz (ns.getD i 0)=false→Q (.bool false) K1:=fun e=>by
   have:ns.all sz=false:=by
    rw[List.all_eq_false]
    refine⟨ns.getD i 0,?_,by rw[e];simp⟩
    rw[List.getD_eq_getElem?_getD,List.getElem?_eq_getElem hi']
    exact List.getElem_mem hi'
   rw[this] at hQ
   exact hQ
  by_cases c1:ns.getD i 0<1
  ·try simp (maxSteps:=3000000) (disch:=first|omega|simp only[lnx];omega) only[↓xpre,xpost,↓reduceIte,reduceEqDiff,reduceAdd,reduceSub,reduceLeDiff,zz0,f5,f6,f7,hix,hrd,decide_eq_true c1,WG_un]
   exact no (by unfold sz;exact decide_eq_false (by omega))
  by_cases c2:3<ns.getD i 0
  ·try simp (maxSteps:=3000000) (disch:=first|omega|simp only[lnx];omega) only[↓xpre,xpost,↓reduceIte,reduceEqDiff,reduceAdd,reduceSub,reduceLeDiff,zz0,f5,f6,f7,hix,hrd,decide_eq_false c1,decide_eq_true c2]
   exact no (by unfold sz;exact decide_eq_false (by omega))
  try simp (maxSteps:=3000000) (disch:=first|omega|simp only[lnx];omega) only[↓xpre,xpost,↓reduceIte,reduceEqDiff,reduceAdd,reduceSub,reduceLeDiff,zz0,f5,f6,f7,hix,hrd,decide_eq_false c1,decide_eq_false c2,wrap64_in]
  refine InvQ_go (ns.length-(i+1)) (by omega) ⟨(i+1),rfl,by omega,(by first|rfl|exact f5|(simp only[upd_apply];rfl)|(show I64 _=_;congr 1;omega)),(by first|rfl|exact f6|(simp only[upd_apply];rfl)|(show I64 _=_;congr 1;omega)),(by first|rfl|exact f7|(simp only[upd_apply];rfl)|(show I64 _=_;congr 1;omega)),rfl,(step_all hj (by unfold sz;exact decide_eq_true (by omega)))⟩
 ·try simp (maxSteps:=3000000) (disch:=first|omega|simp only[lnx];omega) only[↓xpre,xpost,↓reduceIte,reduceEqDiff,reduceAdd,reduceSub,reduceLeDiff,zz0,f5,f6,f7]
  have:ns.all sz=true:=by
   rw[List.all_eq_true]
   intro x hx
   obtain⟨j,hj',rfl⟩:=List.mem_iff_getElem.1 hx
   have:=hj j (by omega)
   rw[List.getD_eq_getElem?_getD,List.getElem?_eq_getElem hj'] at this
   exact this
  rw[this] at hQ
  exact hQ
def szX (x:Sch):Bool:=isP x.p&&sz x.n&&sz x.m&&sz x.k
structure SZ (x:Sch):Prop where
 p:2≤x.p∧x.p≤5
 n:1≤x.n∧x.n≤3
 m:1≤x.m∧x.m≤3
 k:1≤x.k∧x.k≤3
 nm:1≤x.n*x.m∧x.n*x.m≤9
 mk2:1≤x.m*x.k∧x.m*x.k≤9
 nk:1≤x.n*x.k∧x.n*x.k≤9
theorem szX_facts {x:Sch} (h:szX x=true):SZ x:=by
 simp only[szX,sz,Bool.and_eq_true,decide_eq_true_eq] at h
 obtain⟨⟨⟨h1,h2⟩,h3⟩,h4⟩:=h
 exact⟨isP_in h1,h2,h3,h4,mul_in1 (A:=3) (B:=3) h2 h3,mul_in1 (A:=3) (B:=3) h3 h4,mul_in1 (A:=3) (B:=3) h2 h4⟩
theorem xres_tmp3 {f:Fr} {h:AH} {t u w:Nat}:xres f h [.tmp t,.tmp u,.tmp w]=some (.tuple #[f t,f u,f w]):=rfl
theorem s_l01Lengths {x:Sch} {v:Value} {h:AH} {Q:Value→AH→Prop} (hv:isOne v=true) (z:SZ x) (hQ:∀ h',h<+:h'→Q (.tuple #[I64 (x.n*x.m),I64 (x.m*x.k),I64 (x.n*x.k)]) h'):WF S 300 [schV x v] h Q:=by
 refine WF_fn (fn:=c300) rfl rfl ?_
 dsimp only[c300,oO,oM,oS,oG,oK,oE,oL,oF,oX,oN]
 have:=z.nm
 have:=z.mk2
 have:=z.nk
 try simp (maxSteps:=3000000) (disch:=first|omega|simp only[lnx];omega) only[↓xpre,xpost,↓reduceIte,reduceEqDiff,reduceAdd,reduceSub,reduceLeDiff,zz0,schV,hv,wrap64_in,xres_tmp3]
 exact hQ _ (pre_new (List.prefix_refl _))
theorem i_placesOf {x:Sch} {v:Value} {h:AH} {Q:Value→AH→Prop} (hv:isOne v=true) (z:SZ x) (hQ:∀ h',h<+:h'→Q (.agg #[I64 (x.n*x.m),I64 (x.m*x.k),I64 (x.n*x.k)]) h'):WF S 271 [schV x v] h Q:=by
 refine WF_fn (fn:=c271) rfl rfl ?_
 dsimp only[c271,oO,oM,oS,oG,oK,oE,oL,oF,oX,oN]
 have:=z.nm
 have:=z.mk2
 have:=z.nk
 try simp (maxSteps:=3000000) (disch:=first|omega|simp only[lnx];omega) only[↓xpre,xpost,↓reduceIte,reduceEqDiff,reduceAdd,reduceSub,reduceLeDiff,zz0,schV,hv,wrap64_in,fillL]
 exact hQ _ (pre_new (pre_new (List.prefix_refl _)))
def pl (x:Sch) (i:Nat):Int:=if i=0 then x.n*x.m else if i=1 then x.m*x.k else x.n*x.k
def okProd (x:Sch) (q:List Int):Bool:=okForm x.p (pl x 0) (seg q 0)&&okForm x.p (pl x 1) (seg q 1)&&okForm x.p (pl x 2) (seg q 2)&&!hasZ q
theorem s_l01Product {x:Sch} {v:Value} {q:List Int} {h:AH} {Q:Value→AH→Prop} (hv:isOne v=true) (z:SZ x) (hq:By 27 q) (hQ:∀ h',h<+:h'→Q (.bool (okProd x q)) h') :
  WF S 276 [schV x v,aggV .u8 q] h Q:=by
 refine WF_fn (fn:=c276) rfl rfl ?_
 dsimp only[c276,oO,oM,oS,oG,oK,oE,oL,oF,oX,oN]
 have s0:q.take 9=seg q 0:=by unfold seg;simp
 have s1:(q.drop 9).take 9=seg q 1:=rfl
 have s2:(q.drop 18).take 9=seg q 2:=rfl
 try simp (maxSteps:=3000000) (disch:=first|omega|simp only[lnx];omega) only[↓xpre,xpost,↓reduceIte,reduceEqDiff,reduceAdd,reduceSub,reduceLeDiff,zz0,schV,hv,aggV,cel_all]
 generalize hH1:AH.new h _=H1
 obtain⟨hb1,p1,n1⟩:=new_facts hH1
 generalize hH2:AH.new H1 _=H2
 obtain⟨hb2,p2,n2⟩:=new_facts hH2
 have hb1:=pre_get p2 hb1
 try simp (maxSteps:=3000000) (disch:=first|omega|simp only[lnx];omega) only[↓xpre,xpost,↓reduceIte,reduceEqDiff,reduceAdd,reduceSub,reduceLeDiff,zz0,rdn_of hb1]
 refine s_l01Lengths hv z fun H3 p3=>?_
 have hb1:=pre_get p3 hb1
 have hb2:=pre_get p3 hb2
 try simp (maxSteps:=3000000) (disch:=first|omega|simp only[lnx];omega) only[↓xpre,xpost,↓reduceIte,reduceEqDiff,reduceAdd,reduceSub,reduceLeDiff,zz0,rd1_of hb1,rdn_of hb2,cel_len,hq.1,cel_take,cel_drop,List.drop_zero,s0,s1,s2]
 refine s_l01Form (hq.seg (by omega)) fun H4 p4=>?_
 have hb1:=pre_get p4 hb1
 have hb2:=pre_get p4 hb2
 unfold okProd hasZ at hQ
 have e0:pl x 0=x.n*x.m:=rfl
 have e1:pl x 1=x.m*x.k:=rfl
 have e2:pl x 2=x.n*x.k:=rfl
 rw[e0,e1,e2] at hQ
 have ph:=(p1.trans p2).trans (p3.trans p4)
 cases c0:okForm x.p (x.n*x.m) (seg q 0) with
 | false=>
  try simp (maxSteps:=3000000) (disch:=first|omega|simp only[lnx];omega) only[↓xpre,xpost,↓reduceIte,reduceEqDiff,reduceAdd,reduceSub,reduceLeDiff,zz0,WG_un]
  have:=hQ _ ph
  rw[c0] at this
  exact this
 | true=>
  rw[c0] at hQ
  try simp (maxSteps:=3000000) (disch:=first|omega|simp only[lnx];omega) only[↓xpre,xpost,↓reduceIte,reduceEqDiff,reduceAdd,reduceSub,reduceLeDiff,zz0,rd1_of hb1,rdn_of hb2,cel_len,hq.1,cel_take,cel_drop,s0,s1,s2]
  refine s_l01Form (hq.seg (by omega)) fun H5 p5=>?_
  have hb1:=pre_get p5 hb1
  have hb2:=pre_get p5 hb2
  have ph:=ph.trans p5
  cases c1:okForm x.p (x.m*x.k) (seg q 1) with
  | false=>
   try simp (maxSteps:=3000000) (disch:=first|omega|simp only[lnx];omega) only[↓xpre,xpost,↓reduceIte,reduceEqDiff,reduceAdd,reduceSub,reduceLeDiff,zz0,WG_un]
   have:=hQ _ ph
   rw[c1] at this
   exact this
  | true=>
   rw[c1] at hQ
   try simp (maxSteps:=3000000) (disch:=first|omega|simp only[lnx];omega) only[↓xpre,xpost,↓reduceIte,reduceEqDiff,reduceAdd,reduceSub,reduceLeDiff,zz0,rd1_of hb1,rdn_of hb2,cel_len,hq.1,cel_take,cel_drop,s0,s1,s2]
   refine s_l01Form (hq.seg (by omega)) fun H6 p6=>?_
   have hb1:=pre_get p6 hb1
   have hb2:=pre_get p6 hb2
   have ph:=ph.trans p6
   cases c2:okForm x.p (x.n*x.k) (seg q 2) with
   | false=>
    try simp (maxSteps:=3000000) (disch:=first|omega|simp only[lnx];omega) only[↓xpre,xpost,↓reduceIte,reduceEqDiff,reduceAdd,reduceSub,reduceLeDiff,zz0,WG_un]
    have:=hQ _ ph
    rw[c2] at this
    exact this
   | true=>
    rw[c2] at hQ
    try simp (maxSteps:=3000000) (disch:=first|omega|simp only[lnx];omega) only[↓xpre,xpost,↓reduceIte,reduceEqDiff,reduceAdd,reduceSub,reduceLeDiff,zz0,rdn_of hb2,cel_len,hq.1,cel_take,cel_drop,List.drop_zero,s0,s1,s2]
    refine s_l01Zero (hq.seg (by omega)).1 fun H7 p7=>?_
    have hb2:=pre_get p7 hb2
    have ph:=ph.trans p7
    cases d0:isZ (seg q 0) with
    | true=>
     try simp (maxSteps:=3000000) (disch:=first|omega|simp only[lnx];omega) only[↓xpre,xpost,↓reduceIte,reduceEqDiff,reduceAdd,reduceSub,reduceLeDiff,zz0,WG_un]
     have:=hQ _ ph
     rw[d0] at this
     exact this
    | false=>
     rw[d0] at hQ
     try simp (maxSteps:=3000000) (disch:=first|omega|simp only[lnx];omega) only[↓xpre,xpost,↓reduceIte,reduceEqDiff,reduceAdd,reduceSub,reduceLeDiff,zz0,rdn_of hb2,cel_len,hq.1,cel_take,cel_drop,s0,s1,s2]
     refine s_l01Zero (hq.seg (by omega)).1 fun H8 p8=>?_
     have hb2:=pre_get p8 hb2
     have ph:=ph.trans p8
     cases d1:isZ (seg q 1) with
     | true=>
      try simp (maxSteps:=3000000) (disch:=first|omega|simp only[lnx];omega) only[↓xpre,xpost,↓reduceIte,reduceEqDiff,reduceAdd,reduceSub,reduceLeDiff,zz0,WG_un]
      have:=hQ _ ph
      rw[d1] at this
      exact this
     | false=>
      rw[d1] at hQ
      try simp (maxSteps:=3000000) (disch:=first|omega|simp only[lnx];omega) only[↓xpre,xpost,↓reduceIte,reduceEqDiff,reduceAdd,reduceSub,reduceLeDiff,zz0,rdn_of hb2,cel_len,hq.1,cel_take,cel_drop,s0,s1,s2]
      refine s_l01Zero (hq.seg (by omega)).1 fun H9 p9=>?_
      have ph:=ph.trans p9
      try simp (maxSteps:=3000000) (disch:=first|omega|simp only[lnx];omega) only[↓xpre,xpost,↓reduceIte,reduceEqDiff,reduceAdd,reduceSub,reduceLeDiff,zz0]
      exact hQ _ ph
theorem i_factors {q:List Int} {h:AH} {Q:Value→AH→Prop} (hq:q.length=27) (hQ:∀ h',h<+:h'→Q (aggV .u8 q) h'):WF S 196 [aggV .u8 q] h Q:=by
 refine WF_fn (fn:=c196) rfl rfl ?_
 dsimp only[c196,oO,oM,oS,oG,oK,oE,oL,oF,oX,oN]
 have z27:(List.replicate 27 (0:Int)).length=27:=by simp
 have a1:(q.take 9).length=9:=by simp;omega
 have a2:((q.drop 9).take 9).length=9:=by simp;omega
 have a3:((q.drop 18).take 9).length=9:=by simp;omega
 have fl:fillL ([.int .u8 0,.int .u8 0,.int .u8 0,.int .u8 0,.int .u8 0,.int .u8 0,.int .u8 0,.int .u8 0,.int .u8 0,.int .u8 0,.int .u8 0,.int .u8 0,.int .u8 0,.int .u8 0,.int .u8 0,.int .u8 0,.int .u8 0,.int .u8 0,.int .u8 0,.int .u8 0,.int .u8 0,.int .u8 0,.int .u8 0,.int .u8 0,.int .u8 0,.int .u8 0,.int .u8 0]) [(0,9,.agg (cel .u8 (q.take 9)).toArray),(9,9,.agg (cel .u8 ((q.drop 9).take 9)).toArray),(18,9,.agg (cel .u8 ((q.drop 18).take 9)).toArray)]=some (cel .u8 q):=by
  have f0:List.replicate 27 0=fillN q 0:=by rw[fillN_zero,hq]
  have f3:fillN q 27=q:=by have:=fillN_all (ns:=q);rw[hq] at this;exact this
  have s1:=cel_fill (k:=.u8) (q:=q) (i:=0) (n:=9) (by omega)
  have s2:=cel_fill (k:=.u8) (q:=q) (i:=9) (n:=9) (by omega)
  have s3:=cel_fill (k:=.u8) (q:=q) (i:=18) (n:=9) (by omega)
  rw[List.drop_zero,←f0] at s1
  rw[f3] at s3
  have fl:∀ i,i≤27→(fillN q i).length=27:=fun i hi=>by rw[fillN_len (by omega),hq]
  rw[zeros27]
  simp only[fillL,cellsL_cel,cel_len,a1,a2,a3,z27,fl 9 (by omega),fl 18 (by omega),s1,s2,s3,cel_all,and_self,if_true,Nat.reduceAdd,Nat.reduceLeDiff,Nat.zero_add]
 have tk:q.take 27=q:=List.take_of_length_le (by omega)
 have w1:∀ (h1:AH) (e:TypeId),(h1.new ⟨[.int .u8 0,.int .u8 0,.int .u8 0,.int .u8 0,.int .u8 0,.int .u8 0,.int .u8 0,.int .u8 0,.int .u8 0,.int .u8 0,.int .u8 0,.int .u8 0,.int .u8 0,.int .u8 0,.int .u8 0,.int .u8 0,.int .u8 0,.int .u8 0,.int .u8 0,.int .u8 0,.int .u8 0,.int .u8 0,.int .u8 0,.int .u8 0,.int .u8 0,.int .u8 0,.int .u8 0],e,false,true⟩).wr h1.length 0 (cel .u8 q)=some (h1.new ⟨cel .u8 q,e,false,true⟩):=fun h1 e=>wr_all (by rw[cel_len,hq];rfl)
 try simp (maxSteps:=3000000) (disch:=first|omega|simp only[lnx];omega) only[↓xpre,xpost,↓reduceIte,reduceEqDiff,reduceAdd,reduceSub,reduceLeDiff,zz0,aggV,cel_all,cel_len,hq,cel_take,cel_drop,List.drop_zero,fl,↓w1,tk]
 exact hQ _ (pre_new (pre_new (List.prefix_refl _)))
theorem pl_get {x:Sch} {i:Nat} (hi:i<3):([I64 (x.n*x.m),I64 (x.m*x.k),I64 (x.n*x.k)]:List Value)[i]?=some (I64 (pl x i)):=by
 have:i=0∨i=1∨i=2:=by omega
 rcases this with rfl|rfl|rfl<;>rfl
theorem i_isProduct {x:Sch} {q:List Int} {h:AH} {Q:Value→AH→Prop} (z:SZ x) (hq:By 27 q) (hQ:∀ h',h<+:h'→Q (.bool (okProd x q)) h') :
  WF S 270 [I64 x.p,.agg #[I64 (x.n*x.m),I64 (x.m*x.k),I64 (x.n*x.k)],aggV .u8 q] h Q:=by
 refine WF_fn (fn:=c270) rfl rfl ?_
 dsimp only[c270,oO,oM,oS,oG,oK,oE,oL,oF,oX,oN]
 try simp (maxSteps:=3000000) (disch:=first|omega|simp only[lnx];omega) only[↓xpre,xpost,↓reduceIte,reduceEqDiff,reduceAdd,reduceSub,reduceLeDiff,zz0,aggV,cel_all]
 generalize hH1:AH.new h _=H1
 obtain⟨hb1,p1,n1⟩:=new_facts hH1
 generalize hH2:AH.new H1 _=H2
 obtain⟨hb2,p2,n2⟩:=new_facts hH2
 have hb1:=pre_get p2 hb1
 have tk:q.take 27=q:=List.take_of_length_le (by rw[hq.1];exact Nat.le_refl _)
 try simp (maxSteps:=3000000) (disch:=first|omega|simp only[lnx];omega) only[↓xpre,xpost,↓reduceIte,reduceEqDiff,reduceAdd,reduceSub,reduceLeDiff,zz0,rdn_of hb2,cel_len,hq.1,cel_take,tk]
 refine i_factors hq.1 fun H3 p3=>?_
 try simp (maxSteps:=3000000) (disch:=first|omega|simp only[lnx];omega) only[↓xpre,xpost,↓reduceIte,reduceEqDiff,reduceAdd,reduceSub,reduceLeDiff,zz0]
 refine WC_loop_inv (fun m f K1=>∃ (i:Nat),m=3-i∧i≤3∧f 0=I64 x.p∧f 4=.pointer (some ⟨h.length,0,none⟩)∧f 5=.pointer (some ⟨H1.length,0,none⟩)∧f 10=aggV .u8 q∧f 11=I64 i∧(H3<+:K1)∧(∀ j,j<i→okForm x.p (pl x j) (seg q j)=true)) ?_ (3-0) _ _ ⟨0,rfl,by omega,(by first|rfl|simp[upd_apply]),(by first|rfl|simp[upd_apply]),(by first|rfl|simp[upd_apply]),(by first|rfl|simp[upd_apply]),(by first|rfl|simp[upd_apply]),List.prefix_refl _,(by omega)⟩
 rintro m f K1 ⟨i,rfl,hi,f0,f4,f5,f10,f11,pp,hj⟩
 have hb1:=pre_get (p3.trans pp) hb1
 have hb2:=pre_get (p3.trans pp) hb2
 by_cases hlt:(i:Int)<3
 ·have hi':i<3:=by omega
  have e1:idxnV 3 9 (aggV .u8 q) (I64 i)=some (.agg (cel .u8 (seg q i)).toArray):=by
   simp only[idxnV,aggV,toL,Int.toNat_natCast,cel_len,hq.1]
   rw[if_pos ⟨by omega,by omega,by omega⟩]
   simp only[cel_drop,cel_take]
   rfl
  have sl:=(hq.seg hi').1
  have w1:∀ (h1:AH) (e:TypeId),(h1.new ⟨[.int .u8 0,.int .u8 0,.int .u8 0,.int .u8 0,.int .u8 0,.int .u8 0,.int .u8 0,.int .u8 0,.int .u8 0],e,false,true⟩).wr h1.length 0 (cel .u8 (seg q i))=some (h1.new ⟨cel .u8 (seg q i),e,false,true⟩):=fun h1 e=>wr_all (by rw[cel_len,sl];rfl)
  have ts:(seg q i).take 9=seg q i:=List.take_of_length_le (by omega)
  have lt1:=get_lt hb1
  try simp (maxSteps:=3000000) (disch:=first|omega|simp only[lnx];omega) only[↓xpre,xpost,↓reduceIte,reduceEqDiff,reduceAdd,reduceSub,reduceLeDiff,zz0,f0,f4,f5,f10,f11,decide_eq_true hlt,↓WX_idxn,e1,cel_all,cel_len,sl,↓w1,↓WX_ixa,ixaV_ptr,Int.toNat_natCast,Nat.mul_one,rd1_of hb1,pl_get hi',cel_take,ts]
  refine i_isForm (hq.seg hi') fun H4 p4=>?_
  cases c0:okForm x.p (pl x i) (seg q i) with
  | false=>
   try simp (maxSteps:=3000000) (disch:=first|omega|simp only[lnx];omega) only[↓xpre,xpost,↓reduceIte,reduceEqDiff,reduceAdd,reduceSub,reduceLeDiff,zz0,f0,f4,f5,f10,f11]
   have:=hQ _ ((p1.trans p2).trans ((p3.trans pp).trans ((pre_new (List.prefix_refl _)).trans p4)))
   have e2:okProd x q=false:=by
    unfold okProd
    have:i=0∨i=1∨i=2:=by omega
    rcases this with rfl|rfl|rfl<;>simp[c0]
   rw[e2] at this
   exact this
  | true=>
   try simp (maxSteps:=3000000) (disch:=first|omega|simp only[lnx];omega) only[↓xpre,xpost,↓reduceIte,reduceEqDiff,reduceAdd,reduceSub,reduceLeDiff,zz0,f0,f4,f5,f10,f11,wrap64_in]
   refine InvQ_go (3-(i+1)) (by omega) ⟨(i+1),rfl,by omega,(by first|rfl|exact f0|(simp only[upd_apply];rfl)|(show I64 _=_;congr 1;omega)),(by first|rfl|exact f4|(simp only[upd_apply];rfl)|(show I64 _=_;congr 1;omega)),(by first|rfl|exact f5|(simp only[upd_apply];rfl)|(show I64 _=_;congr 1;omega)),(by first|rfl|exact f10|(simp only[upd_apply];rfl)|(show I64 _=_;congr 1;omega)),(by first|rfl|exact f11|(simp only[upd_apply];rfl)|(show I64 _=_;congr 1;omega)),(pp.trans ((pre_new (List.prefix_refl _)).trans p4)),(step_all hj c0)⟩
 ·try simp (maxSteps:=3000000) (disch:=first|omega|simp only[lnx];omega) only[↓xpre,xpost,↓reduceIte,reduceEqDiff,reduceAdd,reduceSub,reduceLeDiff,zz0,f0,f4,f5,f10,f11,decide_eq_false hlt,rdn_of hb2,cel_len,hq.1,cel_take,tk]
  refine i_hasZero hq fun H4 p4=>?_
  try simp (maxSteps:=3000000) (disch:=first|omega|simp only[lnx];omega) only[↓xpre,xpost,↓reduceIte,reduceEqDiff,reduceAdd,reduceSub,reduceLeDiff,zz0,f0,f4,f5,f10,f11]
  have:=hQ _ ((p1.trans p2).trans ((p3.trans pp).trans p4))
  have e2:okProd x q=!hasZ q:=by
   unfold okProd
   rw[hj 0 (by omega),hj 1 (by omega),hj 2 (by omega)]
   simp
  rw[e2] at this
  exact this
def isX (x:Sch):Bool:=szX x&&decide (x.ps.length≤30)&&x.ps.all (okProd x)
theorem Prods.by {h:AH} {v:Value} {L:List (List Int)} (hv:Prods h v L) {i:Nat} (hi:i<L.length):By 27 (L.getD i []):=⟨hv.1.wid hi,hv.2 i hi⟩
theorem all_getD {α:Type} {d:α} {f:α→Bool} {L:List α} (h:∀ j,j<L.length→f (L.getD j d)=true):L.all f=true:=by
 rw[List.all_eq_true]
 intro x hx
 obtain⟨j,hj,rfl⟩:=List.mem_iff_getElem.1 hx
 have:=h j hj
 rw[List.getD_eq_getElem?_getD,List.getElem?_eq_getElem hj] at this
 exact this
theorem all_getD_f {α:Type} {d:α} {f:α→Bool} {L:List α} {j:Nat} (hj:j<L.length) (h:f (L.getD j d)=false):L.all f=false:=by
 rw[List.all_eq_false]
 refine⟨L.getD j d,?_,by rw[h];simp⟩
 rw[List.getD_eq_getElem?_getD,List.getElem?_eq_getElem hj]
 exact List.getElem_mem hj
theorem s_l01Is {v:Value} {x:Sch} {h:AH} {Q:Value→AH→Prop} (hv:Prods h v x.ps) (hl:SmallX x.ps) (hQ:∀ h',h<+:h'→Q (.bool (isX x)) h'):WF S 154 [schV x v] h Q:=by
 refine WF_fn (fn:=c154) rfl rfl ?_
 dsimp only[c154,oO,oM,oS,oG,oK,oE,oL,oF,oX,oN]
 unfold SmallX at hl
 try simp (maxSteps:=3000000) (disch:=first|omega|simp only[lnx];omega) only[↓xpre,xpost,↓reduceIte,reduceEqDiff,reduceAdd,reduceSub,reduceLeDiff,zz0,schV,hv.one]
 generalize hH1:AH.new h _=H1
 obtain⟨hb1,p1,n1⟩:=new_facts hH1
 try simp (maxSteps:=3000000) (disch:=first|omega|simp only[lnx];omega) only[↓xpre,xpost,↓reduceIte,reduceEqDiff,reduceAdd,reduceSub,reduceLeDiff,zz0,rd1_of hb1]
 refine s_l01Sizes ?_
 have hQ1:=hQ _ p1
 unfold isX at hQ hQ1
 have e0:(isP x.p&&sz x.n&&sz x.m&&sz x.k)=szX x:=rfl
 rw[e0]
 cases c0:szX x with
 | false=>
  try simp (maxSteps:=3000000) (disch:=first|omega|simp only[lnx];omega) only[↓xpre,xpost,↓reduceIte,reduceEqDiff,reduceAdd,reduceSub,reduceLeDiff,zz0,WG_un]
  rw[c0] at hQ1
  exact hQ1
 | true=>
  rw[c0] at hQ hQ1
  have z:=szX_facts c0
  by_cases c1:(30:Int)<x.ps.length
  ·try simp (maxSteps:=3000000) (disch:=first|omega|simp only[lnx];omega) only[↓xpre,xpost,↓reduceIte,reduceEqDiff,reduceAdd,reduceSub,reduceLeDiff,zz0,rd1_of hb1,(hv.pre p1).1.len,decide_eq_true c1]
   rw[decide_eq_false (show ¬ x.ps.length≤30 by omega)] at hQ1
   exact hQ1
  rw[decide_eq_true (show x.ps.length≤30 by omega)] at hQ
  try simp (maxSteps:=3000000) (disch:=first|omega|simp only[lnx];omega) only[↓xpre,xpost,↓reduceIte,reduceEqDiff,reduceAdd,reduceSub,reduceLeDiff,zz0,rd1_of hb1,(hv.pre p1).1.len,decide_eq_false c1]
  refine WC_loop_inv (fun m f K1=>∃ (i:Nat),m=x.ps.length-i∧i≤x.ps.length∧f 1=.pointer (some ⟨h.length,0,none⟩)∧f 3=I64 i∧(H1<+:K1)∧(∀ j,j<i→okProd x (x.ps.getD j [])=true)) ?_ (x.ps.length-0) _ _ ⟨0,rfl,by omega,(by first|rfl|simp[upd_apply]),(by first|rfl|simp[upd_apply]),List.prefix_refl _,(by omega)⟩
  rintro m f K1 ⟨i,rfl,hi,f1,f3,pp,hj⟩
  have hb1:=pre_get pp hb1
  have hvK:=hv.pre (p1.trans pp)
  try simp (maxSteps:=3000000) (disch:=first|omega|simp only[lnx];omega) only[↓xpre,xpost,↓reduceIte,reduceEqDiff,reduceAdd,reduceSub,reduceLeDiff,zz0,f1,f3,rd1_of hb1,hvK.1.len,IfW_dec]
  refine⟨fun hlt=>?_,fun hge=>?_⟩
  ·have hi':i<x.ps.length:=by omega
   obtain⟨n,off,hix,hrn,hr1⟩:=hvK.1.at hi'
   have r27:=hrn 0 27 (by omega)
   rw[List.drop_zero,List.take_of_length_le (by rw[hvK.1.wid hi'];exact Nat.le_refl _),Nat.add_zero] at r27
   try simp (maxSteps:=3000000) (disch:=first|omega|simp only[lnx];omega) only[↓xpre,xpost,↓reduceIte,reduceEqDiff,reduceAdd,reduceSub,reduceLeDiff,zz0,f1,f3,rdn_of hb1,rd1_of hb1,hix,r27]
   refine s_l01Product hvK.one z (hvK.by hi') fun H2 p2=>?_
   cases c2:okProd x (x.ps.getD i []) with
   | false=>
    try simp (maxSteps:=3000000) (disch:=first|omega|simp only[lnx];omega) only[↓xpre,xpost,↓reduceIte,reduceEqDiff,reduceAdd,reduceSub,reduceLeDiff,zz0,f1,f3]
    have:=hQ _ ((p1.trans pp).trans p2)
    rw[all_getD_f hi' c2] at this
    exact this
   | true=>
    try simp (maxSteps:=3000000) (disch:=first|omega|simp only[lnx];omega) only[↓xpre,xpost,↓reduceIte,reduceEqDiff,reduceAdd,reduceSub,reduceLeDiff,zz0,f1,f3,wrap64_in]
    refine InvQ_go (x.ps.length-(i+1)) (by omega) ⟨(i+1),rfl,by omega,(by first|rfl|exact f1|(simp only[upd_apply];rfl)|(show I64 _=_;congr 1;omega)),(by first|rfl|exact f3|(simp only[upd_apply];rfl)|(show I64 _=_;congr 1;omega)),(pp.trans p2),(step_all hj c2)⟩
  ·try simp (maxSteps:=3000000) (disch:=first|omega|simp only[lnx];omega) only[↓xpre,xpost,↓reduceIte,reduceEqDiff,reduceAdd,reduceSub,reduceLeDiff,zz0,f1,f3]
   have:=hQ _ (p1.trans pp)
   rw[all_getD (d:=[]) fun j hj'=>hj j (by omega)] at this
   exact this
theorem i_IsScheme {v:Value} {x:Sch} {h:AH} {Q:Value→AH→Prop} (hv:Prods h v x.ps) (hl:SmallX x.ps) (hQ:∀ h',h<+:h'→Q (.bool (isX x)) h'):WF S 149 [schV x v] h Q:=by
 refine WF_fn (fn:=c149) rfl rfl ?_
 dsimp only[c149,oO,oM,oS,oG,oK,oE,oL,oF,oX,oN]
 unfold SmallX at hl
 try simp (maxSteps:=3000000) (disch:=first|omega|simp only[lnx];omega) only[↓xpre,xpost,↓reduceIte,reduceEqDiff,reduceAdd,reduceSub,reduceLeDiff,zz0,schV,hv.one]
 generalize hH1:AH.new h _=H1
 obtain⟨hb1,p1,n1⟩:=new_facts hH1
 try simp (maxSteps:=3000000) (disch:=first|omega|simp only[lnx];omega) only[↓xpre,xpost,↓reduceIte,reduceEqDiff,reduceAdd,reduceSub,reduceLeDiff,zz0,rd1_of hb1]
 refine i_isPrime ?_
 have hQ1:=hQ _ p1
 unfold isX at hQ hQ1
 cases c0:isP x.p with
 | false=>
  try simp (maxSteps:=3000000) (disch:=first|omega|simp only[lnx];omega) only[↓xpre,xpost,↓reduceIte,reduceEqDiff,reduceAdd,reduceSub,reduceLeDiff,zz0,WG_un]
  have:szX x=false:=by unfold szX;rw[c0];rfl
  rw[this] at hQ1
  exact hQ1
 | true=>
  try simp (maxSteps:=3000000) (disch:=first|omega|simp only[lnx];omega) only[↓xpre,xpost,↓reduceIte,reduceEqDiff,reduceAdd,reduceSub,reduceLeDiff,zz0,rd1_of hb1,fillL,zrep]
  generalize hH2:AH.new H1 _=H2
  obtain⟨hb2,p2,n2⟩:=new_facts hH2
  have hb1:=pre_get p2 hb1
  refine i_isSize (ns:=[x.n,x.m,x.k]) (Ints.own (ns:=[x.n,x.m,x.k]) hb2 rfl) (by simp) ?_
  have e0:([x.n,x.m,x.k]:List Int).all sz=szX x:=by unfold szX;rw[c0];simp[Bool.and_assoc]
  rw[e0]
  have hQ2:=hQ _ (p1.trans p2)
  cases c1:szX x with
  | false=>
   try simp (maxSteps:=3000000) (disch:=first|omega|simp only[lnx];omega) only[↓xpre,xpost,↓reduceIte,reduceEqDiff,reduceAdd,reduceSub,reduceLeDiff,zz0,WG_un]
   rw[c1] at hQ2
   exact hQ2
  | true=>
   rw[c1] at hQ hQ2
   have z:=szX_facts c1
   by_cases c2:(30:Int)<x.ps.length
   ·try simp (maxSteps:=3000000) (disch:=first|omega|simp only[lnx];omega) only[↓xpre,xpost,↓reduceIte,reduceEqDiff,reduceAdd,reduceSub,reduceLeDiff,zz0,rd1_of hb1,(hv.pre (p1.trans p2)).1.len,decide_eq_true c2]
    rw[decide_eq_false (show ¬ x.ps.length≤30 by omega)] at hQ2
    exact hQ2
   rw[decide_eq_true (show x.ps.length≤30 by omega)] at hQ
   try simp (maxSteps:=3000000) (disch:=first|omega|simp only[lnx];omega) only[↓xpre,xpost,↓reduceIte,reduceEqDiff,reduceAdd,reduceSub,reduceLeDiff,zz0,rd1_of hb1,(hv.pre (p1.trans p2)).1.len,decide_eq_false c2]
   refine WC_loop_inv (fun m f K1=>∃ (i:Nat),m=x.ps.length-i∧i≤x.ps.length∧f 1=.pointer (some ⟨h.length,0,none⟩)∧f 27=v∧f 28=I64 x.ps.length∧f 29=I64 i∧(H2<+:K1)∧(∀ j,j<i→okProd x (x.ps.getD j [])=true)) ?_ (x.ps.length-0) _ _ ⟨0,rfl,by omega,(by first|rfl|simp[upd_apply]),(by first|rfl|simp[upd_apply]),(by first|rfl|simp[upd_apply]),(by first|rfl|simp[upd_apply]),List.prefix_refl _,(by omega)⟩
   rintro m f K1 ⟨i,rfl,hi,f1,f27,f28,f29,pp,hj⟩
   have hb1:=pre_get pp hb1
   have hvK:=hv.pre ((p1.trans p2).trans pp)
   by_cases hlt:(i:Int)<x.ps.length
   ·have hi':i<x.ps.length:=by omega
    obtain⟨n,off,hix,hrn,hr1⟩:=hvK.1.at hi'
    have r27:=hrn 0 27 (by omega)
    have wi:=hvK.1.wid hi'
    have tk:(x.ps.getD i []).take 27=x.ps.getD i []:=List.take_of_length_le (by omega)
    rw[List.drop_zero,tk,Nat.add_zero] at r27
    have w1:∀ (h1:AH) (e:TypeId),(h1.new ⟨[.int .u8 0,.int .u8 0,.int .u8 0,.int .u8 0,.int .u8 0,.int .u8 0,.int .u8 0,.int .u8 0,.int .u8 0,.int .u8 0,.int .u8 0,.int .u8 0,.int .u8 0,.int .u8 0,.int .u8 0,.int .u8 0,.int .u8 0,.int .u8 0,.int .u8 0,.int .u8 0,.int .u8 0,.int .u8 0,.int .u8 0,.int .u8 0,.int .u8 0,.int .u8 0,.int .u8 0],e,false,true⟩).wr h1.length 0 (cel .u8 (x.ps.getD i []))=some (h1.new ⟨cel .u8 (x.ps.getD i []),e,false,true⟩):=fun h1 e=>wr_all (by rw[cel_len,wi];rfl)
    try simp (maxSteps:=3000000) (disch:=first|omega|simp only[lnx];omega) only[↓xpre,xpost,↓reduceIte,reduceEqDiff,reduceAdd,reduceSub,reduceLeDiff,zz0,f1,f27,f28,f29,decide_eq_true hlt,hix,r27,cel_all,cel_len,wi,↓w1]
    generalize hH3:AH.new K1 _=H3
    obtain⟨hb3,p3,n3⟩:=new_facts hH3
    have hb1:=pre_get p3 hb1
    try simp (maxSteps:=3000000) (disch:=first|omega|simp only[lnx];omega) only[↓xpre,xpost,↓reduceIte,reduceEqDiff,reduceAdd,reduceSub,reduceLeDiff,zz0,f1,f27,f28,f29,rd1_of hb1,rdn_of hb1]
    refine i_placesOf hvK.one z fun H4 p4=>?_
    have hb1:=pre_get p4 hb1
    have hb3:=pre_get p4 hb3
    try simp (maxSteps:=3000000) (disch:=first|omega|simp only[lnx];omega) only[↓xpre,xpost,↓reduceIte,reduceEqDiff,reduceAdd,reduceSub,reduceLeDiff,zz0,f1,f27,f28,f29,rdn_of hb3,cel_len,wi,cel_take,tk]
    refine⟨p4,?_⟩
    refine i_isProduct z (hvK.by hi') fun H5 p5=>?_
    cases c3:okProd x (x.ps.getD i []) with
    | false=>
     try simp (maxSteps:=3000000) (disch:=first|omega|simp only[lnx];omega) only[↓xpre,xpost,↓reduceIte,reduceEqDiff,reduceAdd,reduceSub,reduceLeDiff,zz0,f1,f27,f28,f29]
     have:=hQ _ (((p1.trans p2).trans pp).trans ((p3.trans p4).trans p5))
     rw[all_getD_f hi' c3] at this
     exact this
    | true=>
     try simp (maxSteps:=3000000) (disch:=first|omega|simp only[lnx];omega) only[↓xpre,xpost,↓reduceIte,reduceEqDiff,reduceAdd,reduceSub,reduceLeDiff,zz0,f1,f27,f28,f29,wrap64_in]
     refine InvQ_go (x.ps.length-(i+1)) (by omega) ⟨(i+1),rfl,by omega,(by first|rfl|exact f1|(simp only[upd_apply];rfl)|(show I64 _=_;congr 1;omega)),(by first|rfl|exact f27|(simp only[upd_apply];rfl)|(show I64 _=_;congr 1;omega)),(by first|rfl|exact f28|(simp only[upd_apply];rfl)|(show I64 _=_;congr 1;omega)),(by first|rfl|exact f29|(simp only[upd_apply];rfl)|(show I64 _=_;congr 1;omega)),(pp.trans ((p3.trans p4).trans p5)),(step_all hj c3)⟩
   ·try simp (maxSteps:=3000000) (disch:=first|omega|simp only[lnx];omega) only[↓xpre,xpost,↓reduceIte,reduceEqDiff,reduceAdd,reduceSub,reduceLeDiff,zz0,f1,f27,f28,f29,decide_eq_false hlt]
    have:=hQ _ ((p1.trans p2).trans pp)
    rw[all_getD (d:=[]) fun j hj'=>hj j (by omega)] at this
    exact this
end Go.Proofs.Ytapafdpnmakekaa.X

set_option linter.unusedVariables false
set_option linter.unusedSimpArgs false
set_option maxRecDepth 20000
set_option maxHeartbeats 4000000
namespace Go.Proofs.Ytapafdpnmakekaa.X
open Go Go.RowKit
def bs:Nat→(Nat→Bool)→Nat
 | 0,_=>0
 | R+1,f=>bs R f+(if f R=true then 2^R else 0)
def U32 (n:Nat):Value:=.int .u32 (n:Int)
section
variable {R:Nat} {f g:Nat→Bool}
end
def cntB (f:Nat→Bool):Nat→Nat
 | 0=>0
 | R+1=>cntB f R+(if f R=true then 1 else 0)
theorem cntB_congr {f g:Nat→Bool}:∀ {R:Nat},(∀ k,k<R→f k=g k)→cntB f R=cntB g R
 | 0,_=>rfl
 | R+1,h=>by
  unfold cntB
  rw[cntB_congr (R:=R) fun k hk=>h k (by omega),h R (by omega)]
def WayX (e:TypeId) (k:IntKind) (w:Nat) (h:AH) (lo:Nat) (ex:List Nat) (sv:Value) (L:List (List Int)):Prop:=
 Wid w L∧((sv=.slice none 0 0∧L=[])∨∃ kb full,sv=.slice (some ⟨kb,0,none⟩) L.length w∧lo≤kb∧kb∉ex∧h.get kb=some ⟨cel k L.flatten,e,false,full⟩)
section
variable {e:TypeId} {k:IntKind} {w:Nat} {h h':AH} {lo:Nat} {ex:List Nat} {sv:Value} {L:List (List Int)}
theorem WayX.pre (o:WayX e k w h lo ex sv L) (p:h<+:h'):WayX e k w h' lo ex sv L:=by
 obtain⟨hw,o|⟨kb,full,h1,h2,h3,h4⟩⟩:=o
 ·exact⟨hw,.inl o⟩
 ·exact⟨hw,.inr ⟨kb,full,h1,h2,h3,pre_get p h4⟩⟩
theorem WayX.one (o:WayX e k w h lo ex sv L):isOne sv=true:=by
 obtain⟨hw,⟨rfl,_⟩|⟨kb,full,rfl,h2,h3,h4⟩⟩:=o<;>rfl
theorem WayX.cells (o:WayX e k w h lo ex sv L):cellsL sv=[sv]:=by
 obtain⟨hw,⟨rfl,_⟩|⟨kb,full,rfl,h2,h3,h4⟩⟩:=o<;>rfl
theorem WayX.len (o:WayX e k w h lo ex sv L):lenV sv=some (I64 L.length):=by
 obtain⟨hw,⟨rfl,rfl⟩|⟨kb,full,rfl,h2,h3,h4⟩⟩:=o<;>rfl
theorem WayX.put {n:Nat} {b:Blk} (o:WayX e k w h lo ex sv L) (hn:n<lo∨n∈ex):WayX e k w (h.put n b) lo ex sv L:=by
 obtain⟨hw,o|⟨kb,full,h1,h2,h3,h4⟩⟩:=o
 ·exact⟨hw,.inl o⟩
 ·refine⟨hw,.inr ⟨kb,full,h1,h2,h3,?_⟩⟩
  rw[get_put_ne]
  ·exact h4
  ·rintro rfl
   rcases hn with hn|hn
   ·omega
   ·exact h3 hn
theorem WayX.keep (o:WayX e k w h lo ex sv L) (hk:∀ m c f,m∉ex→lo≤m→h.get m=some ⟨c,e,false,f⟩→h'.get m=some ⟨c,e,false,f⟩):WayX e k w h' lo ex sv L:=by
 obtain⟨hw,o|⟨kb,full,h1,h2,h3,h4⟩⟩:=o
 ·exact⟨hw,.inl o⟩
 ·exact⟨hw,.inr ⟨kb,full,h1,h2,h3,hk _ _ _ h3 h2 h4⟩⟩
theorem WayX.hold (o:WayX e k w h lo ex sv L):∃ E:List Nat,(∀ m,m∈E→lo≤m∧m<h.length∧m∉ex)∧∀ h':AH,(∀ m b,m∈E→h.get m=some b→h'.get m=some b)→WayX e k w h' lo ex sv L∧InE k w lo h.length h' sv L:=by
 obtain⟨hw,o|⟨kb,full,h1,h2,h3,h4⟩⟩:=o
 ·exact⟨[],fun m hm=>by simp at hm,fun h' _=>⟨⟨hw,.inl o⟩,.inl o⟩⟩
 ·refine⟨[kb],fun m hm=>?_,fun h' hk=>⟨⟨hw,.inr ⟨kb,full,h1,h2,h3,hk _ _ (by simp) h4⟩⟩,.inr ⟨kb,e,full,⟨h2,get_lt h4⟩,h1,hk _ _ (by simp) h4,hw⟩⟩⟩
  rw[List.mem_singleton] at hm
  subst hm
  exact⟨h2,get_lt h4,h3⟩
theorem WayX.inE (o:WayX e k w h lo ex sv L):InE k w lo h.length h sv L:=by
 obtain⟨hw,o|⟨kb,full,h1,h2,h3,h4⟩⟩:=o
 ·exact .inl o
 ·exact .inr ⟨kb,e,full,⟨h2,get_lt h4⟩,h1,h4,hw⟩
theorem WayX.app {H:AH} {q:List Int} {e':TypeId} {ro full:Bool} {bytes:Nat} (o:WayX e k w H lo ex sv L) (hq:q.length=w) (hl:((L.length:Int)+1)*bytes≤140737488355328) (hn:(L.length:Int)<1048576) (hlo:lo≤H.length) (hex:∀ m,m∈ex→m<H.length)
  {Q:Value→AH→Prop} (hQ:∀ (sv':Value) (H':AH),H'.length=H.length+2→(∀ h0:AH,h0.length≤lo→h0<+:H→h0<+:H')→(∀ m b,m<lo∨m∈ex→H.get m=some b→H'.get m=some b)→WayX e k w H' H.length ex sv' (L++[q])→Q sv' H') :
  OQ (appV e w bytes sv (.slice (some ⟨H.length,0,none⟩) 1 w) (H.new ⟨cel k q,e',ro,full⟩)) Q:=by
 have hr:(H.new ⟨cel k q,e',ro,full⟩).rdn H.length 0 w=some (cel k q):=by
  rw[rdn_of get_new_same]
  simp only
  rw[if_pos (by rw[cel_len,hq];omega),List.drop_zero,List.take_of_length_le (by rw[cel_len,hq];omega)]
 obtain⟨hw,⟨rfl,rfl⟩|⟨kb,fu,rfl,h2,h3,h4⟩⟩:=o
 ·rw[app_nilW (.inl rfl) hr (by simp only[List.length_nil] at hl;omega),OQ_some]
  refine hQ _ _ (by rw[len_new,len_new]) (fun h0 _ p=>pre_new (pre_new p)) (fun m b hm o=>get_new_any (get_new_any o)) ⟨?_,.inr ⟨_,false,rfl,by rw[len_new];omega,fun hm=>by have:=hex _ hm;rw[len_new] at this;omega,?_⟩⟩
  ·intro r hr
   rw[List.nil_append,List.mem_singleton] at hr
   rw[hr,hq]
  ·rw[get_new_same]
   simp
 ·have hk:(H.new ⟨cel k q,e',ro,full⟩).get kb=some ⟨cel k L.flatten,e,false,fu⟩:=get_new_any h4
  have hkb:=get_lt h4
  rw[app_ownW hk (by rw[cel_len,flat_len hw]) hr ⟨hl,by omega⟩,OQ_some]
  refine hQ _ _ (by rw[len_new,len_kill,len_new]) (fun h0 q p=>pre_new (pre_kill (pre_new p) (by omega))) (fun m b hm o=>?_) ⟨?_,.inr ⟨(H.new ⟨cel k q,e',ro,full⟩).length,false,by simp,by rw[len_new];omega,fun hm=>by have:=hex _ hm;rw[len_new] at this;omega,?_⟩⟩
  ·refine get_new_any ?_
   rw[get_kill_ne]
   ·exact get_new_any o
   ·rintro rfl
    rcases hm with hm|hm
    ·omega
    ·exact h3 hm
  ·intro r hr
   rcases List.mem_append.1 hr with hr|hr
   ·exact hw r hr
   ·rw[List.mem_singleton.1 hr,hq]
  ·rw[get_new_eq (by rw[len_kill])]
   simp[cel_app]
end
def Bls (h:AH) (n:Nat) (bs:List Bool):Prop:=h.get n=some ⟨bs.map Value.bool,4,false,true⟩
section
variable {h h':AH} {n:Nat} {bs:List Bool}
theorem Bls.pre (o:Bls h n bs) (p:h<+:h'):Bls h' n bs:=pre_get p o
theorem Bls.lt (o:Bls h n bs):n<h.length:=get_lt o
theorem Bls.rd {j:Nat} (o:Bls h n bs) (hj:j<bs.length):h.rd1 n j=some (.bool (bs.getD j false)):=by
 rw[rd1_of o]
 simp[List.getD_eq_getElem?_getD,hj]
theorem Bls.put_ne {m:Nat} {b:Blk} (o:Bls h n bs) (e:m≠n):Bls (h.put m b) n bs:=by
 unfold Bls
 rw[get_put_ne e]
 exact o
theorem Bls.wr {j:Nat} {x:Bool} (o:Bls h n bs) (hj:j<bs.length):∃ h',h.wr n j [.bool x]=some h'∧h'=h.put n ⟨(bs.set j x).map Value.bool,4,false,true⟩∧Bls h' n (bs.set j x):=by
 have e:splice (bs.map Value.bool) j [.bool x]=(bs.set j x).map Value.bool:=by
  rw[splice_set (by simpa using hj)]
  simp[List.map_set]
 refine⟨_,?_,rfl,get_put_same o.lt⟩
 rw[wr_of o,if_pos ⟨rfl,by simp only[List.length_map,List.length_singleton];omega⟩,e]
end
def rpOK (x:Prg) (ns:List Int):Prop:=allIn x.p ns=true∧(ns.length:Int)=x.n
instance {x:Prg} {ns:List Int}:Decidable (rpOK x ns):=by unfold rpOK;infer_instance
theorem Ints.cell {h:AH} {v:Value} {ns:List Int} (hv:Ints h v ns) {j:Nat} (hj:j<ns.length):∃ n off,(∀ kk:IntKind,ixsV 1 v (.int kk (j:Int))=some (.pointer (some ⟨n,off,none⟩)))∧h.rd1 n off=some (I64 (ns.getD j 0)):=by
 rcases hv with⟨rfl,t,_,rfl⟩|⟨b,off,blk,rfl,h2,h3,h4⟩
 ·simp at hj
 ·refine⟨b,off+j,fun kk=>?_,?_⟩
  ·rw[ixsV_some,if_pos (by omega)]
   simp
  ·rw[rd1_of h2]
   exact h4 j hj
theorem Rows.len {h:AH} {v:Value} {rows:List (List Int)} (hv:Rows h v rows):lenV v=some (I64 rows.length):=by
 obtain⟨cs,h1,h2,h3⟩:=hv
 rw[h1.len,h2]
theorem Rows.row {h:AH} {v:Value} {rows:List (List Int)} (hv:Rows h v rows) {i:Nat} (hi:i<rows.length) :
  ∃ n off x,(∀ kk:IntKind,ixsV 1 v (.int kk (i:Int))=some (.pointer (some ⟨n,off,none⟩)))∧h.rd1 n off=some x∧Ints h x (rows.getD i []):=by
 obtain⟨cs,hc,hl,hr⟩:=hv
 rcases hc with⟨rfl,t,_,rfl⟩|⟨b,off,blk,rfl,h2,h3,h4⟩
 ·simp at hl
  omega
 ·refine⟨b,off+i,cs.getD i undef,fun kk=>?_,?_,hr i hi⟩
  ·rw[ixsV_some,if_pos (by omega)]
   simp
  ·rw[rd1_of h2]
   exact h4 i (by omega)
theorem TabS.cell {h0 h:AH} {nb i j:Nat} {full:Bool} {L:List (Nat×List Int)} {x:Int} {n:Nat} {r:List Int} (s:TabS h0 h nb full L) (hi:i<L.length) (hL:L[i]=(n,r)) (hj:j<r.length) :
  ∃ e fu,h.get n=some ⟨r.map (Value.int .i64),e,false,fu⟩∧TabS h0 (h.put n ⟨(r.set j x).map (Value.int .i64),e,false,fu⟩) nb full (L.set i (n,r.set j x)):=by
 have a:=s.rows _ (List.getElem_mem hi)
 rw[hL] at a
 obtain⟨⟨a1,a2⟩,fu,e,o⟩:=a
 refine⟨e,fu,o,pre_put s.hp a1,s.lo,?_,fun q hq=>?_,?_⟩
 ·rw[get_put_ne a2,s.g]
  congr 2
  rw[List.map_set]
  have:rowV (n,r.set j x)=(L.map rowV)[i]'(by simpa using hi):=by
   rw[List.getElem_map,hL]
   simp[rowV]
  rw[this,List.set_getElem_self]
 ·obtain⟨m,hm,rfl⟩:=List.mem_iff_getElem.1 hq
  have hm':m<L.length:=by simpa using hm
  by_cases hmi:m=i
  ·subst hmi
   rw[List.getElem_set_self]
   exact⟨⟨a1,a2⟩,fu,e,get_put_same (get_lt o)⟩
  ·rw[List.getElem_set_ne (fun q=>hmi q.symm)]
   have b:=s.rows _ (List.getElem_mem hm')
   obtain⟨b1,fq,oq⟩:=b
   refine⟨b1,fq,oq.put_ne ?_⟩
   have hd:=List.pairwise_iff_getElem.1 s.dist
   rcases Nat.lt_or_gt_of_ne hmi with hlt|hgt
   ·have:=hd m i hm' hi hlt
    rw[hL] at this
    exact fun q=>this q.symm
   ·have:=hd i m hi hm' hgt
    rw[hL] at this
    exact this
 ·have e1:(L.set i (n,r.set j x)).map Prod.fst=L.map Prod.fst:=by
   rw[List.map_set]
   have:(n,r.set j x).1=(L.map Prod.fst)[i]'(by simpa using hi):=by rw[List.getElem_map,hL]
   rw[this,List.set_getElem_self]
  have h1:=List.pairwise_map (f:=Prod.fst) (R:=fun a b:Nat=>a≠b) (l:=L)
  have h2:=List.pairwise_map (f:=Prod.fst) (R:=fun a b:Nat=>a≠b) (l:=L.set i (n,r.set j x))
  rw[←h2,e1,h1]
  exact s.dist
def trL (rows:List (List Int)) (w:Nat):List (List Int):=(List.range w).map fun j=>gen rows.length fun i=>(rows.getD i []).getD j 0
theorem WayX.types {e e':TypeId} {k:IntKind} {w:Nat} {h h':AH} {lo:Nat} {sv:Value} {L:List (List Int)} (o:WayX e k w h lo [] sv L) (he:e≠e') (hk:∀ m b,b.e≠e'→h.get m=some b→h'.get m=some b):WayX e k w h' lo [] sv L:=
 o.keep fun m c f _ _ g=>hk _ _ he g
structure Stay (lo:Nat) (h h':AH):Prop where
 len:h.length≤h'.length
 pre:∀ h0:AH,h0.length≤lo→h0<+:h→h0<+:h'
 get:∀ m b,h.get m=some b→b.e≠181→b.e≠183→h'.get m=some b
theorem Stay.refl {lo:Nat} {h:AH}:Stay lo h h:=⟨Nat.le_refl _,fun _ _ p=>p,fun _ _ g _ _=>g⟩
theorem Stay.of {lo:Nat} {h h':AH} (p:h<+:h'):Stay lo h h':=⟨pre_len p,fun _ _ q=>q.trans p,fun _ _ g _ _=>pre_get p g⟩
theorem Stay.trans {lo:Nat} {h h1 h2:AH} (a:Stay lo h h1) (b:Stay lo h1 h2):Stay lo h h2:=
 ⟨Nat.le_trans a.len b.len,fun h0 hl p=>b.pre h0 hl (a.pre h0 hl p),fun m c g h1 h2=>b.get m c (a.get m c g h1 h2) h1 h2⟩
theorem Stay.put {lo:Nat} {h h':AH} {n:Nat} {b:Blk} (a:Stay lo h h') (hn:h.length≤n) (hlo:lo≤n):Stay lo h (h'.put n b):=
 ⟨by rw[len_put];exact a.len,fun h0 hl p=>pre_put (a.pre h0 hl p) (by omega),fun m c g h1 h2=>by
  have:=get_lt g
  rw[get_put_ne (by omega)]
  exact a.get m c g h1 h2⟩
def invP (p n:Int):Int:=if (1*n).tmod p=1 then 1 else if (2*n).tmod p=1 then 2 else if (3*n).tmod p=1 then 3 else 4
structure RS where
 st:List (List Int)
 val:Int
 fac:Int
def rowSt (p n:Int) (st0:List (List Int)) (row:List Int):Nat→RS
 | 0=>⟨st0,-1,0⟩
 | k+1=>
  let s:=rowSt p n st0 row k
  if row.getD k 0=0 then s else if s.val<0 then ⟨s.st,k,row.getD k 0⟩
  else ⟨s.st++[[s.val,k,(row.getD k 0*invP p s.fac).tmod p]],n+((s.st.length:Int)+1)-1,s.fac⟩
def rowP (x:Prg) (row:List Int):Prg:=
 let s:=rowSt x.p x.n x.st row row.length
 ⟨x.p,x.n,s.st,x.out++[[max s.val 0,s.fac]]⟩
def finP (x:Prg) (rows:List (List Int)):Nat→Prg
 | 0=>x
 | i+1=>rowP (finP x rows i) (rows.getD i [])
structure Way2 (h:AH) (lo:Nat) (v w:Value) (x:Prg):Prop where
 st:WayX (181) .i64 3 h lo [] v x.st
 out:WayX (183) .i64 2 h lo [] w x.out
theorem Way2.pre {h h':AH} {lo:Nat} {v w:Value} {x:Prg} (o:Way2 h lo v w x) (p:h<+:h'):Way2 h' lo v w x:=⟨o.st.pre p,o.out.pre p⟩
theorem Way2.rd {h:AH} {lo:Nat} {v w:Value} {x:Prg} (o:Way2 h lo v w x):PrgR h v w x:=⟨o.st.inE.rd,o.out.inE.rd⟩
def OrdB (v w:Value):Prop:=∀ a b la lb wa wb,v=.slice (some ⟨a,0,none⟩) la wa→w=.slice (some ⟨b,0,none⟩) lb wb→a<b
theorem WayX.ord {e e':TypeId} {k:IntKind} {w w':Nat} {h h':AH} {lo:Nat} {ex ex':List Nat} {sv so:Value} {L L':List (List Int)} (o:WayX e k w h lo ex sv L) (o':WayX e' k w' h' h.length ex' so L'):OrdB sv so:=by
 intro a b la lb wa wb e1 e2
 obtain⟨hw,⟨h1,_⟩|⟨kb,full,h1,h2,h3,h4⟩⟩:=o
 ·rw[e1] at h1
  cases h1
 ·obtain⟨hw',⟨h1',_⟩|⟨kb',full',h1',h2',h3',h4'⟩⟩:=o'
  ·rw[e2] at h1'
   cases h1'
  ·rw[e1] at h1
   rw[e2] at h1'
   simp only[Value.slice.injEq,Option.some.injEq,Addr.mk.injEq,and_true] at h1 h1'
   have:=get_lt h4
   omega
def RowsS (lo:Nat) (h:AH) (u:Value) (rows:List (List Int)):Prop:=
 ∃ cs,(∀ h',Stay lo h h'→Vals h' u cs)∧cs.length=rows.length∧∀ i,i<rows.length→∀ h',Stay lo h h'→Ints h' (cs.getD i undef) (rows.getD i [])
theorem Rows.stays {h:AH} {u:Value} {rows:List (List Int)} (o:Rows h u rows):RowsS h.length h u rows:=by
 obtain⟨cs,h1,h2,h3⟩:=o
 exact⟨cs,fun h' s=>h1.pre (s.pre _ (Nat.le_refl _) (List.prefix_refl _)),h2,fun i hi h' s=>(h3 i hi).pre (s.pre _ (Nat.le_refl _) (List.prefix_refl _))⟩
theorem RowsS.trans {lo:Nat} {h h1:AH} {u:Value} {rows:List (List Int)} (o:RowsS lo h u rows) (s:Stay lo h h1):RowsS lo h1 u rows:=by
 obtain⟨cs,c1,c2,c3⟩:=o
 exact⟨cs,fun h' t=>c1 _ (s.trans t),c2,fun i hi h' t=>c3 i hi _ (s.trans t)⟩
def mkB (p:Int) (T:List (List Int)) (i j r:Nat) (k:Nat):Bool:=decide (tb T k i≠0)&&decide (tb T k j=(tb T k i*r).tmod p)
def cntT (p:Int) (T:List (List Int)) (i j r:Nat):Nat:=cntB (mkB p T i j r) T.length
structure BS where
 l:Nat
 j:Nat
 r:Nat
 m:Nat
def upB (s:BS) (i j r c:Nat):BS:=if s.m<c then ⟨i,j,r,c⟩ else s
section
variable (p:Int) (T:List (List Int))
def foldR (i j:Nat):Nat→BS→BS
 | 0,s=>s
 | n+1,s=>upB (foldR i j n s) i j (n+1) (cntT p T i j (n+1))
def foldJ (i:Nat):Nat→BS→BS
 | 0,s=>s
 | n+1,s=>foldR p T i (i+1+n) (p.toNat-1) (foldJ i n s)
def foldI (W:Nat):Nat→BS→BS
 | 0,s=>s
 | n+1,s=>foldJ p T n (W-(n+1)) (foldI W n s)
def bst:BS:=foldI p T (T.getD 0 []).length (T.getD 0 []).length ⟨0,0,0,1⟩
end
def BOK (p:Int) (T:List (List Int)) (W:Nat) (s:BS):Prop:=2≤s.m→s.l<s.j∧s.j<W∧1≤s.r∧(s.r:Int)<p∧s.m=cntT p T s.l s.j s.r
theorem upB_ok {p:Int} {T:List (List Int)} {W i j r:Nat} {s:BS} (h:BOK p T W s) (h1:i<j∧j<W∧1≤r∧(r:Int)<p):BOK p T W (upB s i j r (cntT p T i j r)):=by
 unfold upB
 split
 ·exact fun _=>⟨h1.1,h1.2.1,h1.2.2.1,h1.2.2.2,rfl⟩
 ·exact h
theorem foldR_ok {p:Int} {T:List (List Int)} {W i j:Nat} {s:BS} (h:BOK p T W s) (h1:i<j∧j<W):∀ {n:Nat},(n:Int)<p→BOK p T W (foldR p T i j n s)
 | 0,_=>h
 | n+1,hn=>upB_ok (foldR_ok h h1 (n:=n) (by omega)) ⟨h1.1,h1.2,by omega,hn⟩
theorem foldJ_ok {p:Int} {T:List (List Int)} {W i:Nat} {s:BS} (hp:1≤p) (h:BOK p T W s):∀ {n:Nat},i+1+n≤W→BOK p T W (foldJ p T i n s)
 | 0,_=>h
 | n+1,hn=>foldR_ok (foldJ_ok hp h (n:=n) (by omega)) ⟨by omega,by omega⟩ (by omega)
theorem foldI_ok {p:Int} {T:List (List Int)} {W:Nat} {s:BS} (hp:1≤p) (h:BOK p T W s):∀ {n:Nat},n≤W→BOK p T W (foldI p T W n s)
 | 0,_=>h
 | n+1,hn=>foldJ_ok hp (foldI_ok hp h (n:=n) (by omega)) (by omega)
theorem mul_nz {p a r:Int} (hp:isP p=true) (ha:1≤a∧a<p) (hr:1≤r∧r<p):1≤(a*r).tmod p∧(a*r).tmod p<p:=by
 have hpp:p=2∨p=3∨p=5:=by simpa [isP] using hp
 rcases hpp with rfl|rfl|rfl
 ·have h1:a=1:=by omega
  have h3:r=1:=by omega
  subst h1 h3
  decide
 ·have h1:a=1∨a=2:=by omega
  have h3:r=1∨r=2:=by omega
  rcases h1 with rfl|rfl<;>rcases h3 with rfl|rfl<;>decide
 ·have h1:a=1∨a=2∨a=3∨a=4:=by omega
  have h3:r=1∨r=2∨r=3∨r=4:=by omega
  rcases h1 with rfl|rfl|rfl|rfl<;>rcases h3 with rfl|rfl|rfl|rfl<;>decide
def mvOK (p:Int) (l j r:Nat) (row:List Int):Bool:=decide (row.getD l 0≠0)&&decide (row.getD j 0=(row.getD l 0*r).tmod p)
def mvRow (p:Int) (l j r:Nat) (row:List Int):List Int:=if mvOK p l j r row=true then ((row.set l 0).set j 0)++[row.getD l 0] else row++[0]
def mvT (p:Int) (s:BS) (T:List (List Int)):List (List Int):=T.map (mvRow p s.l s.j s.r)
def GT (p:Int) (W:Nat) (T:List (List Int)):Prop:=∀ k,k<T.length→(T.getD k []).length=W∧∀ i,i<W→0≤tb T k i∧tb T k i<p
theorem mvRow_len {p:Int} {l j r:Nat} {row:List Int}:(mvRow p l j r row).length=row.length+1:=by
 unfold mvRow
 split<;>simp
theorem mvT_len {p:Int} {s:BS} {T:List (List Int)}:(mvT p s T).length=T.length:=by simp[mvT]
theorem mvT_get {p:Int} {s:BS} {T:List (List Int)} {k:Nat} (hk:k<T.length):(mvT p s T).getD k []=mvRow p s.l s.j s.r (T.getD k []):=by
 simp[mvT,List.getD_eq_getElem?_getD,List.getElem?_map,List.getElem?_eq_getElem hk]
theorem mvRow_at {p:Int} {l j r i:Nat} {row:List Int} (hl:l<row.length) (hj:j<row.length) (hi:i≤row.length) :
  (mvRow p l j r row).getD i 0=if i=row.length then (if mvOK p l j r row=true then row.getD l 0 else 0) else if mvOK p l j r row=true∧(i=l∨i=j) then 0 else row.getD i 0:=by
 unfold mvRow
 by_cases hm:mvOK p l j r row=true
 ·rw[if_pos hm,if_pos hm]
  by_cases he:i=row.length
  ·subst he
   rw[if_pos rfl,List.getD_eq_getElem?_getD,List.getElem?_append_right (by simp)]
   simp
  ·rw[if_neg he,List.getD_eq_getElem?_getD,List.getElem?_append_left (by simp;omega),←List.getD_eq_getElem?_getD,set_getD (by simp;exact hj),set_getD hl]
   by_cases h1:i=j
   ·rw[if_pos h1,if_pos ⟨hm,.inr h1⟩]
   ·rw[if_neg h1]
    by_cases h2:i=l
    ·rw[if_pos h2,if_pos ⟨hm,.inl h2⟩]
    ·rw[if_neg h2,if_neg (fun h=>h.2.elim h2 h1)]
 ·rw[if_neg hm,if_neg hm]
  by_cases he:i=row.length
  ·subst he
   rw[if_pos rfl,List.getD_eq_getElem?_getD,List.getElem?_append_right (Nat.le_refl _)]
   simp
  ·rw[if_neg he,if_neg (fun h=>hm h.1),List.getD_eq_getElem?_getD,List.getElem?_append_left (by omega),←List.getD_eq_getElem?_getD]
theorem GT.step {p:Int} {W:Nat} {T:List (List Int)} {s:BS} (g:GT p W T) (hp:1≤p) (h1:s.l<W) (h2:s.j<W):GT p (W+1) (mvT p s T):=by
 intro k hk
 rw[mvT_len] at hk
 obtain⟨gl,gi⟩:=g k hk
 refine⟨by rw[mvT_get hk,mvRow_len,gl],fun i hi=>?_⟩
 have hi':tb (mvT p s T) k i=(mvRow p s.l s.j s.r (T.getD k [])).getD i 0:=by unfold tb;rw[mvT_get hk]
 rw[hi',mvRow_at (by omega) (by omega) (by omega)]
 have g1:=gi s.l h1
 unfold tb at gi g1
 split
 ·split
  ·exact g1
  ·omega
 ·split
  ·omega
  ·exact gi i (by omega)
def nzR (row:List Int):Nat:=cntB (fun i=>decide (row.getD i 0≠0)) row.length
def sumN (f:Nat→Nat):Nat→Nat
 | 0=>0
 | n+1=>sumN f n+f n
def nzT (T:List (List Int)):Nat:=sumN (fun k=>nzR (T.getD k [])) T.length
theorem cntB_flip {f g:Nat→Bool} {l:Nat} (h1:f l=true) (h2:g l=false) (h3:∀ k,k≠l→f k=g k):∀ {R:Nat},l<R→cntB f R=cntB g R+1
 | 0,h=>by omega
 | R+1,h=>by
  unfold cntB
  by_cases e:l=R
  ·subst e
   rw[h1,h2,cntB_congr (f:=f) (g:=g) fun k hk=>h3 k (by omega)]
   simp
  ·rw[cntB_flip h1 h2 h3 (R:=R) (by omega),h3 R (fun q=>e q.symm)]
   omega
theorem nzR_mv {p:Int} {l j r:Nat} {row:List Int} (hp:isP p=true) (hl:l<row.length) (hj:j<row.length) (hlj:l≠j) (hr:1≤r∧(r:Int)<p) (g:∀ i,i<row.length→0≤row.getD i 0∧row.getD i 0<p) :
  nzR (mvRow p l j r row)+(if mvOK p l j r row=true then 1 else 0)=nzR row:=by
 have e:∀ i,i≤row.length→(mvRow p l j r row).getD i 0=_:=fun i hi=>mvRow_at hl hj hi
 unfold nzR
 rw[mvRow_len]
 show cntB _ row.length+(if (decide ((mvRow p l j r row).getD row.length 0≠0))=true then 1 else 0)+_=_
 rw[e row.length (Nat.le_refl _),if_pos rfl]
 by_cases hm:mvOK p l j r row=true
 ·have hm':=hm
  unfold mvOK at hm'
  rw[Bool.and_eq_true,decide_eq_true_eq,decide_eq_true_eq] at hm'
  have gl:=g l hl
  have nz:=mul_nz hp (a:=row.getD l 0) (r:=r) (by omega) (by omega)
  rw[if_pos hm,if_pos hm,if_pos (decide_eq_true hm'.1)]
  have f1:=cntB_flip (f:=fun i=>decide (row.getD i 0≠0)) (g:=fun i=>if i=l then false else decide (row.getD i 0≠0)) (l:=l) (decide_eq_true hm'.1) (by simp) (fun k hk=>by simp[hk]) (R:=row.length) hl
  have f2:=cntB_flip (f:=fun i=>if i=l then false else decide (row.getD i 0≠0)) (g:=fun i=>if i=j then false else if i=l then false else decide (row.getD i 0≠0)) (l:=j) (by
   show (if j=l then false else decide (row.getD j 0≠0))=true
   rw[if_neg (fun q=>hlj q.symm),decide_eq_true (by omega)]) (by simp) (fun k hk=>by simp[hk]) (R:=row.length) hj
  have f3:cntB (fun i=>decide ((mvRow p l j r row).getD i 0≠0)) row.length=cntB (fun i=>if i=j then false else if i=l then false else decide (row.getD i 0≠0)) row.length:=cntB_congr fun k hk=>by
   show decide ((mvRow p l j r row).getD k 0≠0)=if k=j then false else if k=l then false else decide (row.getD k 0≠0)
   rw[e k (by omega),if_neg (by omega)]
   by_cases h1:k=j
   ·rw[if_pos ⟨hm,.inr h1⟩,if_pos h1]
    rfl
   ·by_cases h2:k=l
    ·rw[if_pos ⟨hm,.inl h2⟩,if_neg h1,if_pos h2]
     rfl
    ·rw[if_neg (fun h=>h.2.elim h2 h1),if_neg h1,if_neg h2]
  rw[f3,f1,f2]
 ·rw[if_neg hm,if_neg hm,if_neg (by simp)]
  refine cntB_congr fun k hk=>?_
  show decide ((mvRow p l j r row).getD k 0≠0)=_
  rw[e k (by omega),if_neg (by omega),if_neg (fun h=>hm h.1)]
theorem sumN_add {f g h:Nat→Nat}:∀ {n:Nat},(∀ k,k<n→f k+g k=h k)→sumN f n+sumN g n=sumN h n
 | 0,_=>rfl
 | n+1,hh=>by
  have ih:=sumN_add (n:=n) fun k hk=>hh k (by omega)
  have:=hh n (by omega)
  unfold sumN
  omega
theorem sumN_cnt {f:Nat→Bool}:∀ {n:Nat},sumN (fun k=>if f k=true then 1 else 0) n=cntB f n
 | 0=>rfl
 | n+1=>by
  unfold sumN cntB
  rw[sumN_cnt (n:=n)]
theorem nzT_mv {p:Int} {W:Nat} {T:List (List Int)} {s:BS} (hp:isP p=true) (g:GT p W T) (h1:s.l<s.j∧s.j<W∧1≤s.r∧(s.r:Int)<p):nzT (mvT p s T)+cntT p T s.l s.j s.r=nzT T:=by
 unfold nzT cntT
 rw[mvT_len,←sumN_cnt]
 refine sumN_add fun k hk=>?_
 obtain⟨gl,gi⟩:=g k hk
 rw[mvT_get hk]
 exact nzR_mv hp (by omega) (by omega) (by omega) ⟨h1.2.2.1,h1.2.2.2⟩ (by rw[gl];exact gi)
structure SS where
 T:List (List Int)
 st:List (List Int)
def stepS (p:Int) (s:SS):SS:=⟨mvT p (bst p s.T) s.T,s.st++[[((bst p s.T).l:Int),((bst p s.T).j:Int),((bst p s.T).r:Int)]]⟩
def shF (p:Int):Nat→SS→SS
 | 0,s=>s
 | f+1,s=>if 2≤(bst p s.T).m then shF p f (stepS p s) else s
theorem bst_ok {p:Int} {W:Nat} {T:List (List Int)} (hp:isP p=true) (g:GT p W T) (hT:1≤T.length) (h:2≤(bst p T).m) :
  (bst p T).l<(bst p T).j∧(bst p T).j<W∧1≤(bst p T).r∧((bst p T).r:Int)<p∧(bst p T).m=cntT p T (bst p T).l (bst p T).j (bst p T).r:=by
 have hp5:=isP_in hp
 have hw:=(g 0 (by omega)).1
 have:=foldI_ok (T:=T) (W:=(T.getD 0 []).length) (s:=⟨0,0,0,1⟩) (show 1≤p by omega) (fun h=>by simp only at h;omega) (n:=(T.getD 0 []).length) (Nat.le_refl _)
 rw[←hw]
 exact this h
theorem stepS_facts {p:Int} {W:Nat} {s:SS} (hp:isP p=true) (g:GT p W s.T) (hT:1≤s.T.length) (h:2≤(bst p s.T).m) :
  GT p (W+1) (stepS p s).T∧(stepS p s).T.length=s.T.length∧nzT (stepS p s).T+2≤nzT s.T:=by
 have hp5:=isP_in hp
 obtain⟨h1,h2,h3,h4,h5⟩:=bst_ok hp g hT h
 refine⟨g.step (by omega) (by omega) h2,mvT_len,?_⟩
 have:=nzT_mv hp g ⟨h1,h2,h3,h4⟩
 show nzT (mvT p (bst p s.T) s.T)+2≤_
 omega
theorem shF_same {p:Int} (hp:isP p=true):∀ {f g W:Nat} {s:SS},GT p W s.T→1≤s.T.length→nzT s.T≤f→nzT s.T≤g→shF p f s=shF p g s
 | 0,0,_,_,_,_,_,_=>rfl
 | 0,g+1,W,s,gt,hT,h1,h2=>by
  unfold shF
  rw[if_neg]
  intro h
  have:=(stepS_facts hp gt hT h).2.2
  omega
 | f+1,0,W,s,gt,hT,h1,h2=>by
  unfold shF
  rw[if_neg]
  intro h
  have:=(stepS_facts hp gt hT h).2.2
  omega
 | f+1,g+1,W,s,gt,hT,h1,h2=>by
  unfold shF
  by_cases h:2≤(bst p s.T).m
  ·rw[if_pos h,if_pos h]
   obtain⟨a,b,c⟩:=stepS_facts hp gt hT h
   exact shF_same hp a (by omega) (by omega) (by omega)
  ·rw[if_neg h,if_neg h]
theorem shF_go {p:Int} {W:Nat} {s:SS} (hp:isP p=true) (g:GT p W s.T) (hT:1≤s.T.length) (h:2≤(bst p s.T).m):shF p (nzT s.T) s=shF p (nzT (stepS p s).T) (stepS p s):=by
 obtain⟨a,b,c⟩:=stepS_facts hp g hT h
 obtain⟨f,hf⟩:∃ f,nzT s.T=f+1:=⟨nzT s.T-1,by omega⟩
 rw[hf]
 show (if 2≤(bst p s.T).m then shF p f (stepS p s) else s)=_
 rw[if_pos h]
 exact shF_same hp a (by omega) (by omega) (Nat.le_refl _)
def shS (p:Int) (rows:List (List Int)):SS:=shF p (nzT rows) ⟨rows,[]⟩
def shP (p n:Int) (rows:List (List Int)):Prg:=finP ⟨p,n,(shS p rows).st,[]⟩ (shS p rows).T (shS p rows).T.length
structure ShI (p:Int) (N:Nat) (rows:List (List Int)) (s:SS):Prop where
 gt:GT p (N+s.st.length) s.T
 len:s.T.length=rows.length
 nz:s.st.length+nzT s.T≤900
 eq:shF p (nzT s.T) s=shS p rows
 wid:Wid 3 s.st
theorem ShI.go {p:Int} {N:Nat} {rows:List (List Int)} {s:SS} (i:ShI p N rows s) (hp:isP p=true) (hT:1≤rows.length) (h:2≤(bst p s.T).m):ShI p N rows (stepS p s)∧nzT (stepS p s).T<nzT s.T:=by
 have hT':1≤s.T.length:=by rw[i.len];exact hT
 obtain⟨a,b,c⟩:=stepS_facts hp i.gt hT' h
 have e:(stepS p s).st.length=s.st.length+1:=by simp[stepS]
 have n:=i.nz
 refine⟨⟨by rw[e];exact a,by rw[b,i.len],by omega,by rw[←shF_go hp i.gt hT' h];exact i.eq,?_⟩,by omega⟩
 intro q hq
 rcases List.mem_append.1 (show q∈s.st++_ from hq) with hq|hq
 ·exact i.wid q hq
 ·rw[List.mem_singleton.1 hq]
  rfl
structure TabL (h:AH) (lo nb:Nat) (full:Bool) (L:List (Nat×List Int)):Prop where
 g:h.get nb=some ⟨L.map rowV,27,false,full⟩
 low:lo≤nb
 rows:∀ i (hi:i<L.length),lo≤(L[i]).1∧∃ fu,Lst h (L[i]).1 (L[i]).2 fu
 dist:∀ i j (hi:i<L.length) (hj:j<L.length),i≠j→(L[i]).1≠(L[j]).1
section
variable {h h':AH} {lo nb:Nat} {full:Bool} {L:List (Nat×List Int)}
theorem TabL.keep (s:TabL h lo nb full L) (hk:∀ m b,(b.e=2∨b.e=27)→h.get m=some b→h'.get m=some b):TabL h' lo nb full L:=
 ⟨hk _ _ (.inr rfl) s.g,s.low,fun i hi=>⟨(s.rows i hi).1,by obtain⟨fu,o⟩:=(s.rows i hi).2;exact⟨fu,hk _ _ (.inl rfl) o⟩⟩,s.dist⟩
theorem TabL.pre (s:TabL h lo nb full L) (p:h<+:h'):TabL h' lo nb full L:=s.keep fun m b _ g=>pre_get p g
theorem TabL.put (s:TabL h lo nb full L) {n:Nat} {b b':Blk} (g:h.get n=some b') (hb:b'.e≠2∧b'.e≠27):TabL (h.put n b) lo nb full L:=s.keep fun m c hc g'=>by
 rw[get_put_ne]
 ·exact g'
 ·rintro rfl
  rw[g] at g'
  cases g'
  rcases hc with hc|hc
  ·exact hb.1 hc
  ·exact hb.2 hc
theorem TabL.rd (s:TabL h lo nb full L) {i:Nat} (hi:i<L.length):h.rd1 nb i=some (sl (L[i]).1 (L[i]).2.length):=by
 rw[rd1_of s.g]
 simp[hi,rowV,sl]
theorem TabL.ne (s:TabL h lo nb full L) {i:Nat} (hi:i<L.length):(L[i]).1≠nb:=by
 obtain⟨fu,o⟩:=(s.rows i hi).2
 intro e
 have g:=s.g
 unfold Lst at o
 rw[e,g] at o
 have:=congrArg (fun b:Option Blk=>b.map (·.e)) o
 simp at this
theorem TabL.vals (s:TabL h lo nb full L):Vals h (sl nb L.length) (L.map rowV):=by
 refine .inr ⟨nb,0,_,?_,s.g,by simp,fun i hi=>?_⟩
 ·simp[sl]
 ·rw[Nat.zero_add,List.getD_eq_getElem?_getD,List.getElem?_eq_getElem hi]
  rfl
theorem TabL.at (s:TabL h lo nb full L) {i:Nat} (hi:i<L.length):Ints h ((L.map rowV).getD i undef) ((L.map Prod.snd).getD i []):=by
 obtain⟨fu,o⟩:=(s.rows i hi).2
 have e1:(L.map rowV).getD i undef=sl (L[i]).1 (L[i]).2.length:=by simp[List.getD_eq_getElem?_getD,hi,rowV,sl]
 have e2:(L.map Prod.snd).getD i []=(L[i]).2:=by simp[List.getD_eq_getElem?_getD,hi]
 rw[e1,e2]
 exact o.ints
theorem TabL.upd (s:TabL h lo nb full L) {i n':Nat} {r':List Int} {fu':Bool} (hi:i<L.length) (hl:Lst h' n' r' fu') (hlo:lo≤n') (hg:h'.get nb=some ⟨(L.set i (n',r')).map rowV,27,false,full⟩)
  (ho:∀ j (hj:j<L.length),j≠i→∀ fu,Lst h (L[j]).1 (L[j]).2 fu→Lst h' (L[j]).1 (L[j]).2 fu) (hd:∀ j (hj:j<L.length),j≠i→(L[j]).1≠n'):TabL h' lo nb full (L.set i (n',r')):=by
 refine⟨hg,s.low,fun j hj=>?_,fun a b ha hb hab=>?_⟩
 ·have hj':j<L.length:=by simpa using hj
  rw[List.getElem_set]
  split
  ·exact⟨hlo,fu',hl⟩
  ·rename_i hne
   obtain⟨q1,fu,o⟩:=s.rows j hj'
   exact⟨q1,fu,ho j hj' (fun e=>hne e.symm) fu o⟩
 ·have ha':a<L.length:=by simpa using ha
  have hb':b<L.length:=by simpa using hb
  rw[List.getElem_set,List.getElem_set]
  by_cases h1:i=a
  ·rw[if_pos h1,if_neg (by omega)]
   exact fun e=>hd b hb' (by omega) e.symm
  ·rw[if_neg h1]
   by_cases h2:i=b
   ·rw[if_pos h2]
    exact hd a ha' (by omega)
   ·rw[if_neg h2]
    exact s.dist a b ha' hb' hab
theorem TabL.cell (s:TabL h lo nb full L) {i c n:Nat} {r:List Int} {fu:Bool} {x:Int} (hi:i<L.length) (hL:L[i]=(n,r)) (o:Lst h n r fu) :
  TabL (h.put n ⟨(r.set c x).map (Value.int .i64),2,false,fu⟩) lo nb full (L.set i (n,r.set c x)):=by
 have hne:=s.ne hi
 have hr:=(s.rows i hi).1
 rw[hL] at hne hr
 refine s.upd hi (fu':=fu) (get_put_same o.lt) hr ?_ (fun j hj hji fu' o'=>?_) (fun j hj hji=>?_)
 ·rw[get_put_ne hne,s.g]
  congr 2
  rw[List.map_set]
  have:rowV (n,r.set c x)=(L.map rowV)[i]'(by simpa using hi):=by
   rw[List.getElem_map,hL]
   simp[rowV]
  rw[this,List.set_getElem_self]
 ·have:=s.dist i j hi hj (fun e=>hji e.symm)
  rw[hL] at this
  exact o'.put_ne this
 ·have:=s.dist j i hj hi hji
  rw[hL] at this
  exact this
theorem TabL.store (s:TabL h lo nb full L) {i n n':Nat} {r r':List Int} (hi:i<L.length) (hL:L[i]=(n,r)) (hk:∀ m b,m≠n→h.get m=some b→h'.get m=some b) (hl:Lst h' n' r' false) (hn':h.length≤n') (hlo:lo≤h.length) :
  h'.wr nb i [sl n' r'.length]=some (h'.put nb ⟨(L.set i (n',r')).map rowV,27,false,full⟩)∧TabL (h'.put nb ⟨(L.set i (n',r')).map rowV,27,false,full⟩) lo nb full (L.set i (n',r')):=by
 have hne:=s.ne hi
 rw[hL] at hne
 have g':=hk _ _ hne.symm s.g
 have ltn:∀ j (hj:j<L.length),(L[j]).1<h.length:=fun j hj=>by
  obtain⟨fu,o⟩:=(s.rows j hj).2
  exact o.lt
 have lnb:=get_lt s.g
 constructor
 ·rw[wr_of g',if_pos ⟨rfl,by simp only[List.length_map,List.length_singleton];omega⟩]
  congr 3
  rw[splice_set (by simpa using hi),List.map_set]
  rfl
 ·refine s.upd hi (fu':=false) (hl.put_ne (by omega)) (by omega) (get_put_same (get_lt g')) (fun j hj hji fu' o'=>?_) (fun j hj hji=>by have:=ltn j hj;omega)
  have hd:=s.dist i j hi hj (fun e=>hji e.symm)
  rw[hL] at hd
  have o2:Lst h' (L[j]).1 (L[j]).2 fu':=hk _ _ hd.symm o'
  exact o2.put_ne (s.ne hj).symm
theorem TabL.app {n:Nat} {fu fw:Bool} {r:List Int} {e:TypeId} {h2:AH} (s:TabL h2 lo nb full L) (hn:lo≤n) (hd:∀ j (hj:j<L.length),(L[j]).1≠n) (ob:Lst h2 n r fw) (hlo:lo≤h2.length)
  (hl:(L.length:Int)≤1048576) {Q:Value→AH→Prop}
  (hQ:∀ H':AH,H'.length=h2.length+2→TabL H' lo (h2.length+1) false (L++[(n,r)])→(∀ m b,m≠nb→h2.get m=some b→H'.get m=some b)→(∀ h9:AH,h9.length≤nb→h9<+:h2→h9<+:H')→Q (sl (h2.length+1) (L++[(n,r)]).length) H') :
  OQ (appV 27 1 24 (sl nb L.length) (.slice (some ⟨h2.length,0,none⟩) 1 1) (h2.new ⟨[sl n r.length],e,false,fu⟩)) Q:=by
 have hrd:(h2.new ⟨[.slice (some ⟨n,0,none⟩) r.length 1],e,false,fu⟩).rdn h2.length 0 1=some [.slice (some ⟨n,0,none⟩) r.length 1]:=by rw[rdn_new_same];rfl
 have hk:(h2.new ⟨[.slice (some ⟨n,0,none⟩) r.length 1],e,false,fu⟩).get nb=some ⟨L.map rowV,27,false,full⟩:=get_new_any s.g
 have l1:=get_lt s.g
 have keep:∀ m b,m≠nb→h2.get m=some b→(((h2.new ⟨[.slice (some ⟨n,0,none⟩) r.length 1],e,false,fu⟩).kill nb).new ⟨L.map rowV++[.slice (some ⟨n,0,none⟩) r.length 1],27,false,false⟩).get m=some b:=fun m b hm g=>get_new_any (by rw[get_kill_ne (fun e=>hm e.symm)];exact get_new_any g)
 unfold sl at hQ ⊢
 rw[app_own hk (by simp) hrd (by omega),OQ_some]
 have:=hQ _ (by rw[len_new,len_kill,len_new]) ?_ keep (fun h9 hh p=>pre_new (pre_kill (pre_new p) hh))
 ·rw[len_new]
  rw[List.length_append,List.length_singleton] at this
  exact this
 ·refine⟨by rw[get_new_eq (by rw[len_kill,len_new])];simp[rowV],by omega,fun i hi=>?_,fun a b ha hb hab=>?_⟩
  ·by_cases hiL:i<L.length
   ·rw[List.getElem_append_left hiL]
    obtain⟨q1,fq,o⟩:=s.rows i hiL
    exact⟨q1,fq,keep _ _ (s.ne hiL) o⟩
   ·have e1:i=L.length:=by simp at hi;omega
    subst e1
    rw[List.getElem_append_right (Nat.le_refl _)]
    simp only[Nat.sub_self,List.getElem_cons_zero]
    refine⟨hn,fw,keep _ _ ?_ ob⟩
    rintro rfl
    have g:=s.g
    unfold Lst at ob
    rw[g] at ob
    have:=congrArg (fun b:Option Blk=>b.map (·.e)) ob
    simp at this
  ·by_cases ha':a<L.length
   ·rw[List.getElem_append_left ha']
    by_cases hb':b<L.length
    ·rw[List.getElem_append_left hb']
     exact s.dist a b ha' hb' hab
    ·have e1:b=L.length:=by simp at hb;omega
     subst e1
     rw[List.getElem_append_right (Nat.le_refl _)]
     simp only[Nat.sub_self,List.getElem_cons_zero]
     exact hd a ha'
   ·have e1:a=L.length:=by simp at ha;omega
    subst e1
    have hb':b<L.length:=by simp at hb;omega
    rw[List.getElem_append_right (Nat.le_refl _),List.getElem_append_left hb']
    simp only[Nat.sub_self,List.getElem_cons_zero]
    exact (hd b hb').symm
end
structure StayT (lo:Nat) (h h':AH):Prop where
 len:h.length≤h'.length
 pre:∀ h0:AH,h0.length≤lo→h0<+:h→h0<+:h'
 get:∀ m b,h.get m=some b→b.e≠2→b.e≠27→h'.get m=some b
theorem StayT.refl {lo:Nat} {h:AH}:StayT lo h h:=⟨Nat.le_refl _,fun _ _ p=>p,fun _ _ g _ _=>g⟩
theorem StayT.of {lo:Nat} {h h':AH} (p:h<+:h'):StayT lo h h':=⟨pre_len p,fun _ _ q=>q.trans p,fun _ _ g _ _=>pre_get p g⟩
theorem StayT.trans {lo:Nat} {h h1 h2:AH} (a:StayT lo h h1) (b:StayT lo h1 h2):StayT lo h h2:=
 ⟨Nat.le_trans a.len b.len,fun h0 hl p=>b.pre h0 hl (a.pre h0 hl p),fun m c g h1 h2=>b.get m c (a.get m c g h1 h2) h1 h2⟩
theorem StayT.put {lo n:Nat} {h:AH} {b b':Blk} (g:h.get n=some b') (hb:b'.e=2∨b'.e=27) (hlo:lo≤n):StayT lo h (h.put n b):=
 ⟨by rw[len_put];exact Nat.le_refl _,fun h0 hl p=>pre_put p (by omega),fun m c g' h1 h2=>by
  rw[get_put_ne]
  ·exact g'
  ·rintro rfl
   rw[g] at g'
   cases g'
   rcases hb with hb|hb
   ·exact h1 hb
   ·exact h2 hb⟩
structure StayI (lo:Nat) (h h':AH):Prop where
 len:h.length≤h'.length
 pre:∀ h0:AH,h0.length≤lo→h0<+:h→h0<+:h'
 get:∀ m b,h.get m=some b→(b.e=2∨b.e=27)→h'.get m=some b
theorem StayI.refl {lo:Nat} {h:AH}:StayI lo h h:=⟨Nat.le_refl _,fun _ _ p=>p,fun _ _ g _=>g⟩
theorem StayI.trans {lo:Nat} {h h1 h2:AH} (a:StayI lo h h1) (b:StayI lo h1 h2):StayI lo h h2:=
 ⟨Nat.le_trans a.len b.len,fun h0 hl p=>b.pre h0 hl (a.pre h0 hl p),fun m c g h1=>b.get m c (a.get m c g h1) h1⟩
theorem StayI.put {lo n:Nat} {h:AH} {b b':Blk} (g:h.get n=some b') (hb:b'.e≠2∧b'.e≠27) (hlo:lo≤n):StayI lo h (h.put n b):=
 ⟨by rw[len_put];exact Nat.le_refl _,fun h0 hl p=>pre_put p (by omega),fun m c g' h1=>by
  rw[get_put_ne]
  ·exact g'
  ·rintro rfl
   rw[g] at g'
   cases g'
   rcases h1 with h1|h1
   ·exact hb.1 h1
   ·exact hb.2 h1⟩
def Col (T:List (List Int)) (i:Nat) (q:List Int):Prop:=q.length=5∧∀ x:Nat,1≤x→x<5→q.getD x 0=((bs T.length fun k=>decide (tb T k i=x):Nat):Int)
theorem Col.at {T:List (List Int)} {i x:Nat} {q:List Int} (c:Col T i q) (h:1≤x∧x<5):(cel .u32 q)[x]?=some (U32 (bs T.length fun k=>decide (tb T k i=x))):=by
 rw[cel_get (by rw[c.1];exact h.2),c.2 x h.1 h.2]
 rfl
theorem ixa_u {n off len:Nat} {kk:IntKind} {j:Nat} (h:j<len):ixaV len 1 (.pointer (some ⟨n,off,none⟩)) (.int kk (j:Int))=some (.pointer (some ⟨n,off+j,none⟩)):=by
 rw[ixaV_ptr (by omega),Int.toNat_natCast,Nat.mul_one]
theorem flat_cell {w c x:Nat} {L:List (List Int)} {v:Int} (hw:Wid w L) (hc:c<L.length) (hx:x<w):L.flatten.set (c*w+x) v=(L.set c ((L.getD c []).set x v)).flatten:=by
 have hq:(L.getD c []).length=w:=by
  rw[List.getD_eq_getElem?_getD,List.getElem?_eq_getElem hc]
  exact hw _ (List.getElem_mem hc)
 have e0:=flat_set (r:=L.getD c []) hw hc
 have e1:=flat_set (r:=(L.getD c []).set x v) hw hc
 have es:L.set c (L.getD c [])=L:=by
  rw[List.getD_eq_getElem?_getD,List.getElem?_eq_getElem hc]
  exact List.set_getElem_self hc
 rw[es] at e0
 have hrow:=mul_row (w:=w) hc
 have hl:(L.flatten.take (c*w)).length=c*w:=by
  rw[List.length_take,flat_len hw]
  omega
 rw[←e1]
 conv=>lhs;rw[←e0]
 rw[List.set_append_left _ _ (by rw[List.length_append,hl,hq];omega),List.set_append_right _ _ (by rw[hl];omega),hl,show c*w+x-c*w=x by omega]
structure ColT (h:AH) (nb:Nat) (full:Bool) (L:List (List Int)):Prop where
 g:h.get nb=some ⟨cel .u32 L.flatten,246,false,full⟩
 wid:Wid 5 L
def tv (nb len:Nat):Value:=.slice (some ⟨nb,0,none⟩) len 5
section
variable {h h':AH} {nb:Nat} {full:Bool} {L:List (List Int)}
theorem ColT.pre (o:ColT h nb full L) (p:h<+:h'):ColT h' nb full L:=⟨pre_get p o.g,o.wid⟩
theorem ColT.put_ne {m:Nat} {b:Blk} (o:ColT h nb full L) (e:m≠nb):ColT (h.put m b) nb full L:=⟨by rw[get_put_ne e];exact o.g,o.wid⟩
theorem ColT.get (o:ColT h nb full L) (hk:h'.get nb=h.get nb):ColT h' nb full L:=⟨by rw[hk];exact o.g,o.wid⟩
theorem ColT.ix {c len:Nat} {kk:IntKind} (hc:c<len):ixsV 5 (tv nb len) (.int kk (c:Int))=some (.pointer (some ⟨nb,c*5,none⟩)):=by
 unfold tv
 rw[ixsV_some,if_pos (by omega)]
 simp
theorem ColT.row (o:ColT h nb full L) {c:Nat} (hc:c<L.length):(L.getD c []).length=5:=by
 rw[List.getD_eq_getElem?_getD,List.getElem?_eq_getElem hc]
 exact o.wid _ (List.getElem_mem hc)
theorem ColT.rd (o:ColT h nb full L) {c x:Nat} (hc:c<L.length) (hx:x<5):h.rd1 nb (c*5+x)=some (.int .u32 ((L.getD c []).getD x 0)):=by
 rw[rd1_of o.g]
 have hf:=flat_len o.wid
 have hrow:=mul_row (w:=5) hc
 show (cel .u32 L.flatten)[c*5+x]?=_
 rw[cel_get (by omega)]
 have hg:=flat_get o.wid hc
 rw[←hg]
 rw[List.getD_eq_getElem?_getD,List.getD_eq_getElem?_getD,List.getElem?_take,if_pos hx,List.getElem?_drop]
theorem ColT.rdn (o:ColT h nb full L) {c:Nat} (hc:c<L.length):h.rdn nb (c*5) 5=some (cel .u32 (L.getD c [])):=by
 rw[rdn_of o.g]
 have hf:=flat_len o.wid
 have hrow:=mul_row (w:=5) hc
 show (if c*5+5≤(cel .u32 L.flatten).length then some (((cel .u32 L.flatten).drop (c*5)).take 5) else none)=_
 rw[if_pos (by rw[cel_len];omega),cel_drop,cel_take,flat_get o.wid hc]
theorem ColT.wr (o:ColT h nb full L) {c x:Nat} {v:Int} (hc:c<L.length) (hx:x<5) :
  ∃ h',h.wr nb (c*5+x) [.int .u32 v]=some h'∧h'=h.put nb ⟨cel .u32 (L.set c ((L.getD c []).set x v)).flatten,246,false,full⟩∧ColT h' nb full (L.set c ((L.getD c []).set x v)):=by
 have hf:=flat_len o.wid
 have hrow:=mul_row (w:=5) hc
 refine⟨_,?_,rfl,get_put_same (get_lt o.g),?_⟩
 ·rw[wr_of o.g,if_pos ⟨rfl,by simp only[cel_len,List.length_singleton];omega⟩,cel_set (by omega),flat_cell o.wid hc hx]
 ·intro q hq
  rcases List.mem_or_eq_of_mem_set hq with hq|rfl
  ·exact o.wid q hq
  ·rw[List.length_set]
   exact o.row hc
theorem ColT.els (o:ColT h nb full L):Els .u32 5 h (tv nb L.length) L:=by
 refine .inr ⟨nb,0,_,rfl,o.g,fun i hi=>?_⟩
 have:=mul_row (w:=5) hi
 simp only[cel_len,flat_len o.wid,Nat.zero_add,cel_drop,cel_take,flat_get o.wid hi]
 exact⟨by omega,trivial⟩
theorem ColT.way (o:ColT h nb full L) {lo:Nat} {ex:List Nat} (h1:lo≤nb) (h2:nb∉ex):WayX (246) .u32 5 h lo ex (tv nb L.length) L:=⟨o.wid,.inr ⟨nb,full,rfl,h1,h2,o.g⟩⟩
end
section
variable {rows:List (List Int)} {N i c:Nat}
end
section
variable {p:Int} {T:List (List Int)} {s:BS}
end
def lsF (x:Sch) (i n:Nat):List (List Int):=x.ps.map fun q=>(seg q i).take n
def fmX (x:Sch) (i:Nat):List (List Int):=if i=2 then trL (lsF x 2 (x.n*x.k).toNat) (x.n*x.k).toNat else lsF x i (pl x i).toNat
def nuX (x:Sch) (i:Nat):Int:=if i=2 then x.ps.length else pl x i
def pgO (p n:Int) (rows:List (List Int)) (b:Bool):Prg:=if b=true then shP p n rows else finP ⟨p,n,[],[]⟩ rows rows.length
def pgX (x:Sch) (b:Bool) (i:Nat):Prg:=pgO x.p (nuX x i) (fmX x i) b
theorem isX_facts {x:Sch} (h:isX x=true):SZ x∧isP x.p=true∧x.ps.length≤30∧∀ j,j<x.ps.length→okProd x (x.ps.getD j [])=true:=by
 unfold isX at h
 simp only[Bool.and_eq_true,decide_eq_true_eq] at h
 obtain⟨⟨h1,h2⟩,h3⟩:=h
 refine⟨szX_facts h1,?_,h2,fun j hj=>?_⟩
 ·unfold szX at h1
  simp only[Bool.and_eq_true] at h1
  exact h1.1.1.1
 ·rw[List.all_eq_true] at h3
  refine h3 _ ?_
  rw[List.getD_eq_getElem?_getD,List.getElem?_eq_getElem hj]
  exact List.getElem_mem hj
end Go.Proofs.Ytapafdpnmakekaa.X

set_option linter.unusedVariables false
set_option linter.unusedSimpArgs false
set_option maxRecDepth 20000
set_option maxHeartbeats 4000000
namespace Go.Proofs.Ytapafdpnmakekaa.X
open Go Go.RowKit
open Nat (reduceEqDiff reduceAdd reduceSub reduceLeDiff)
theorem wrap8_in {x:Int} (h0:0≤x) (h1:x≤255):IntKind.u8.wrap x=x:=by
 simp only[IntKind.wrap]
 have:IntKind.u8.bits=8:=rfl
 rw[this,show IntKind.u8.signed=false from rfl,Bool.false_and,if_neg (by decide)]
 omega
theorem By.set {w:Nat} {q:List Int} {j:Nat} {x:Int} (hq:By w q) (hx:0≤x∧x≤255) (hj:j<w):By w (q.set j x):=by
 refine⟨by rw[List.length_set];exact hq.1,fun i hi=>?_⟩
 rw[set_getD (by rw[hq.1];exact hj)]
 split
 ·exact hx
 ·exact hq.2 i hi
def FQ (p m:Int) (q:List Int):Prop:=By 9 q∧okForm p m q=true
theorem okForm_at {p m:Int} {q:List Int} (h:okForm p m q=true) {j:Nat} (hj:j<9):q.getD j 0<p∧(m≤(j:Int)→q.getD j 0=0):=by
 unfold okForm at h
 have:=List.all_eq_true.1 h j (List.mem_range.2 hj)
 exact of_decide_eq_true this
theorem FQ.set {p m:Int} {q:List Int} {j:Nat} {x:Int} (f:FQ p m q) (hp:p≤255) (hx:0≤x∧x<p) (hj:j<9) (hm:(j:Int)<m):FQ p m (q.set j x):=by
 refine⟨f.1.set ⟨hx.1,by omega⟩ hj,okForm_t fun i hi=>?_⟩
 have:=okForm_at f.2 hi
 refine decide_eq_true ?_
 rw[set_getD (by rw[f.1.1];exact hj)]
 split
 ·exact⟨hx.2,fun h=>by omega⟩
 ·exact this
theorem FQ.zero {p m:Int} (hp:1≤p):FQ p m z9:=by
 have hz:∀ j,z9.getD j 0=0:=fun j=>by
  show (List.replicate 9 (0:Int)).getD j 0=0
  rw[List.getD_eq_getElem?_getD,List.getElem?_replicate]
  split<;>rfl
 refine⟨⟨rfl,fun j _=>by rw[hz];omega⟩,okForm_t fun j hj=>decide_eq_true ?_⟩
 rw[hz]
 omega
theorem isZ_set {q:List Int} {j:Nat} {x:Int} (hq:q.length=9) (hj:j<9) (hx:x≠0):isZ (q.set j x)=false:=by
 cases e:isZ (q.set j x) with
 | false=>rfl
 | true=>
  exfalso
  have h1:q.set j x=z9:=by simpa [isZ] using e
  have h2:(q.set j x).getD j 0=x:=by rw[set_getD (by omega),if_pos rfl]
  rw[h1] at h2
  have:z9.getD j 0=0:=by
   show (List.replicate 9 (0:Int)).getD j 0=0
   rw[List.getD_eq_getElem?_getD,List.getElem?_replicate]
   split<;>rfl
  omega
theorem Kp.len {n:Nat} {h h':AH} (k:Kp n h h'):h.length≤h'.length:=k.1
theorem sp9:splice (cel .u8 (List.replicate 9 0)) 0 (cel .u8 (List.replicate 9 0))=cel .u8 z9:=rfl
theorem s_l01DrawForm {h0 h:AH} {n w:Nat} {p:Int} {Q:Value→AH→Prop} (s:Src h0 h n) (hp:2≤p∧p≤5) (hw:1≤w∧w≤9)
  (hQ:∀ q h',Kp n h h'→Src h0 h' n→FQ p w q→isZ q=false→Q (aggV .u8 q) h'):WF S 334 [srcP n,I64 p,I64 w] h Q:=by
 refine WF_fn (fn:=c334) rfl rfl ?_
 dsimp only[c334,oO,oM,oS,oG,oK,oE,oL,oF,oX,oN]
 have lt:=s.lt
 ((try simp (maxSteps:=3000000) (dsimp:=false) (disch:=first|omega|simp only[lnx];omega) only[↓ypre,ypost,↓reduceIte,reduceEqDiff,reduceAdd,reduceSub,reduceLeDiff,zz0,ynew,zeros9,fillL]);try simp only[yback])
 generalize hH1:AH.new h _=H1
 obtain⟨hb1,p1,n1⟩:=new_facts hH1
 ((try simp (maxSteps:=3000000) (dsimp:=false) (disch:=first|omega|simp only[lnx];omega) only[↓ypre,ypost,↓reduceIte,reduceEqDiff,reduceAdd,reduceSub,reduceLeDiff,zz0,ynew,zeros9,cel_len,List.length_replicate,cel_all,sp9]);try simp only[yback])
 generalize hH2:AH.new H1 _=H2
 obtain⟨hb2,p2,n2⟩:=new_facts hH2
 refine WC_loop_inv (fun m f K1=>∃ (i:Nat) (q:List Int),m=w-i∧i≤w∧f 0=srcP n∧f 1=I64 p∧f 2=I64 w∧f 6=.pointer (some ⟨h.length,0,none⟩)∧f 7=.pointer (some ⟨H1.length,0,none⟩)∧f 8=I64 i∧(Kp n h K1)∧(Src h0 K1 n)∧(FQ p w q)∧(K1.get h.length=some ⟨cel .u8 (List.replicate 9 0),136,false,true⟩)∧(K1.get H1.length=some ⟨cel .u8 q,136,false,true⟩)) ?_ (w-0) _ _ ⟨0,z9,rfl,by omega,(by first|rfl|simp[upd_apply]),(by first|rfl|simp[upd_apply]),(by first|rfl|simp[upd_apply]),(by first|rfl|simp[upd_apply]),(by first|rfl|simp[upd_apply]),(by first|rfl|simp[upd_apply]),Kp.of (p1.trans p2),s.kp (p1.trans p2),FQ.zero (by omega),pre_get p2 hb1,hb2⟩
 rintro m f K1 ⟨i,q,rfl,hi,f0,f1,f2,f6,f7,f8,kk,ss,fq,hg1,hg2⟩
 have q9:=fq.1.1
 by_cases hlt:(i:Int)<w
 ·((try simp (maxSteps:=3000000) (dsimp:=false) (disch:=first|omega|simp only[lnx];omega) only[↓ypre,ypost,↓reduceIte,reduceEqDiff,reduceAdd,reduceSub,reduceLeDiff,zz0,ynew,f0,f1,f2,f6,f7,f8,decide_eq_true hlt]);try simp only[yback])
  refine s_l01Next ss fun r h1 k1 l1 s1 hr _=>?_
  have g1:=k1.get (by omega) hg1
  have g2:=k1.get (by omega) hg2
  by_cases h0':r=0
  ·((try simp (maxSteps:=3000000) (dsimp:=false) (disch:=first|omega|simp only[lnx];omega) only[↓ypre,ypost,↓reduceIte,reduceEqDiff,reduceAdd,reduceSub,reduceLeDiff,zz0,ynew,f0,f1,f2,f6,f7,f8,decide_eq_true h0']);try simp only[yback])
   refine s_l01Next s1 fun r2 h2 k2 l2 s2 hr2 _=>?_
   have g1:=k2.get (by omega) g1
   have g2:=k2.get (by omega) g2
   have hr2:=hr2 (by omega)
   have st:=cel_set (k:=.u8) (q:=q) (j:=i) (x:=r2) (by omega)
   ((try simp (maxSteps:=3000000) (dsimp:=false) (disch:=first|omega|simp only[lnx];omega) only[↓ypre,ypost,↓reduceIte,reduceEqDiff,reduceAdd,reduceSub,reduceLeDiff,zz0,ynew,f0,f1,f2,f6,f7,f8,wrap8_in,↓WX_ixa,ixaV_ptr,Int.toNat_natCast,Nat.mul_one,wr_of g2,st,cel_len,q9]);try simp only[yback])
   refine⟨by omega,?_⟩
   ((try simp (maxSteps:=3000000) (dsimp:=false) (disch:=first|omega|simp only[lnx];omega) only[↓ypre,ypost,↓reduceIte,reduceEqDiff,reduceAdd,reduceSub,reduceLeDiff,zz0,ynew,f0,f1,f2,f6,f7,f8,wrap64_in]);try simp only[yback])
   refine InvQ_go (w-(i+1)) (by omega) ⟨(i+1),(_),rfl,by omega,(by first|rfl|exact f0|(simp only[upd_apply];rfl)|(show I64 _=_;congr 1;omega)),(by first|rfl|exact f1|(simp only[upd_apply];rfl)|(show I64 _=_;congr 1;omega)),(by first|rfl|exact f2|(simp only[upd_apply];rfl)|(show I64 _=_;congr 1;omega)),(by first|rfl|exact f6|(simp only[upd_apply];rfl)|(show I64 _=_;congr 1;omega)),(by first|rfl|exact f7|(simp only[upd_apply];rfl)|(show I64 _=_;congr 1;omega)),(by first|rfl|exact f8|(simp only[upd_apply];rfl)|(show I64 _=_;congr 1;omega)),((kk.trans (k1.trans k2)).putb (by omega)),(s2.putb (by omega) (by have:=pre_len s.p;omega)),(fq.set (by omega) hr2 (by omega) (by omega)),(by rw[get_put_ne (by omega)];exact g1),(get_put_same (get_lt g2))⟩
  ·((try simp (maxSteps:=3000000) (dsimp:=false) (disch:=first|omega|simp only[lnx];omega) only[↓ypre,ypost,↓reduceIte,reduceEqDiff,reduceAdd,reduceSub,reduceLeDiff,zz0,ynew,f0,f1,f2,f6,f7,f8,decide_eq_false h0',wrap64_in]);try simp only[yback])
   refine InvQ_go (w-(i+1)) (by omega) ⟨(i+1),(_),rfl,by omega,(by first|rfl|exact f0|(simp only[upd_apply];rfl)|(show I64 _=_;congr 1;omega)),(by first|rfl|exact f1|(simp only[upd_apply];rfl)|(show I64 _=_;congr 1;omega)),(by first|rfl|exact f2|(simp only[upd_apply];rfl)|(show I64 _=_;congr 1;omega)),(by first|rfl|exact f6|(simp only[upd_apply];rfl)|(show I64 _=_;congr 1;omega)),(by first|rfl|exact f7|(simp only[upd_apply];rfl)|(show I64 _=_;congr 1;omega)),(by first|rfl|exact f8|(simp only[upd_apply];rfl)|(show I64 _=_;congr 1;omega)),(kk.trans k1),s1,fq,g1,g2⟩
 ·((try simp (maxSteps:=3000000) (dsimp:=false) (disch:=first|omega|simp only[lnx];omega) only[↓ypre,ypost,↓reduceIte,reduceEqDiff,reduceAdd,reduceSub,reduceLeDiff,zz0,ynew,f0,f1,f2,f6,f7,f8,decide_eq_false hlt]);try simp only[yback])
  have t9:∀ q:List Int,q.length=9→(cel .u8 q).take 9=cel .u8 q:=fun q h=>List.take_of_length_le (by rw[cel_len,h];exact Nat.le_refl _)
  have fin:∀ (q':List Int) (h':AH),FQ p w q'→isZ q'=false→Kp n h h'→Src h0 h' n→h'.get h.length=some ⟨cel .u8 (List.replicate 9 0),136,false,true⟩ →
    Q (aggV .u8 q') (h'.put h.length ⟨cel .u8 q',136,false,true⟩):=fun q' h' fq' z kp' ss' g=>
   hQ q' _ (kp'.putb (Nat.le_refl _)) (ss'.putb (by omega) (pre_len s.p)) fq' z
  ((try simp (maxSteps:=3000000) (dsimp:=false) (disch:=first|omega|simp only[lnx];omega) only[↓ypre,ypost,↓reduceIte,reduceEqDiff,reduceAdd,reduceSub,reduceLeDiff,zz0,ynew,f0,f1,f2,f6,f7,f8,rdn_of hg2,cel_len,q9,t9]);try simp only[yback])
  refine s_l01Zero q9 fun h1 p1'=>?_
  have g1:=pre_get p1' hg1
  have g2:=pre_get p1' hg2
  cases z:isZ q with
  | true=>
   ((try simp (maxSteps:=3000000) (dsimp:=false) (disch:=first|omega|simp only[lnx];omega) only[↓ypre,ypost,↓reduceIte,reduceEqDiff,reduceAdd,reduceSub,reduceLeDiff,zz0,ynew,f0,f1,f2,f6,f7,f8]);try simp only[yback])
   refine s_l01Next (ss.kp p1') fun r h2 k2 l2 s2 hr _=>?_
   ((try simp (maxSteps:=3000000) (dsimp:=false) (disch:=first|omega|simp only[lnx];omega) only[↓ypre,ypost,↓reduceIte,reduceEqDiff,reduceAdd,reduceSub,reduceLeDiff,zz0,ynew,f0,f1,f2,f6,f7,f8,wrap64_in]);try simp only[yback])
   refine s_l01Next s2 fun r2 h3 k3 l3 s3 hr2 _=>?_
   have g1:=(k2.trans k3).get (by omega) g1
   have g2:=(k2.trans k3).get (by omega) g2
   have hr:=hr (by omega)
   have hr2:=hr2 (by omega)
   obtain⟨j,rfl⟩:∃ j:Nat,r=j:=⟨r.toNat,by omega⟩
   have st:=cel_set (k:=.u8) (q:=q) (j:=j) (x:=1+r2) (by omega)
   ((try simp (maxSteps:=3000000) (dsimp:=false) (disch:=first|omega|simp only[lnx];omega) only[↓ypre,ypost,↓reduceIte,reduceEqDiff,reduceAdd,reduceSub,reduceLeDiff,zz0,ynew,f0,f1,f2,f6,f7,f8,wrap64_in,wrap8_in,↓WX_ixa,ixaV_ptr,Int.toNat_natCast,Nat.mul_one,wr_of g2,st,cel_len,q9]);try simp only[yback])
   refine⟨by omega,?_⟩
   have fq':FQ p w (q.set j (1+r2)):=fq.set (by omega) (by omega) (by omega) (by omega)
   generalize hP:AH.put h3 _ _=H5
   have g5:H5.get H1.length=some ⟨cel .u8 (q.set j (1+r2)),136,false,true⟩:=by rw[←hP];exact get_put_same (get_lt g2)
   have g51:H5.get h.length=some ⟨cel .u8 (List.replicate 9 0),136,false,true⟩:=by rw[←hP,get_put_ne (by omega)];exact g1
   have w5:=wr_full (vs:=cel .u8 (q.set j (1+r2))) g51 (by rw[cel_len,cel_len,fq'.1.1];rfl)
   have s5:Src h0 H5 n:=by rw[←hP];exact s3.putb (by omega) (by have:=pre_len s.p;omega)
   have k5:Kp n h H5:=by rw[←hP];exact (((kk.trans (Kp.of p1')).trans k2).trans k3).putb (by omega)
   have lg:=get_lt g51
   have l9:=fq'.1.1
   ((try simp (maxSteps:=3000000) (dsimp:=false) (disch:=first|omega|simp only[lnx];omega) only[↓ypre,ypost,↓reduceIte,reduceEqDiff,reduceAdd,reduceSub,reduceLeDiff,zz0,ynew,f0,f1,f2,f6,f7,f8,rdn_of g5,cel_len,l9,t9,cel_all,w5,rdn_put_same]);try simp only[yback])
   exact fin _ _ fq' (isZ_set q9 (by omega) (by omega)) k5 s5 g51
  | false=>
   have w5:=wr_full (vs:=cel .u8 q) g1 (by rw[cel_len,cel_len,q9];rfl)
   have lg:=get_lt g1
   ((try simp (maxSteps:=3000000) (dsimp:=false) (disch:=first|omega|simp only[lnx];omega) only[↓ypre,ypost,↓reduceIte,reduceEqDiff,reduceAdd,reduceSub,reduceLeDiff,zz0,ynew,f0,f1,f2,f6,f7,f8,rdn_of g2,cel_len,q9,t9,cel_all,w5,rdn_put_same]);try simp only[yback])
   exact fin _ _ fq z (kk.trans (Kp.of p1')) (ss.kp p1') g1
end Go.Proofs.Ytapafdpnmakekaa.X

set_option linter.unusedVariables false
set_option linter.unusedSimpArgs false
set_option maxRecDepth 20000
set_option maxHeartbeats 4000000
namespace Go.Proofs.Ytapafdpnmakekaa.X
open Go Go.RowKit
theorem isX_sz {x:Sch} (h:isX x=true):SZ x∧x.ps.length≤30:=by
 unfold isX at h
 simp only[Bool.and_eq_true,decide_eq_true_eq] at h
 exact⟨szX_facts h.1.1,h.1.2⟩
end Go.Proofs.Ytapafdpnmakekaa.X

set_option linter.unusedVariables false
set_option linter.unusedSimpArgs false
set_option maxRecDepth 20000
set_option maxHeartbeats 4000000
namespace Go.Proofs.Ytapafdpnmakekaa.X
open Go Go.RowKit
open Nat (reduceEqDiff reduceAdd reduceSub reduceLeDiff)
theorem i_areSchemes {v u:Value} {t s:Sch} {h:AH} {n:Nat} {e:TypeId} {ro full:Bool} {Q:Value→AH→Prop} (hv:Prods h v t.ps) (hu:Prods h u s.ps) (hl:SmallX t.ps) (hl':SmallX s.ps)
  (hb:h.get n=some ⟨[I64 t.p,I64 t.n,I64 t.m,I64 t.k,v,I64 s.p,I64 s.n,I64 s.m,I64 s.k,u],e,ro,full⟩)
  (hQ:∀ h',h<+:h'→Q (.bool (isX t&&isX s)) h'):WF S 256 [.slice (some ⟨n,0,none⟩) 2 5] h Q:=by
 refine WF_fn (fn:=c256) rfl rfl ?_
 dsimp only[c256,oO,oM,oS,oG,oK,oE,oL,oF,oX,oN]
 try simp (maxSteps:=3000000) (disch:=first|omega|simp only[lnx];omega) only[↓xpre,xpost,↓reduceIte,reduceEqDiff,reduceAdd,reduceSub,reduceLeDiff,zz0]
 refine WC_loop ?_
 try simp (maxSteps:=3000000) (disch:=first|omega|simp only[lnx];omega) only[↓xpre,xpost,↓reduceIte,reduceEqDiff,reduceAdd,reduceSub,reduceLeDiff,zz0,IfW_dec]
 refine⟨fun _=>?_,fun h=>absurd h (by decide)⟩
 try simp (maxSteps:=3000000) (disch:=first|omega|simp only[lnx];omega) only[↓xpre,xpost,↓reduceIte,reduceEqDiff,reduceAdd,reduceSub,reduceLeDiff,zz0,ixsV_some]
 refine⟨by decide,?_⟩
 try simp (maxSteps:=3000000) (disch:=first|omega|simp only[lnx];omega) only[↓xpre,xpost,↓reduceIte,reduceEqDiff,reduceAdd,reduceSub,reduceLeDiff,zz0,rdn_of hb,Int.toNat_zero,Nat.zero_mul,hv.one]
 generalize hH1:AH.new h _=H1
 obtain⟨hb1,p1,n1⟩:=new_facts hH1
 refine i_IsScheme (x:=t) (hv.pre p1) hl fun H2 p2=>?_
 cases h1:isX t with
 | false=>
  try simp (maxSteps:=3000000) (disch:=first|omega|simp only[lnx];omega) only[↓xpre,xpost,↓reduceIte,reduceEqDiff,reduceAdd,reduceSub,reduceLeDiff,zz0]
  have:=hQ _ (p1.trans p2)
  rw[h1] at this
  exact this
 | true=>
  try simp (maxSteps:=3000000) (disch:=first|omega|simp only[lnx];omega) only[↓xpre,xpost,↓reduceIte,reduceEqDiff,reduceAdd,reduceSub,reduceLeDiff,zz0,wrap64_in]
  rw[LoopQ_n]
  refine WC_loop ?_
  try simp (maxSteps:=3000000) (disch:=first|omega|simp only[lnx];omega) only[↓xpre,xpost,↓reduceIte,reduceEqDiff,reduceAdd,reduceSub,reduceLeDiff,zz0,IfW_dec]
  refine⟨fun _=>?_,fun h=>absurd h (by decide)⟩
  try simp (maxSteps:=3000000) (disch:=first|omega|simp only[lnx];omega) only[↓xpre,xpost,↓reduceIte,reduceEqDiff,reduceAdd,reduceSub,reduceLeDiff,zz0,ixsV_some]
  refine⟨by decide,?_⟩
  have hb:=pre_get (p1.trans p2) hb
  have e1:((0+1:Int).toNat*5)=5:=by decide
  try simp (maxSteps:=3000000) (disch:=first|omega|simp only[lnx];omega) only[↓xpre,xpost,↓reduceIte,reduceEqDiff,reduceAdd,reduceSub,reduceLeDiff,zz0,e1,rdn_of hb,hu.one]
  generalize hH3:AH.new H2 _=H3
  obtain⟨hb3,p3,n3⟩:=new_facts hH3
  refine i_IsScheme (x:=s) (hu.pre ((p1.trans p2).trans p3)) hl' fun H4 p4=>?_
  cases h2:isX s with
  | false=>
   try simp (maxSteps:=3000000) (disch:=first|omega|simp only[lnx];omega) only[↓xpre,xpost,↓reduceIte,reduceEqDiff,reduceAdd,reduceSub,reduceLeDiff,zz0]
   have:=hQ _ (((p1.trans p2).trans p3).trans p4)
   rw[h1,h2] at this
   exact this
  | true=>
   try simp (maxSteps:=3000000) (disch:=first|omega|simp only[lnx];omega) only[↓xpre,xpost,↓reduceIte,reduceEqDiff,reduceAdd,reduceSub,reduceLeDiff,zz0,wrap64_in]
   rw[LoopQ_n]
   refine WC_loop ?_
   try simp (maxSteps:=3000000) (disch:=first|omega|simp only[lnx];omega) only[↓xpre,xpost,↓reduceIte,reduceEqDiff,reduceAdd,reduceSub,reduceLeDiff,zz0,IfW_dec]
   refine⟨fun h=>absurd h (by decide),fun _=>?_⟩
   try simp (maxSteps:=3000000) (disch:=first|omega|simp only[lnx];omega) only[↓xpre,xpost,↓reduceIte,reduceEqDiff,reduceAdd,reduceSub,reduceLeDiff,zz0]
   have:=hQ _ (((p1.trans p2).trans p3).trans p4)
   rw[h1,h2] at this
   exact this
def smT (g:Nat→Int):Nat→Int
 | 0=>0
 | n+1=>smT g n+g n
theorem smT_in {g:Nat→Int} {b:Int}:∀ {n:Nat},(∀ j,j<n→0≤g j∧g j≤b)→0≤smT g n∧smT g n≤b*n
 | 0,_=>by simp[smT]
 | n+1,h=>by
  have h1:=smT_in (n:=n) (fun j hj=>h j (by omega))
  have h2:=h n (by omega)
  simp only[smT]
  rw[show ((n+1:Nat):Int)=(n:Int)+1 by omega,Int.mul_add,Int.mul_one]
  omega
def tm (q:List Int) (a b c:Nat):Int:=q.getD a 0*q.getD (9+b) 0*q.getD (18+c) 0
def lsS (L:List (List Int)) (a b c i:Nat):Int:=smT (fun j=>tm (L.getD j []) a b c) i
def lsX (x:Sch) (a b c:Nat):Int:=(lsS x.ps a b c x.ps.length).tmod x.p
theorem tm_in {q:List Int} (hq:By 27 q) {a b c:Nat} (ha:a<9) (hb:b<9) (hc:c<9):(0≤q.getD a 0*q.getD (9+b) 0∧q.getD a 0*q.getD (9+b) 0≤65025)∧0≤tm q a b c∧tm q a b c≤16581375:=by
 have h1:=hq.2 a (by omega)
 have h2:=hq.2 (9+b) (by omega)
 have h3:=hq.2 (18+c) (by omega)
 have m1:=mul_in (A:=255) (B:=255) h1 h2
 exact⟨m1,mul_in (A:=65025) (B:=255) m1 h3⟩
theorem i_leftSide {v:Value} {x:Sch} {a b c:Nat} {h:AH} {Q:Value→AH→Prop} (hv:Prods h v x.ps) (z:SZ x) (hl:x.ps.length≤30) (ha:a<9) (hb:b<9) (hc:c<9)
  (hQ:∀ h',h<+:h'→Q (I64 (lsX x a b c)) h'):WF S 218 [schV x v,I64 a,I64 b,I64 c] h Q:=by
 refine WF_fn (fn:=c218) rfl rfl ?_
 dsimp only[c218,oO,oM,oS,oG,oK,oE,oL,oF,oX,oN]
 have zp:=z.p
 try simp (maxSteps:=3000000) (disch:=first|omega|simp only[lnx];omega) only[↓xpre,xpost,↓reduceIte,reduceEqDiff,reduceAdd,reduceSub,reduceLeDiff,zz0,schV,hv.one]
 generalize hH1:AH.new h _=H1
 obtain⟨hb1,p1,n1⟩:=new_facts hH1
 try simp (maxSteps:=3000000) (disch:=first|omega|simp only[lnx];omega) only[↓xpre,xpost,↓reduceIte,reduceEqDiff,reduceAdd,reduceSub,reduceLeDiff,zz0,rd1_of hb1,(hv.pre p1).1.len]
 refine WC_loop_inv (fun m f K1=>∃ (i:Nat),m=x.ps.length-i∧i≤x.ps.length∧f 1=I64 a∧f 2=I64 b∧f 3=I64 c∧f 4=.pointer (some ⟨h.length,0,none⟩)∧f 9=I64 (lsS x.ps a b c i)∧f 13=v∧f 14=I64 x.ps.length∧f 15=I64 i∧(H1<+:K1)) ?_ (x.ps.length-0) _ _ ⟨0,rfl,by omega,(by first|rfl|simp[upd_apply]),(by first|rfl|simp[upd_apply]),(by first|rfl|simp[upd_apply]),(by first|rfl|simp[upd_apply]),(by first|rfl|simp[upd_apply]),(by first|rfl|simp[upd_apply]),(by first|rfl|simp[upd_apply]),(by first|rfl|simp[upd_apply]),List.prefix_refl _⟩
 rintro m f K1 ⟨i,rfl,hi,f1,f2,f3,f4,f9,f13,f14,f15,pp⟩
 have hbK:=pre_get pp hb1
 have hvK:=hv.pre (p1.trans pp)
 by_cases hlt:(i:Int)<x.ps.length
 ·have hi':i<x.ps.length:=by omega
  obtain⟨n,off,hix,hrn,hr1⟩:=hvK.1.at hi'
  have r27:=hrn 0 27 (by omega)
  have wi:=hvK.1.wid hi'
  rw[List.drop_zero,List.take_of_length_le (by omega),Nat.add_zero] at r27
  have byq:=hvK.by hi'
  have bs:=smT_in (g:=fun j=>tm (x.ps.getD j []) a b c) (b:=16581375) (n:=i) (fun j hj=>(tm_in (hv.by (by omega)) ha hb hc).2)
  have es:lsS x.ps a b c (i+1)=lsS x.ps a b c i+tm (x.ps.getD i []) a b c:=rfl
  have bs':0≤lsS x.ps a b c i∧lsS x.ps a b c i≤497441250:=⟨bs.1,by have:=bs.2;show smT _ i≤_;omega⟩
  generalize hq:x.ps.getD i []=q at *
  have w1:∀ (h1:AH) (e:TypeId),(h1.new ⟨[.int .u8 0,.int .u8 0,.int .u8 0,.int .u8 0,.int .u8 0,.int .u8 0,.int .u8 0,.int .u8 0,.int .u8 0,.int .u8 0,.int .u8 0,.int .u8 0,.int .u8 0,.int .u8 0,.int .u8 0,.int .u8 0,.int .u8 0,.int .u8 0,.int .u8 0,.int .u8 0,.int .u8 0,.int .u8 0,.int .u8 0,.int .u8 0,.int .u8 0,.int .u8 0,.int .u8 0],e,false,true⟩).wr h1.length 0 (cel .u8 q)=some (h1.new ⟨cel .u8 q,e,false,true⟩):=fun h1 e=>wr_all (by rw[cel_len,wi];rfl)
  have ga:=cel_get (k:=.u8) (q:=q) (j:=a) (by omega)
  have gb:=cel_get (k:=.u8) (q:=q) (j:=9+b) (by omega)
  have gc:=cel_get (k:=.u8) (q:=q) (j:=18+c) (by omega)
  have ba:=byq.2 a (by omega)
  have bb:=byq.2 (9+b) (by omega)
  have bc:=byq.2 (18+c) (by omega)
  have bt:=tm_in byq ha hb hc
  have et:q.getD a 0*q.getD (9+b) 0*q.getD (18+c) 0=tm q a b c:=rfl
  try simp (maxSteps:=3000000) (disch:=first|omega|simp only[lnx];omega) only[↓xpre,xpost,↓reduceIte,reduceEqDiff,reduceAdd,reduceSub,reduceLeDiff,zz0,f1,f2,f3,f4,f9,f13,f14,f15,decide_eq_true hlt,hix,r27,cel_all,cel_len,wi,↓w1,↓WX_ixa,ixaV_ptr,Int.toNat_natCast,Nat.mul_one,ga,gb,gc,wrap64_in,et]
  refine InvQ_go (x.ps.length-(i+1)) (by omega) ⟨(i+1),rfl,by omega,(by first|rfl|exact f1|(simp only[upd_apply];rfl)|(show I64 _=_;congr 1;omega)),(by first|rfl|exact f2|(simp only[upd_apply];rfl)|(show I64 _=_;congr 1;omega)),(by first|rfl|exact f3|(simp only[upd_apply];rfl)|(show I64 _=_;congr 1;omega)),(by first|rfl|exact f4|(simp only[upd_apply];rfl)|(show I64 _=_;congr 1;omega)),(by show I64 _=I64 _;rw[es]),(by first|rfl|exact f13|(simp only[upd_apply];rfl)|(show I64 _=_;congr 1;omega)),(by first|rfl|exact f14|(simp only[upd_apply];rfl)|(show I64 _=_;congr 1;omega)),(by first|rfl|exact f15|(simp only[upd_apply];rfl)|(show I64 _=_;congr 1;omega)),(pp.trans (pre_new (List.prefix_refl _)))⟩
 ·have ei:i=x.ps.length:=by omega
  subst ei
  try simp (maxSteps:=3000000) (disch:=first|omega|simp only[lnx];omega) only[↓xpre,xpost,↓reduceIte,reduceEqDiff,reduceAdd,reduceSub,reduceLeDiff,zz0,f1,f2,f3,f4,f9,f13,f14,f15,rd1_of hbK,decide_eq_false hlt,bin_rem]
  exact hQ _ (p1.trans pp)
def lsN (x:Sch) (a b c:Int):Int:=lsX x a.toNat b.toNat c.toNat
def tofX (x:Sch):Ten:=tenT x.p (x.n*x.m) (x.m*x.k) (x.n*x.k) (lsN x)
theorem i_tensorOf1 {v:Value} {x:Sch} {n:Nat} {e:TypeId} {ro full:Bool} {h0:AH} (hv:Prods h0 v x.ps) (z:SZ x) (hl:x.ps.length≤30) (hb:h0.get n=some ⟨[I64 x.p,I64 x.n,I64 x.m,I64 x.k,v],e,ro,full⟩) :
  Tells S h0 (.func (.func 284) #[] #[.pointer (some ⟨n,0,none⟩)]) (x.n*x.m) (x.m*x.k) (x.n*x.k) (lsN x):=by
 intro a b c ha hb' hc h1 hp Q hQ
 rw[WK_func]
 have zi:=z.nm
 have zj:=z.mk2
 have zk:=z.nk
 obtain⟨A,rfl⟩:∃ A:Nat,a=A:=⟨a.toNat,by omega⟩
 obtain⟨B,rfl⟩:∃ B:Nat,b=B:=⟨b.toNat,by omega⟩
 obtain⟨C,rfl⟩:∃ C:Nat,c=C:=⟨c.toNat,by omega⟩
 have hb1:=pre_get hp hb
 refine WF_fn (fn:=c284) rfl rfl ?_
 dsimp only[c284,oO,oM,oS,oG,oK,oE,oL,oF,oX,oN]
 try simp (maxSteps:=3000000) (disch:=first|omega|simp only[lnx];omega) only[↓xpre,xpost,↓reduceIte,reduceEqDiff,reduceAdd,reduceSub,reduceLeDiff,zz0,rdn_of hb1]
 refine i_leftSide (hv.pre hp) z hl (by omega) (by omega) (by omega) fun h2 p2=>?_
 try simp (maxSteps:=3000000) (disch:=first|omega|simp only[lnx];omega) only[↓xpre,xpost,↓reduceIte,reduceEqDiff,reduceAdd,reduceSub,reduceLeDiff,zz0]
 have:=hQ h2 p2
 unfold lsN at this
 rw[Int.toNat_natCast,Int.toNat_natCast,Int.toNat_natCast] at this
 exact this
theorem i_tensorOf {v:Value} {x:Sch} {h:AH} {Q:Value→AH→Prop} (hv:Prods h v x.ps) (z:SZ x) (hl:x.ps.length≤30)
  (hQ:∀ v' h',h<+:h'→OwnR h h' v' (tofX x).ns→Q (tenV (tofX x) v') h'):WF S 161 [schV x v] h Q:=by
 refine WF_fn (fn:=c161) rfl rfl ?_
 dsimp only[c161,oO,oM,oS,oG,oK,oE,oL,oF,oX,oN]
 try simp (maxSteps:=3000000) (disch:=first|omega|simp only[lnx];omega) only[↓xpre,xpost,↓reduceIte,reduceEqDiff,reduceAdd,reduceSub,reduceLeDiff,zz0,schV,hv.one]
 generalize hH1:AH.new h _=H1
 obtain⟨hb1,p1,n1⟩:=new_facts hH1
 generalize hH2:AH.new H1 _=H2
 obtain⟨hb2,p2,n2⟩:=new_facts hH2
 have hb1:=pre_get p2 hb1
 try simp (maxSteps:=3000000) (disch:=first|omega|simp only[lnx];omega) only[↓xpre,xpost,↓reduceIte,reduceEqDiff,reduceAdd,reduceSub,reduceLeDiff,zz0,rdn_of hb1]
 refine i_placesOf hv.one z fun H3 p3=>?_
 have hb1:=pre_get p3 hb1
 have hb2:=pre_get p3 hb2
 have ix0:∀ n:Nat,ixaV 3 1 (.pointer (some ⟨n,0,none⟩)) (I64 0)=some (.pointer (some ⟨n,0,none⟩)):=fun n=>rfl
 have ix1:∀ n:Nat,ixaV 3 1 (.pointer (some ⟨n,0,none⟩)) (I64 1)=some (.pointer (some ⟨n,1,none⟩)):=fun n=>rfl
 have ix2:∀ n:Nat,ixaV 3 1 (.pointer (some ⟨n,0,none⟩)) (I64 2)=some (.pointer (some ⟨n,2,none⟩)):=fun n=>rfl
 have lt1:=get_lt hb1
 try simp (maxSteps:=3000000) (disch:=first|omega|simp only[lnx];omega) only[↓xpre,xpost,↓reduceIte,reduceEqDiff,reduceAdd,reduceSub,reduceLeDiff,zz0,↓WX_ixa,ix0,ix1,ix2,rd1_of hb1]
 generalize hH4:AH.new H3 _=H4
 obtain⟨hb4,p4,n4⟩:=new_facts hH4
 have hb1:=pre_get p4 hb1
 have hb2:=pre_get p4 hb2
 have zi:=z.nm
 have zj:=z.mk2
 have zk:=z.nk
 have zp:=z.p
 refine i_tensor (num:=lsN x) (by omega) zi zj zk (i_tensorOf1 (hv.pre ((p1.trans p2).trans (p3.trans p4))) z hl hb1) fun v' H5 p5 o=>?_
 have hb2:=pre_get p5 hb2
 have lt2:=get_lt hb2
 try simp (maxSteps:=3000000) (disch:=first|omega|simp only[lnx];omega) only[↓xpre,xpost,↓reduceIte,reduceEqDiff,reduceAdd,reduceSub,reduceLeDiff,zz0,tenV,o.ints.one,wr_of hb2]
 have l3:=pre_len p3
 exact hQ v' _ (pre_put (((p1.trans p2).trans (p3.trans p4)).trans p5) (show h.length≤H1.length by omega)) ((o.put_ne (by omega)).lo (by omega))
theorem tofX_small {x:Sch} (z:SZ x):SmallS (tofX x).ns:=by
 have ij:=mul_in1 (A:=9) (B:=9) z.nm z.mk2
 have ijk:=mul_in1 (A:=81) (B:=9) ij z.nk
 unfold SmallS tofX tenT
 rw[gen_len]
 omega
def o9:List Int:=List.replicate 9 0
def un9 (a:Nat):List Int:=o9.set a 1
def un27 (a b c:Nat):List Int:=un9 a++(un9 b++un9 c)
theorem un9_len {a:Nat}:(un9 a).length=9:=by simp[un9,o9]
theorem un27_len {a b c:Nat}:(un27 a b c).length=27:=by simp[un27,un9_len]
theorem un27_set {a b c:Nat} (ha:a<9) (hb:b<9) (hc:c<9):(((List.replicate 27 0).set a 1).set (9+b) 1).set (18+c) 1=un27 a b c:=by
 have e:List.replicate 27 (0:Int)=o9++(o9++o9):=rfl
 have lz:o9.length=9:=rfl
 have l1:(o9.set a 1).length=9:=by rw[List.length_set,lz]
 have l2:(o9.set b 1).length=9:=by rw[List.length_set,lz]
 rw[e,List.set_append_left _ _ (by rw[lz];exact ha),List.set_append_right _ _ (by rw[l1];omega),List.set_append_right _ _ (by rw[l1];omega),l1,Nat.add_sub_cancel_left,
  List.set_append_left _ _ (by rw[lz];exact hb),List.set_append_right _ _ (by rw[l2];omega),l2]
 rw[show 18+c-9-9=c by omega]
 rfl
theorem un9_in {a j:Nat}:0≤(un9 a).getD j 0∧(un9 a).getD j 0≤1:=by
 unfold un9
 rw[List.getD_eq_getElem?_getD,List.getElem?_set]
 split
 ·split<;>simp
 ·unfold o9
  rw[List.getElem?_replicate]
  split<;>simp
theorem un27_in {a b c j:Nat}:0≤(un27 a b c).getD j 0∧(un27 a b c).getD j 0≤255:=by
 unfold un27
 by_cases h:j<9
 ·rw[getD_app_l (by rw[un9_len];exact h)]
  have:=un9_in (a:=a) (j:=j)
  omega
 ·rw[getD_app_r (by rw[un9_len];omega),un9_len]
  by_cases h2:j-9<9
  ·rw[getD_app_l (by rw[un9_len];exact h2)]
   have:=un9_in (a:=b) (j:=j-9)
   omega
  ·rw[getD_app_r (by rw[un9_len];omega),un9_len]
   have:=un9_in (a:=c) (j:=j-9-9)
   omega
def stdG (m k t:Nat):List Int:=un27 (t / k / m*m+t / k%m) (t / k%m*k+t%k) (t / k / m*k+t%k)
def stdL (m k:Nat):Nat→List (List Int)
 | 0=>[]
 | t+1=>stdL m k t++[stdG m k t]
theorem stdL_len {m k:Nat}:∀ {t:Nat},(stdL m k t).length=t
 | 0=>rfl
 | t+1=>by simp[stdL,stdL_len (t:=t)]
theorem stdL_byt {m k:Nat}:∀ {t:Nat},Byt 27 (stdL m k t)
 | 0=>fun i hi=>by simp[stdL] at hi
 | t+1=>fun i hi j hj=>by
  rw[stdL_len] at hi
  unfold stdL
  by_cases h:i<t
  ·rw[getD_app_l (by rw[stdL_len];exact h)]
   exact stdL_byt (t:=t) i (by rw[stdL_len];exact h) j hj
  ·rw[getD_app_r (by rw[stdL_len];omega),stdL_len,show i-t=0 by omega]
   exact un27_in
theorem stdG_at {m k i j l:Nat} (hj:j<m) (hl:l<k):stdG m k ((i*m+j)*k+l)=un27 (i*m+j) (j*k+l) (i*k+l):=by
 unfold stdG
 have e1:((i*m+j)*k+l) / k=i*m+j:=by
  rw[Nat.mul_comm,Nat.mul_add_div (by omega),Nat.div_eq_of_lt hl,Nat.add_zero]
 have e2:((i*m+j)*k+l)%k=l:=by
  rw[Nat.mul_comm,Nat.mul_add_mod,Nat.mod_eq_of_lt hl]
 have e3:(i*m+j) / m=i:=by
  rw[Nat.mul_comm,Nat.mul_add_div (by omega),Nat.div_eq_of_lt hj,Nat.add_zero]
 have e4:(i*m+j)%m=j:=by
  rw[Nat.mul_comm,Nat.mul_add_mod,Nat.mod_eq_of_lt hj]
 rw[e1,e2,e3,e4]
def stdX (p n m k:Int):Sch:=⟨p,n,m,k,stdL m.toNat k.toNat (n*m*k).toNat⟩
theorem splice_27 {q:List Int} (hq:q.length=27):splice [.int .u8 0,.int .u8 0,.int .u8 0,.int .u8 0,.int .u8 0,.int .u8 0,.int .u8 0,.int .u8 0,.int .u8 0,.int .u8 0,.int .u8 0,.int .u8 0,.int .u8 0,.int .u8 0,.int .u8 0,.int .u8 0,.int .u8 0,.int .u8 0,.int .u8 0,.int .u8 0,.int .u8 0,.int .u8 0,.int .u8 0,.int .u8 0,.int .u8 0,.int .u8 0,.int .u8 0] 0 (cel .u8 q)=cel .u8 q:=by
 rw[splice_eq,cel_len,hq]
 simp
theorem splice_lenW {c vs:List Value} {off:Nat} (h:off+vs.length≤c.length):(splice c off vs).length=c.length:=by
 rw[splice_eq]
 simp
 omega
theorem wr_27 {h1:AH} {e:TypeId}:(h1.new ⟨[.int .u8 0,.int .u8 0,.int .u8 0,.int .u8 0,.int .u8 0,.int .u8 0,.int .u8 0,.int .u8 0,.int .u8 0,.int .u8 0,.int .u8 0,.int .u8 0,.int .u8 0,.int .u8 0,.int .u8 0,.int .u8 0,.int .u8 0,.int .u8 0,.int .u8 0,.int .u8 0,.int .u8 0,.int .u8 0,.int .u8 0,.int .u8 0,.int .u8 0,.int .u8 0,.int .u8 0],e,false,true⟩).wr h1.length 0 [.int .u8 0,.int .u8 0,.int .u8 0,.int .u8 0,.int .u8 0,.int .u8 0,.int .u8 0,.int .u8 0,.int .u8 0,.int .u8 0,.int .u8 0,.int .u8 0,.int .u8 0,.int .u8 0,.int .u8 0,.int .u8 0,.int .u8 0,.int .u8 0,.int .u8 0,.int .u8 0,.int .u8 0,.int .u8 0,.int .u8 0,.int .u8 0,.int .u8 0,.int .u8 0,.int .u8 0]=some (h1.new ⟨cel .u8 (List.replicate 27 0),e,false,true⟩):=wr_all rfl
theorem wr_set1 {h1:AH} {e:TypeId} {q:List Int} {j:Nat} {x:Int} (hj:j<q.length):(h1.new ⟨cel .u8 q,e,false,true⟩).wr h1.length j [.int .u8 x]=some (h1.new ⟨cel .u8 (q.set j x),e,false,true⟩):=by
 rw[wr_new_same,if_pos ⟨rfl,by rw[cel_len];simp only[List.length_singleton];omega⟩,cel_set hj]
theorem s_l01Standard {p n m k:Int} {h:AH} {Q:Value→AH→Prop} (z:SZ (stdX p n m k)) (hQ:∀ v' h',h<+:h'→InX h.length h'.length h' v' (stdX p n m k).ps→Q (schV (stdX p n m k) v') h'):WF S 303 [I64 p,I64 n,I64 m,I64 k] h Q:=by
 obtain⟨zp,zn,zm,zk,znm,zmk,znk⟩:=z
 simp only[stdX] at zp zn zm zk znm zmk znk
 unfold stdX at hQ
 obtain⟨N,rfl⟩:∃ N:Nat,n=N:=⟨n.toNat,by omega⟩
 obtain⟨M,rfl⟩:∃ N:Nat,m=N:=⟨m.toNat,by omega⟩
 obtain⟨K,rfl⟩:∃ N:Nat,k=N:=⟨k.toNat,by omega⟩
 rw[Int.toNat_natCast,Int.toNat_natCast,show (N:Int)*(M:Int)*(K:Int)=((N*M*K:Nat):Int) by push_cast;rfl,Int.toNat_natCast] at hQ
 have enm:(N:Int)*(M:Int)=((N*M:Nat):Int):=by push_cast;rfl
 have emk:(M:Int)*(K:Int)=((M*K:Nat):Int):=by push_cast;rfl
 have enk:(N:Int)*(K:Int)=((N*K:Nat):Int):=by push_cast;rfl
 have zijk:N*M*K≤27:=by
  have:=mul_in1 (A:=9) (B:=3) znm zk
  rw[enm,←Int.natCast_mul] at this
  omega
 rw[enm] at znm
 rw[emk] at zmk
 rw[enk] at znk
 refine WF_fn (fn:=c303) rfl rfl ?_
 dsimp only[c303,oO,oM,oS,oG,oK,oE,oL,oF,oX,oN]
 try simp (maxSteps:=3000000) (disch:=first|omega|simp only[lnx];omega) only[↓xpre,xpost,↓reduceIte,reduceEqDiff,reduceAdd,reduceSub,reduceLeDiff,zz0]
 generalize hH1:AH.new h _=H1
 obtain⟨hb1,p1,n1⟩:=new_facts hH1
 try simp (maxSteps:=3000000) (disch:=first|omega|simp only[lnx];omega) only[↓xpre,xpost,↓reduceIte,reduceEqDiff,reduceAdd,reduceSub,reduceLeDiff,zz0,zrep,fillL]
 generalize hH2:AH.new H1 _=H2
 obtain⟨hb2,p2,n2⟩:=new_facts hH2
 try simp (maxSteps:=3000000) (disch:=first|omega|simp only[lnx];omega) only[↓xpre,xpost,↓reduceIte,reduceEqDiff,reduceAdd,reduceSub,reduceLeDiff,zz0,zrep,fillL,wr_all]
 generalize hH3:AH.new H2 _=H3
 obtain⟨hb3,p3,n3⟩:=new_facts hH3
 have w0:WayE (138) .u8 27 H3 H1.length H2.length (.slice (some ⟨H1.length,0,none⟩) 0 27) (stdL M K 0):=⟨fun r hr=>by simp[stdL] at hr,.inr ⟨H1.length,true,rfl,Nat.le_refl _,by omega,pre_get p3 hb2⟩⟩
 refine WC_loop_inv (fun m f K1=>∃ (i:Nat) (sv:Value),m=N-i∧i≤N∧f 1=I64 N∧f 2=I64 M∧f 3=I64 K∧f 8=.pointer (some ⟨h.length,0,none⟩)∧f 9=.pointer (some ⟨H2.length,0,none⟩)∧f 10=I64 i∧(H1<+:K1)∧(H3.length≤K1.length)∧(OwnB K1 H2.length [I64 p,I64 N,I64 M,I64 K,sv] true)∧(WayE (138) .u8 27 K1 H1.length H2.length sv (stdL M K (i*M*K)))) ?_ (N-0) _ _ ⟨0,.slice (some ⟨H1.length,0,none⟩) 0 27,rfl,by omega,(by first|rfl|simp[upd_apply]),(by first|rfl|simp[upd_apply]),(by first|rfl|simp[upd_apply]),(by first|rfl|simp[upd_apply]),(by first|rfl|simp[upd_apply]),(by first|rfl|simp[upd_apply]),p2.trans p3,Nat.le_refl _,⟨_,hb3⟩,(by rw[Nat.zero_mul,Nat.zero_mul];exact w0)⟩
 rintro m f K1 ⟨i,sv,rfl,hi,f1,f2,f3,f8,f9,f10,pp,l1,g,w⟩
 by_cases hla:(i:Int)<N
 ·try simp (maxSteps:=3000000) (disch:=first|omega|simp only[lnx];omega) only[↓xpre,xpost,↓reduceIte,reduceEqDiff,reduceAdd,reduceSub,reduceLeDiff,zz0,f1,f2,f3,f8,f9,f10,decide_eq_true hla]
  refine WC_loop_inv (fun m f K2=>∃ (j:Nat) (sv:Value),m=M-j∧j≤M∧f 1=I64 N∧f 2=I64 M∧f 3=I64 K∧f 8=.pointer (some ⟨h.length,0,none⟩)∧f 9=.pointer (some ⟨H2.length,0,none⟩)∧f 10=I64 i∧f 11=I64 j∧(H1<+:K2)∧(H3.length≤K2.length)∧(OwnB K2 H2.length [I64 p,I64 N,I64 M,I64 K,sv] true)∧(WayE (138) .u8 27 K2 H1.length H2.length sv (stdL M K ((i*M+j)*K)))) ?_ (M-0) _ _ ⟨0,sv,rfl,by omega,(by first|rfl|exact f1|(simp[upd_apply];done)),(by first|rfl|exact f2|(simp[upd_apply];done)),(by first|rfl|exact f3|(simp[upd_apply];done)),(by first|rfl|exact f8|(simp[upd_apply];done)),(by first|rfl|exact f9|(simp[upd_apply];done)),(by first|rfl|exact f10|(simp[upd_apply];done)),(by first|rfl|simp[upd_apply]),pp,l1,g,(by rw[Nat.add_zero];exact w)⟩
  rintro m f K2 ⟨j,sv,rfl,hj,f1,f2,f3,f8,f9,f10,f11,pp,l1,g,w⟩
  by_cases hlb:(j:Int)<M
  ·try simp (maxSteps:=3000000) (disch:=first|omega|simp only[lnx];omega) only[↓xpre,xpost,↓reduceIte,reduceEqDiff,reduceAdd,reduceSub,reduceLeDiff,zz0,f1,f2,f3,f8,f9,f10,f11,decide_eq_true hlb]
   refine WC_loop_inv (fun m f K3=>∃ (l:Nat) (sv:Value),m=K-l∧l≤K∧f 1=I64 N∧f 2=I64 M∧f 3=I64 K∧f 8=.pointer (some ⟨h.length,0,none⟩)∧f 9=.pointer (some ⟨H2.length,0,none⟩)∧f 10=I64 i∧f 11=I64 j∧f 12=I64 l∧(H1<+:K3)∧(H3.length≤K3.length)∧(OwnB K3 H2.length [I64 p,I64 N,I64 M,I64 K,sv] true)∧(WayE (138) .u8 27 K3 H1.length H2.length sv (stdL M K ((i*M+j)*K+l)))) ?_ (K-0) _ _ ⟨0,sv,rfl,by omega,(by first|rfl|exact f1|(simp[upd_apply];done)),(by first|rfl|exact f2|(simp[upd_apply];done)),(by first|rfl|exact f3|(simp[upd_apply];done)),(by first|rfl|exact f8|(simp[upd_apply];done)),(by first|rfl|exact f9|(simp[upd_apply];done)),(by first|rfl|exact f10|(simp[upd_apply];done)),(by first|rfl|exact f11|(simp[upd_apply];done)),(by first|rfl|simp[upd_apply]),pp,l1,g,w⟩
   rintro m f K3 ⟨l,sv,rfl,hl,f1,f2,f3,f8,f9,f10,f11,f12,pp,l1,g,w⟩
   by_cases hlc:(l:Int)<K
   ·have m1:i*M+M≤N*M:=mul_row (by omega)
    have m2:(i*M+j)*K+K≤N*M*K:=mul_row (by omega)
    have m3:j*K+K≤M*K:=mul_row (by omega)
    have m4:i*K+K≤N*K:=mul_row (by omega)
    have e1:(i:Int)*(M:Int)=((i*M:Nat):Int):=by push_cast;rfl
    have e2:((i*M:Nat):Int)+(j:Int)=((i*M+j:Nat):Int):=by push_cast;rfl
    have e3:(j:Int)*(K:Int)=((j*K:Nat):Int):=by push_cast;rfl
    have e4:((j*K:Nat):Int)+(l:Int)=((j*K+l:Nat):Int):=by push_cast;rfl
    have e5:(i:Int)*(K:Int)=((i*K:Nat):Int):=by push_cast;rfl
    have e6:((i*K:Nat):Int)+(l:Int)=((i*K+l:Nat):Int):=by push_cast;rfl
    have lt27:(i*M+j)*K+l<27:=by omega
    obtain⟨eg,hg⟩:=g
    have hgn:∀ b,(AH.new K3 b).get H2.length=some ⟨[I64 p,I64 N,I64 M,I64 K,sv],eg,false,true⟩:=fun b=>get_new_any hg
    have w2:∀ e:TypeId,(K3.new ⟨cel .u8 (List.replicate 27 0),e,false,true⟩).wr K3.length (i*M+j) [.int .u8 1]=_:=fun e=>wr_set1 (by rw[List.length_replicate];omega)
    have w3:∀ e:TypeId,(K3.new ⟨cel .u8 ((List.replicate 27 0).set (i*M+j) 1),e,false,true⟩).wr K3.length (9+(j*K+l)) [.int .u8 1]=_:=fun e=>wr_set1 (by rw[List.length_set,List.length_replicate];omega)
    have w4:∀ e:TypeId,(K3.new ⟨cel .u8 (((List.replicate 27 0).set (i*M+j) 1).set (9+(j*K+l)) 1),e,false,true⟩).wr K3.length (18+(i*K+l)) [.int .u8 1]=_:=fun e=>wr_set1 (by rw[List.length_set,List.length_set,List.length_replicate];omega)
    rw[un27_set (by omega) (by omega) (by omega)] at w4
    have r1:∀ e:TypeId,(K3.new ⟨cel .u8 (un27 (i*M+j) (j*K+l) (i*K+l)),e,false,true⟩).rdn K3.length 0 27=some (cel .u8 (un27 (i*M+j) (j*K+l) (i*K+l))):=fun e=>by
     rw[rdn_new_same,if_pos (by simp only[cel_len,un27_len];omega),List.drop_zero,List.take_of_length_le (by rw[cel_len,un27_len];omega)]
    have sp1:=splice_27 (q:=un27 (i*M+j) (j*K+l) (i*K+l)) un27_len
    ((try simp (maxSteps:=3000000) (dsimp:=false) (disch:=first|omega|simp only[lnx];omega) only[↓ypre,ypost,↓reduceIte,reduceEqDiff,reduceAdd,reduceSub,reduceLeDiff,zz0,f1,f2,f3,f8,f9,f10,f11,f12,decide_eq_true hlc,wr_27,e1,e2,e3,e4,e5,e6,wrap64_in,ixaV_ptr,Int.toNat_natCast,Nat.mul_one,w2,w3,w4,r1,sp1,cel_all,cel_len,un27_len,rd1_of (hgn _)]);try simp only[yback])
    generalize hK4:AH.new K3 _=K4
    obtain⟨hb4,p4,n4⟩:=new_facts hK4
    refine (w.pre p4).app un27_len (by rw[stdL_len];omega) (by rw[stdL_len];omega) (by omega) (by omega) fun sv' H' l' pre' _ own' w'=>?_
    obtain⟨e5,g5⟩:=own' _ _ ⟨eg,pre_get p4 hg⟩
    have lt5:=get_lt g5
    ((try simp (maxSteps:=3000000) (dsimp:=false) (disch:=first|omega|simp only[lnx];omega) only[↓ypre,ypost,↓reduceIte,reduceEqDiff,reduceAdd,reduceSub,reduceLeDiff,zz0,ynew,f1,f2,f3,f8,f9,f10,f11,f12,w'.one,w'.cells,wr_of g5,wrap64_in]);try simp only[yback])
    have lts:=lt27
    refine InvQ_go (K-(l+1)) (by omega) ⟨(l+1),sv',rfl,by omega,(by first|rfl|exact f1|(simp only[upd_apply];rfl)|(show I64 _=_;congr 1;omega)),(by first|rfl|exact f2|(simp only[upd_apply];rfl)|(show I64 _=_;congr 1;omega)),(by first|rfl|exact f3|(simp only[upd_apply];rfl)|(show I64 _=_;congr 1;omega)),(by first|rfl|exact f8|(simp only[upd_apply];rfl)|(show I64 _=_;congr 1;omega)),(by first|rfl|exact f9|(simp only[upd_apply];rfl)|(show I64 _=_;congr 1;omega)),(by first|rfl|exact f10|(simp only[upd_apply];rfl)|(show I64 _=_;congr 1;omega)),(by first|rfl|exact f11|(simp only[upd_apply];rfl)|(show I64 _=_;congr 1;omega)),(by first|rfl|exact f12|(simp only[upd_apply];rfl)|(show I64 _=_;congr 1;omega)),(pre_put (pre' _ (Nat.le_refl _) (pp.trans p4)) (by omega)),(by rw[len_put];omega),⟨_,get_put_same lt5⟩,(by have:=w'.put (b:=⟨[I64 p,I64 N,I64 M,I64 K,sv'],e5,false,true⟩);rw[←stdG_at (by omega) (by omega)] at this;exact this)⟩
   ·have ec:l=K:=by omega
    subst ec
    try simp (maxSteps:=3000000) (disch:=first|omega|simp only[lnx];omega) only[↓xpre,xpost,↓reduceIte,reduceEqDiff,reduceAdd,reduceSub,reduceLeDiff,zz0,f1,f2,f3,f8,f9,f10,f11,f12,decide_eq_false hlc,wrap64_in]
    refine InvQ_go (M-(j+1)) (by omega) ⟨(j+1),sv,rfl,by omega,(by first|rfl|exact f1|(simp only[upd_apply];rfl)|(show I64 _=_;congr 1;omega)),(by first|rfl|exact f2|(simp only[upd_apply];rfl)|(show I64 _=_;congr 1;omega)),(by first|rfl|exact f3|(simp only[upd_apply];rfl)|(show I64 _=_;congr 1;omega)),(by first|rfl|exact f8|(simp only[upd_apply];rfl)|(show I64 _=_;congr 1;omega)),(by first|rfl|exact f9|(simp only[upd_apply];rfl)|(show I64 _=_;congr 1;omega)),(by first|rfl|exact f10|(simp only[upd_apply];rfl)|(show I64 _=_;congr 1;omega)),(by first|rfl|exact f11|(simp only[upd_apply];rfl)|(show I64 _=_;congr 1;omega)),pp,l1,g,(by rw[show (i*M+(j+1))*l=(i*M+j)*l+l by rw[←Nat.add_assoc,Nat.succ_mul]];exact w)⟩
  ·have eb:j=M:=by omega
   subst eb
   try simp (maxSteps:=3000000) (disch:=first|omega|simp only[lnx];omega) only[↓xpre,xpost,↓reduceIte,reduceEqDiff,reduceAdd,reduceSub,reduceLeDiff,zz0,f1,f2,f3,f8,f9,f10,f11,decide_eq_false hlb,wrap64_in]
   refine InvQ_go (N-(i+1)) (by omega) ⟨(i+1),sv,rfl,by omega,(by first|rfl|exact f1|(simp only[upd_apply];rfl)|(show I64 _=_;congr 1;omega)),(by first|rfl|exact f2|(simp only[upd_apply];rfl)|(show I64 _=_;congr 1;omega)),(by first|rfl|exact f3|(simp only[upd_apply];rfl)|(show I64 _=_;congr 1;omega)),(by first|rfl|exact f8|(simp only[upd_apply];rfl)|(show I64 _=_;congr 1;omega)),(by first|rfl|exact f9|(simp only[upd_apply];rfl)|(show I64 _=_;congr 1;omega)),(by first|rfl|exact f10|(simp only[upd_apply];rfl)|(show I64 _=_;congr 1;omega)),pp,l1,g,(by rw[Nat.succ_mul];exact w)⟩
 ·have ea:i=N:=by omega
  subst ea
  obtain⟨e6,g6⟩:=g
  have hb1K:=pre_get pp hb1
  have lt2:=get_lt hb1K
  try simp (maxSteps:=3000000) (disch:=first|omega|simp only[lnx];omega) only[↓xpre,xpost,↓reduceIte,reduceEqDiff,reduceAdd,reduceSub,reduceLeDiff,zz0,f1,f2,f3,f8,f9,f10,decide_eq_false hla,rdn_of g6,wr_of hb1K]
  exact⟨w.one,hQ sv _ (pre_put (p1.trans pp) (Nat.le_refl _)) ⟨(w.putb (by omega)).inE.mono (by omega) (Nat.le_refl _),stdL_byt⟩⟩
theorem sp27 {a b c:List Int} (ha:a.length=9) (hb:b.length=9) (hc:c.length=9) :
  (splice (cel .u8 (List.replicate 27 0)) 0 (cel .u8 a)).length=27∧(splice (splice (cel .u8 (List.replicate 27 0)) 0 (cel .u8 a)) 9 (cel .u8 b)).length=27 ∧
  splice (splice (splice (cel .u8 (List.replicate 27 0)) 0 (cel .u8 a)) 9 (cel .u8 b)) 18 (cel .u8 c)=cel .u8 (a++b++c):=by
 have l27:(cel .u8 (List.replicate 27 0)).length=27:=rfl
 have s1:(splice (cel .u8 (List.replicate 27 0)) 0 (cel .u8 a)).length=27:=by rw[splice_lenW (by rw[cel_len,ha,l27];omega),l27]
 have s2:(splice (splice (cel .u8 (List.replicate 27 0)) 0 (cel .u8 a)) 9 (cel .u8 b)).length=27:=by rw[splice_lenW (by rw[cel_len,hb,s1];omega),s1]
 refine⟨s1,s2,?_⟩
 rw[cel_splice,cel_splice,cel_splice]
 congr 1
 have h0:(List.replicate 27 (0:Int)).length=27:=rfl
 generalize List.replicate 27 (0:Int)=o at h0
 simp[List.take_append,List.drop_append,ha,hb,hc,h0,List.take_of_length_le,List.drop_of_length_le]
section
variable {a b c:List Int}
theorem seg_0 (ha:a.length=9):seg (a++b++c) 0=a:=by simp[seg,ha,List.append_assoc]
theorem seg_1 (ha:a.length=9) (hb:b.length=9):seg (a++b++c) 1=b:=by
 unfold seg
 rw[List.append_assoc,List.drop_append,List.drop_of_length_le (by omega),ha]
 simp[hb]
theorem seg_2 (ha:a.length=9) (hb:b.length=9) (hc:c.length=9):seg (a++b++c) 2=c:=by
 unfold seg
 rw[List.drop_append,List.drop_of_length_le (by simp[ha,hb]),List.length_append,ha,hb]
 simp[hc,List.take_of_length_le]
theorem by_27 (ha:By 9 a) (hb:By 9 b) (hc:By 9 c):By 27 (a++b++c):=by
 refine⟨by simp[ha.1,hb.1,hc.1],fun j hj=>?_⟩
 by_cases h1:j<9
 ·rw[List.append_assoc,getD_app_l (by rw[ha.1];exact h1)]
  exact ha.2 j h1
 ·by_cases h2:j<18
  ·rw[getD_app_l (by simp[ha.1,hb.1];omega),getD_app_r (by rw[ha.1];omega),ha.1]
   exact hb.2 _ (by omega)
  ·rw[getD_app_r (by simp[ha.1,hb.1];omega)]
   simp only[List.length_append,ha.1,hb.1]
   exact hc.2 _ (by omega)
end
theorem okProd_of {x:Sch} {a b c:List Int} (fa:FQ x.p (pl x 0) a) (fb:FQ x.p (pl x 1) b) (fc:FQ x.p (pl x 2) c) (za:isZ a=false) (zb:isZ b=false) (zc:isZ c=false):okProd x (a++b++c)=true:=by
 unfold okProd hasZ
 rw[seg_0 fa.1.1,seg_1 fa.1.1 fb.1.1,seg_2 fa.1.1 fb.1.1 fc.1.1,fa.2,fb.2,fc.2,za,zb,zc]
 rfl
theorem s_l01DrawOf {h0 h:AH} {n:Nat} {x:Sch} {v:Value} {Q:Value→AH→Prop} (s:Src h0 h n) (z:SZ x) (hv:isOne v=true)
  (hQ:∀ q h',Kp n h h'→Src h0 h' n→By 27 q→okProd x q=true→Q (aggV .u8 q) h'):WF S 305 [srcP n,schV x v] h Q:=by
 refine WF_fn (fn:=c305) rfl rfl ?_
 dsimp only[c305,oO,oM,oS,oG,oK,oE,oL,oF,oX,oN]
 have lt:=s.lt
 have l0:=pre_len s.p
 have znm:=z.nm
 have zmk:=z.mk2
 have znk:=z.nk
 obtain⟨A,hA⟩:∃ A:Nat,x.n*x.m=A:=⟨(x.n*x.m).toNat,by omega⟩
 obtain⟨B,hB⟩:∃ B:Nat,x.m*x.k=B:=⟨(x.m*x.k).toNat,by omega⟩
 obtain⟨C,hC⟩:∃ C:Nat,x.n*x.k=C:=⟨(x.n*x.k).toNat,by omega⟩
 ((try simp (maxSteps:=3000000) (dsimp:=false) (disch:=first|omega|simp only[lnx];omega) only[↓ypre,ypost,↓reduceIte,reduceEqDiff,reduceAdd,reduceSub,reduceLeDiff,zz0,ynew,schV,hv,zeros27]);try simp only[yback])
 generalize hH1:AH.new h _=H1
 obtain⟨hb1,p1,n1⟩:=new_facts hH1
 generalize hH2:AH.new H1 _=H2
 obtain⟨hb2,p2,n2⟩:=new_facts hH2
 have hb1:=pre_get p2 hb1
 ((try simp (maxSteps:=3000000) (dsimp:=false) (disch:=first|omega|simp only[lnx];omega) only[↓ypre,ypost,↓reduceIte,reduceEqDiff,reduceAdd,reduceSub,reduceLeDiff,zz0,ynew,rdn_of hb1,List.length_cons,List.length_nil,List.drop_zero,List.take_succ_cons,List.take_nil]);try simp only[yback])
 refine s_l01Lengths hv z fun H3 p3=>?_
 have k3:Kp n h H3:=Kp.of ((p1.trans p2).trans p3)
 have s3:Src h0 H3 n:=s.kp ((p1.trans p2).trans p3)
 have g1:=pre_get p3 hb1
 have g2:=pre_get p3 hb2
 rw[hA,hB,hC]
 ((try simp (maxSteps:=3000000) (dsimp:=false) (disch:=first|omega|simp only[lnx];omega) only[↓ypre,ypost,↓reduceIte,reduceEqDiff,reduceAdd,reduceSub,reduceLeDiff,zz0,ynew,rd1_of g1]);try simp only[yback])
 refine s_l01DrawForm s3 z.p (by omega) fun a H4 k4 s4 fa za=>?_
 have g1:=k4.get (by omega) g1
 have g2:=k4.get (by omega) g2
 ((try simp (maxSteps:=3000000) (dsimp:=false) (disch:=first|omega|simp only[lnx];omega) only[↓ypre,ypost,↓reduceIte,reduceEqDiff,reduceAdd,reduceSub,reduceLeDiff,zz0,ynew,rd1_of g1]);try simp only[yback])
 refine⟨k4,by omega,?_⟩
 refine s_l01DrawForm s4 z.p (by omega) fun b H5 k5 s5 fb zb=>?_
 have g1:=k5.get (by omega) g1
 have g2:=k5.get (by omega) g2
 ((try simp (maxSteps:=3000000) (dsimp:=false) (disch:=first|omega|simp only[lnx];omega) only[↓ypre,ypost,↓reduceIte,reduceEqDiff,reduceAdd,reduceSub,reduceLeDiff,zz0,ynew,rd1_of g1]);try simp only[yback])
 refine⟨k5,by omega,?_⟩
 refine s_l01DrawForm s5 z.p (by omega) fun c H6 k6 s6 fc zc=>?_
 have g2:=k6.get (by omega) g2
 have ha:=fa.1.1
 have hb:=fb.1.1
 have hc:=fc.1.1
 have lf:(a++b++c).length=27:=by simp[ha,hb,hc]
 have w5:=wr_full (vs:=cel .u8 (a++b++c)) g2 (by rw[cel_len,lf];rfl)
 have tk:(cel .u8 (a++b++c)).take 27=cel .u8 (a++b++c):=List.take_of_length_le (by rw[cel_len,lf];exact Nat.le_refl _)
 have lg:=get_lt g2
 obtain⟨sp1,sp2,sp3⟩:=sp27 ha hb hc
 ((try simp (maxSteps:=3000000) (dsimp:=false) (disch:=first|omega|simp only[lnx];omega) only[↓ypre,ypost,↓reduceIte,reduceEqDiff,reduceAdd,reduceSub,reduceLeDiff,zz0,ynew,aggV,zeros27,ha,hb,hc,List.length_replicate,sp1,sp2,sp3,cel_all,cel_len,lf,w5,rdn_put_same,tk]);try simp only[yback])
 refine hQ _ _ (Kp.putb (m:=H1.length) ((k3.trans (k4.trans k5)).trans k6) (by omega)) (Src.putb (m:=H1.length) s6 (by omega) (by omega)) (by_27 fa.1 fb.1 fc.1) (okProd_of ?_ ?_ ?_ za zb zc)
 ·show FQ x.p (x.n*x.m) a
  rw[hA];exact fa
 ·show FQ x.p (x.m*x.k) b
  rw[hB];exact fb
 ·show FQ x.p (x.n*x.k) c
  rw[hC];exact fc
theorem sz_of {n:Int} (h:n=1∨n=2∨n=3):sz n=true:=by
 rcases h with rfl|rfl|rfl<;>rfl
theorem isP_of {p:Int} (h:p=2∨p=3∨p=5):isP p=true:=by
 rcases h with rfl|rfl|rfl<;>rfl
theorem s_l01DrawSizes {h0 h:AH} {n:Nat} {Q:Value→AH→Prop} (s:Src h0 h n)
  (hQ:∀ (p a b c:Int) (nb:Nat) h',Kp n h h'→Src h0 h' n→h.length≤nb→h'.get nb=some ⟨[],138,false,true⟩→(p=2∨p=3∨p=5)→(a=1∨a=2∨a=3)→(b=1∨b=2∨b=3)→(c=1∨c=2∨c=3) →
   Q (schV ⟨p,a,b,c,[]⟩ (.slice (some ⟨nb,0,none⟩) 0 27)) h'):WF S 320 [srcP n] h Q:=by
 refine WF_fn (fn:=c320) rfl rfl ?_
 dsimp only[c320,oO,oM,oS,oG,oK,oE,oL,oF,oX,oN]
 have lt:=s.lt
 have l0:=pre_len s.p
 ((try simp (maxSteps:=3000000) (dsimp:=false) (disch:=first|omega|simp only[lnx];omega) only[↓ypre,ypost,↓reduceIte,reduceEqDiff,reduceAdd,reduceSub,reduceLeDiff,zz0,ynew]);try simp only[yback])
 generalize hH1:AH.new h _=H1
 obtain⟨hb1,p1,n1⟩:=new_facts hH1
 ((try simp (maxSteps:=3000000) (dsimp:=false) (disch:=first|omega|simp only[lnx];omega) only[↓ypre,ypost,↓reduceIte,reduceEqDiff,reduceAdd,reduceSub,reduceLeDiff,zz0,ynew,fillL,zrep]);try simp only[yback])
 generalize hH2:AH.new H1 _=H2
 obtain⟨hb2,p2,n2⟩:=new_facts hH2
 have kv:=kp_new (n:=n) (ns:=[2,2,2,3,5]) hH2 (by omega)
 refine s_l01Pick (s.kp (p1.trans p2)) kv (by simp) (by simp) fun j H3 k3 l3 s3 hj=>?_
 have hp:([2,2,2,3,5]:List Int).getD j 0=2∨([2,2,2,3,5]:List Int).getD j 0=3∨([2,2,2,3,5]:List Int).getD j 0=5:=by
  simp at hj
  have:j=0∨j=1∨j=2∨j=3∨j=4:=by omega
  rcases this with rfl|rfl|rfl|rfl|rfl<;>simp
 generalize ([2,2,2,3,5]:List Int).getD j 0=p at hp
 have g1:=k3.get (by omega) (pre_get p2 hb1)
 ((try simp (maxSteps:=3000000) (dsimp:=false) (disch:=first|omega|simp only[lnx];omega) only[↓ypre,ypost,↓reduceIte,reduceEqDiff,reduceAdd,reduceSub,reduceLeDiff,zz0,ynew,fillL,zrep]);try simp only[yback])
 generalize hH4:AH.new H3 _=H4
 obtain⟨hb4,p4,n4⟩:=new_facts hH4
 ((try simp (maxSteps:=3000000) (dsimp:=false) (disch:=first|omega|simp only[lnx];omega) only[↓ypre,ypost,↓reduceIte,reduceEqDiff,reduceAdd,reduceSub,reduceLeDiff,zz0,ynew,fillL,zrep]);try simp only[yback])
 generalize hH5:AH.new H4 _=H5
 obtain⟨hb5,p5,n5⟩:=new_facts hH5
 have k5:Kp n h H5:=(Kp.of (p1.trans p2)).trans (k3.trans (Kp.of (p4.trans p5)))
 have s5:Src h0 H5 n:=s3.kp (p4.trans p5)
 have g1:=pre_get (p4.trans p5) g1
 have g4:=pre_get p5 hb4
 have g5:=hb5
 have fin:∀ (a b c:Int) (h':AH),Kp n h h'→Src h0 h' n→h'.get h.length=some ⟨[.int .i64 0,.int .i64 0,.int .i64 0,.int .i64 0,.slice none 0 0],26,false,true⟩→h'.get H3.length=some ⟨[],138,false,true⟩ →
   (a=1∨a=2∨a=3)→(b=1∨b=2∨b=3)→(c=1∨c=2∨c=3) →
   Q (schV ⟨p,a,b,c,[]⟩ (.slice (some ⟨H3.length,0,none⟩) 0 27)) (h'.put h.length ⟨[I64 p,I64 a,I64 b,I64 c,.slice (some ⟨H3.length,0,none⟩) 0 27],26,false,true⟩):=fun a b c h' kk ss gg g4 ha hb hc=>
  hQ p a b c H3.length _ (kk.putb (Nat.le_refl _)) (ss.putb (by omega) (by omega)) (by omega) (by rw[get_put_ne (by omega)];exact g4) hp ha hb hc
 have pick3:∀ j,j<([1,2,3]:List Int).length→(([1,2,3]:List Int).getD j 0=1∨([1,2,3]:List Int).getD j 0=2∨([1,2,3]:List Int).getD j 0=3):=fun j hj=>by
  simp at hj
  have:j=0∨j=1∨j=2:=by omega
  rcases this with rfl|rfl|rfl<;>simp
 ((try simp (maxSteps:=3000000) (dsimp:=false) (disch:=first|omega|simp only[lnx];omega) only[↓ypre,ypost,↓reduceIte,reduceEqDiff,reduceAdd,reduceSub,reduceLeDiff,zz0,ynew]);try simp only[yback])
 refine s_l01Next s5 fun r H6 k6 l6 s6 hr _=>?_
 have g1:=k6.get (by omega) g1
 have g4:=k6.get (by omega) g4
 have g5:=k6.get (by omega) g5
 by_cases h0':r=0
 case neg=>
  have lg:=get_lt g1
  ((try simp (maxSteps:=3000000) (dsimp:=false) (disch:=first|omega|simp only[lnx];omega) only[↓ypre,ypost,↓reduceIte,reduceEqDiff,reduceAdd,reduceSub,reduceLeDiff,zz0,ynew,decide_eq_false h0',rdn_of g5,wr_of g1,splice_eq,rdn_put_same]);try simp only[yback])
  exact fin 2 2 2 H6 (k5.trans k6) s6 g1 g4 (by omega) (by omega) (by omega)
 ((try simp (maxSteps:=3000000) (dsimp:=false) (disch:=first|omega|simp only[lnx];omega) only[↓ypre,ypost,↓reduceIte,reduceEqDiff,reduceAdd,reduceSub,reduceLeDiff,zz0,ynew,decide_eq_true h0',fillL,zrep]);try simp only[yback])
 generalize hH7:AH.new H6 _=H7
 obtain⟨hb7,p7,n7⟩:=new_facts hH7
 have kv:=kp_new (n:=n) (ns:=[1,2,3]) hH7 (by omega)
 refine s_l01Pick (s6.kp p7) kv (by simp) (by simp) fun j1 H8 k8 l8 s8 hj1=>?_
 have ha:=pick3 j1 hj1
 generalize ([1,2,3]:List Int).getD j1 0=a at ha
 have g1:=k8.get (by omega) (pre_get p7 g1)
 have g4:=k8.get (by omega) (pre_get p7 g4)
 have g5:=k8.get (by omega) (pre_get p7 g5)
 have k8':Kp n h H8:=(k5.trans k6).trans ((Kp.of p7).trans k8)
 ((try simp (maxSteps:=3000000) (dsimp:=false) (disch:=first|omega|simp only[lnx];omega) only[↓ypre,ypost,↓reduceIte,reduceEqDiff,reduceAdd,reduceSub,reduceLeDiff,zz0,ynew,wr_of g5,splice_eq]);try simp only[yback])
 generalize hH9:AH.put H8 _ _=H9
 obtain⟨q9,l9,o9,u9⟩:=put_facts hH9
 have k9:=u9 _ _ k8' (by omega)
 have s9:=s8.put hH9 (by omega) (by omega)
 have g1:=q9 _ _ (by omega) g1
 have g4:=q9 _ _ (by omega) g4
 have g5':=o9 (get_lt g5)
 ((try simp (maxSteps:=3000000) (dsimp:=false) (disch:=first|omega|simp only[lnx];omega) only[↓ypre,ypost,↓reduceIte,reduceEqDiff,reduceAdd,reduceSub,reduceLeDiff,zz0,ynew,fillL,zrep]);try simp only[yback])
 generalize hH7:AH.new H9 _=HA
 obtain⟨hbA,pA,nA⟩:=new_facts hH7
 have kv:=kp_new (n:=n) (ns:=[1,2,3]) hH7 (by have:=s9.lt;omega)
 refine s_l01Pick (s9.kp pA) kv (by simp) (by simp) fun j2 HB kB lB sB hj2=>?_
 have hb:=pick3 j2 hj2
 generalize ([1,2,3]:List Int).getD j2 0=b at hb
 have g1:=kB.get (by omega) (pre_get pA g1)
 have g4:=kB.get (by omega) (pre_get pA g4)
 have g5:=kB.get (by omega) (pre_get pA g5')
 have kB':Kp n h HB:=k9.trans ((Kp.of pA).trans kB)
 ((try simp (maxSteps:=3000000) (dsimp:=false) (disch:=first|omega|simp only[lnx];omega) only[↓ypre,ypost,↓reduceIte,reduceEqDiff,reduceAdd,reduceSub,reduceLeDiff,zz0,ynew,wr_of g5,splice_eq]);try simp only[yback])
 generalize hHC:AH.put HB _ _=HC
 obtain⟨qC,lC,oC,uC⟩:=put_facts hHC
 have kC:=uC _ _ kB' (by omega)
 have sC:=sB.put hHC (by omega) (by omega)
 have g1:=qC _ _ (by omega) g1
 have g4:=qC _ _ (by omega) g4
 have g5':=oC (get_lt g5)
 ((try simp (maxSteps:=3000000) (dsimp:=false) (disch:=first|omega|simp only[lnx];omega) only[↓ypre,ypost,↓reduceIte,reduceEqDiff,reduceAdd,reduceSub,reduceLeDiff,zz0,ynew,fillL,zrep]);try simp only[yback])
 generalize hH7:AH.new HC _=HD
 obtain⟨hbD,pD,nD⟩:=new_facts hH7
 have kv:=kp_new (n:=n) (ns:=[1,2,3]) hH7 (by have:=sC.lt;omega)
 refine s_l01Pick (sC.kp pD) kv (by simp) (by simp) fun j3 HE kE lE sE hj3=>?_
 have hc:=pick3 j3 hj3
 generalize ([1,2,3]:List Int).getD j3 0=c at hc
 have g1:=kE.get (by omega) (pre_get pD g1)
 have g4:=kE.get (by omega) (pre_get pD g4)
 have g5:=kE.get (by omega) (pre_get pD g5')
 have kE':Kp n h HE:=kC.trans ((Kp.of pD).trans kE)
 have lg:=get_lt g1
 have lg5:=get_lt g5
 ((try simp (maxSteps:=3000000) (dsimp:=false) (disch:=first|omega|simp only[lnx];omega) only[↓ypre,ypost,↓reduceIte,reduceEqDiff,reduceAdd,reduceSub,reduceLeDiff,zz0,ynew,wr_of g5,wr_of g1,splice_eq,rdn_put_same]);try simp only[yback])
 exact hQ p a b c H3.length _ ((kE'.putb (m:=h.length) (Nat.le_refl _)).putb (m:=H4.length) (by omega)) ((sE.putb (m:=h.length) (by omega) (by omega)).putb (m:=H4.length) (by omega) (by omega)) (by omega) (by rw[get_put_ne (by omega),get_put_ne (by omega)];exact g4) hp ha hb hc
def stra (m:Int):List (List Int):=[[1,0,0,1,0,0,0,0,0,1,0,0,1,0,0,0,0,0,1,0,0,1,0,0,0,0,0],
 [0,0,1,1,0,0,0,0,0,1,0,0,0,0,0,0,0,0,0,0,1,m,0,0,0,0,0],
 [1,0,0,0,0,0,0,0,0,0,1,0,m,0,0,0,0,0,0,1,0,1,0,0,0,0,0],
 [0,0,0,1,0,0,0,0,0,m,0,1,0,0,0,0,0,0,1,0,1,0,0,0,0,0,0],
 [1,1,0,0,0,0,0,0,0,0,0,0,1,0,0,0,0,0,m,1,0,0,0,0,0,0,0],
 [m,0,1,0,0,0,0,0,0,1,1,0,0,0,0,0,0,0,0,0,0,1,0,0,0,0,0],
 [0,1,0,m,0,0,0,0,0,0,0,1,1,0,0,0,0,0,1,0,0,0,0,0,0,0,0]]
theorem app_zeroW {e:TypeId} {w bytes:Nat} {h:AH} {k n' off m:Nat} {news:List Value} {full:Bool} (hk:h.get k=some ⟨[],e,false,full⟩) (hn:h.rdn n' off (m*w)=some news) (hm:0<m)
  (hs:(m:Int)*bytes≤140737488355328∧(m:Int)≤9223372036854775807) :
  appV e w bytes (.slice (some ⟨k,0,none⟩) 0 w) (.slice (some ⟨n',off,none⟩) m w) h=some (.slice (some ⟨h.length,0,none⟩) m w,(h.kill k).new ⟨news,e,false,false⟩):=by
 simp only[appV,xop,ev,if_true,hn,hk]
 rw[if_pos (by simpa using hs),if_neg (by omega)]
 simp
theorem s_l01Strassen {h:AH} {p:Int} {Q:Value→AH→Prop} (hp:2≤p∧p≤5)
  (hQ:∀ (nb:Nat) (h':AH),h<+:h'→h.length≤nb→h'.get nb=some ⟨cel .u8 (stra (p-1)).flatten,138,false,false⟩→Q (schV ⟨p,2,2,2,stra (p-1)⟩ (.slice (some ⟨nb,0,none⟩) 7 27)) h'):WF S 321 [I64 p] h Q:=by
 refine WF_fn (fn:=c321) rfl rfl ?_
 dsimp only[c321,oO,oM,oS,oG,oK,oE,oL,oF,oX,oN]
 ((try simp (maxSteps:=3000000) (dsimp:=false) (disch:=first|omega|simp only[lnx];omega) only[↓ypre,ypost,↓reduceIte,reduceEqDiff,reduceAdd,reduceSub,reduceLeDiff,zz0,ynew]);try simp only[yback])
 generalize hH1:AH.new h _=H1
 obtain⟨hb1,p1,n1⟩:=new_facts hH1
 ((try simp (maxSteps:=3000000) (dsimp:=false) (disch:=first|omega|simp only[lnx];omega) only[↓ypre,ypost,↓reduceIte,reduceEqDiff,reduceAdd,reduceSub,reduceLeDiff,zz0,ynew,fillL,zrep]);try simp only[yback])
 generalize hH2:AH.new H1 _=H2
 obtain⟨hb2,p2,n2⟩:=new_facts hH2
 ((try simp (maxSteps:=3000000) (dsimp:=false) (disch:=first|omega|simp only[lnx];omega) only[↓ypre,ypost,↓reduceIte,reduceEqDiff,reduceAdd,reduceSub,reduceLeDiff,zz0,ynew,fillL,zrep]);try simp only[yback])
 generalize hH3:AH.new H2 _=H3
 obtain⟨hb3,p3,n3⟩:=new_facts hH3
 ((try simp (maxSteps:=3000000) (dsimp:=false) (disch:=first|omega|simp only[lnx];omega) only[↓ypre,ypost,↓reduceIte,reduceEqDiff,reduceAdd,reduceSub,reduceLeDiff,zz0,ynew,wrap64_in,wrap8_in,rd1_of hb3,zrep,fillL]);try simp only[yback])
 generalize hH4:AH.new H3 _=H4
 obtain⟨hb4,p4,n4⟩:=new_facts hH4
 have hb4:H4.get H3.length=some ⟨cel .u8 (stra (p-1)).flatten,138,false,true⟩:=hb4
 have g2:=pre_get (p3.trans p4) hb2
 have g3:=pre_get p4 hb3
 have g1:=pre_get (p2.trans (p3.trans p4)) hb1
 have l189:(cel .u8 (stra (p-1)).flatten).length=189:=rfl
 have rd:H4.rdn H3.length 0 (7*27)=some (cel .u8 (stra (p-1)).flatten):=by
  rw[rdn_of hb4]
  rfl
 rw[app_zeroW g2 rd (by omega) (by omega),OQ_some]
 generalize hH5:AH.new _ _=H5
 have k5:∀ m b,m≠H1.length→H4.get m=some b→H5.get m=some b:=fun m b hm g=>by
  rw[←hH5]
  exact get_new_any (by rw[get_kill_ne (Ne.symm hm)];exact g)
 have g5:H5.get H4.length=some ⟨cel .u8 (stra (p-1)).flatten,138,false,false⟩:=by
  rw[←hH5]
  exact get_new_eq (by rw[len_kill])
 have l5:H5.length=H4.length+1:=by rw[←hH5,len_new,len_kill]
 have q5:h<+:H5:=by
  rw[←hH5]
  exact pre_new (pre_kill (p1.trans (p2.trans (p3.trans p4))) (by omega))
 have g3:=k5 _ _ (by omega) g3
 have g1:=k5 _ _ (by omega) g1
 have lg:=get_lt g1
 have lg3:=get_lt g3
 ((try simp (maxSteps:=3000000) (dsimp:=false) (disch:=first|omega|simp only[lnx];omega) only[↓ypre,ypost,↓reduceIte,reduceEqDiff,reduceAdd,reduceSub,reduceLeDiff,zz0,ynew,wr_of g3,wr_of g1,splice_eq,rdn_put_same]);try simp only[yback])
 exact hQ H4.length _ (pre_put (pre_put q5 (Nat.le_refl _)) (by omega)) (by omega) (by rw[get_put_ne (by omega),get_put_ne (by omega)];exact g5)
end Go.Proofs.Ytapafdpnmakekaa.X

set_option linter.unusedVariables false
set_option linter.unusedSimpArgs false
set_option maxRecDepth 20000
set_option maxHeartbeats 4000000
namespace Go.Proofs.Ytapafdpnmakekaa.X
open Go Go.RowKit
section
variable {n m:Nat} {h0 h h' h'':AH}
theorem Kp.over (k:Kp n h h') (d:Kp m h' h'') (hm:h.length≤m):Kp n h h'':=⟨Nat.le_trans k.1 d.1,fun j hj hn=>(d.2 j (Nat.lt_of_lt_of_le hj k.1) (by omega)).trans (k.2 j hj hn)⟩
theorem Src.over (s:Src h0 h' n) (d:Kp m h' h'') (hm:m≠n) (hl:h0.length≤m):Src h0 h'' n:=s.keep (d.pre s.p hl) fun _ g=>d.get (Ne.symm hm) g
end
theorem app_kp {e:TypeId} {k:IntKind} {w bytes nb:Nat} {L:List (List Int)} {q:List Int} {full ro fu:Bool} {H:AH} {e':TypeId} (hk:H.get nb=some ⟨cel k L.flatten,e,false,full⟩) (hw:Wid w L) (hq:q.length=w)
  (hl:((L.length:Int)+1)*bytes≤140737488355328) (hn:(L.length:Int)<1048576) {Q:Value→AH→Prop}
  (hQ:∀ H':AH,H'.length=H.length+2→Kp nb H H'→H'.get (H.length+1)=some ⟨cel k (L++[q]).flatten,e,false,false⟩→Wid w (L++[q])→Q (.slice (some ⟨H.length+1,0,none⟩) (L.length+1) w) H') :
  OQ (appV e w bytes (.slice (some ⟨nb,0,none⟩) L.length w) (.slice (some ⟨H.length,0,none⟩) 1 w) (H.new ⟨cel k q,e',ro,fu⟩)) Q:=by
 have hr:(H.new ⟨cel k q,e',ro,fu⟩).rdn H.length 0 w=some (cel k q):=by
  rw[rdn_of get_new_same]
  simp only
  rw[if_pos (by rw[cel_len,hq];omega),List.drop_zero,List.take_of_length_le (by rw[cel_len,hq];omega)]
 have hk':(H.new ⟨cel k q,e',ro,fu⟩).get nb=some ⟨cel k L.flatten,e,false,full⟩:=get_new_any hk
 have hkb:=get_lt hk
 rw[app_ownW hk' (by rw[cel_len,flat_len hw]) hr ⟨hl,by omega⟩,OQ_some,len_new]
 refine hQ _ (by rw[len_new,len_kill,len_new]) ⟨by rw[len_new,len_kill,len_new];omega,fun j hj hne=>?_⟩ ?_ ?_
 ·have e1:(((H.new ⟨cel k q,e',ro,fu⟩).kill nb).new ⟨cel k L.flatten++cel k q,e,false,false⟩).get j=((H.new ⟨cel k q,e',ro,fu⟩).kill nb).get j:=prefix_get (pre_new (List.prefix_refl _)) (by rw[len_kill,len_new];omega)
  rw[e1,get_kill_ne (Ne.symm hne)]
  exact prefix_get (pre_new (List.prefix_refl _)) hj
 ·rw[get_new_eq (by rw[len_kill,len_new])]
  simp[cel_app]
 ·intro r hr
  rcases List.mem_append.1 hr with hr|hr
  ·exact hw r hr
  ·rw[List.mem_singleton.1 hr,hq]
theorem InE.kN {k:IntKind} {w a b lo:Nat} {h:AH} {v:Value} {L:List (List Int)} (o:InE k w a b h v L) (hn:lo≤a):KN lo h fun h'=>Els k w h' v L:=by
 intro h' l g
 rcases o with⟨rfl,rfl⟩|⟨m,e,full,h1,rfl,h2,h3⟩
 ·exact .inl ⟨rfl,0,by omega,rfl⟩
 ·exact InE.rd (.inr ⟨m,e,full,h1,rfl,by rw[g m (by omega) (get_lt h2)];exact h2,h3⟩)
theorem blk_kN {k:IntKind} {w lo m:Nat} {h:AH} {L:List (List Int)} {e:TypeId} {full:Bool} (hg:h.get m=some ⟨cel k L.flatten,e,false,full⟩) (hw:Wid w L) (hn:lo≤m):KN lo h fun h'=>Els k w h' (.slice (some ⟨m,0,none⟩) L.length w) L:=
 fun h' l g=>InE.rd (.inr ⟨m,e,full,⟨Nat.le_refl _,Nat.lt_succ_self _⟩,rfl,by rw[g m hn (get_lt hg)];exact hg,hw⟩)
theorem stra_wid {m:Int}:Wid 27 (stra m):=by
 intro q hq
 simp only[stra,List.mem_cons,List.not_mem_nil,or_false] at hq
 rcases hq with rfl|rfl|rfl|rfl|rfl|rfl|rfl<;>rfl
theorem stra_isX {p:Int} (hp:p=2∨p=3∨p=5):isX ⟨p,2,2,2,stra (p-1)⟩=true:=by
 rcases hp with rfl|rfl|rfl<;>decide
theorem byt_isX {x:Sch} (hx:isX x=true) (hw:Wid 27 x.ps) (hb:∀ q∈x.ps,∀ j,j<27→0≤q.getD j 0):Byt 27 x.ps:=by
 obtain⟨z,hp,_,ho⟩:=isX_facts hx
 have zp:=z.p
 intro i hi j hj
 have hm:x.ps.getD i []∈x.ps:=by
  rw[List.getD_eq_getElem?_getD,List.getElem?_eq_getElem hi]
  exact List.getElem_mem _
 refine⟨hb _ hm j hj,?_⟩
 have h1:=ho i hi
 unfold okProd at h1
 simp only[Bool.and_eq_true] at h1
 have at9:∀ s,s<3→∀ l,l<9→(seg (x.ps.getD i []) s).getD l 0<x.p:=fun s hs l hl=>by
  have:s=0∨s=1∨s=2:=by omega
  rcases this with rfl|rfl|rfl
  ·exact (okForm_at h1.1.1.1 hl).1
  ·exact (okForm_at h1.1.1.2 hl).1
  ·exact (okForm_at h1.1.2 hl).1
 have h2:=at9 (j / 9) (by omega) (j%9) (by omega)
 have e:(seg (x.ps.getD i []) (j / 9)).getD (j%9) 0=(x.ps.getD i []).getD j 0:=by
  unfold seg
  rw[cut_get (by omega)]
  congr 1
  omega
 rw[e] at h2
 omega
theorem std_isX {p n m k:Int} (hp:p=2∨p=3∨p=5) (hn:n=1∨n=2∨n=3) (hm:m=1∨m=2∨m=3) (hk:k=1∨k=2∨k=3):isX (stdX p n m k)=true:=by
 rcases hp with rfl|rfl|rfl<;>rcases hn with rfl|rfl|rfl<;>rcases hm with rfl|rfl|rfl<;>rcases hk with rfl|rfl|rfl<;>decide +kernel
end Go.Proofs.Ytapafdpnmakekaa.X

set_option linter.unusedVariables false
set_option linter.unusedSimpArgs false
set_option maxRecDepth 20000
set_option maxHeartbeats 4000000
namespace Go.Proofs.Ytapafdpnmakekaa.X
open Go Go.RowKit
open Nat (reduceEqDiff reduceAdd reduceSub reduceLeDiff)
theorem By.nn {w:Nat} {q:List Int} (h:By w q):∀ j,j<w→0≤q.getD j 0:=fun j hj=>(h.2 j hj).1
structure DL (x:Sch) (L:List (List Int)):Prop where
 w:Wid 27 L
 by':∀ q∈L,By 27 q
 ok:∀ q∈L,okProd x q=true
theorem DL.nil {x:Sch}:DL x []:=⟨fun q h=>by simp at h,fun q h=>by simp at h,fun q h=>by simp at h⟩
theorem DL.snoc {x:Sch} {L:List (List Int)} {q:List Int} (d:DL x L) (hb:By 27 q) (ho:okProd x q=true):DL x (L++[q]):=by
 refine⟨fun r h=>?_,fun r h=>?_,fun r h=>?_⟩<;>rcases List.mem_append.1 h with h|h
 ·exact d.w r h
 ·rw[List.mem_singleton.1 h];exact hb.1
 ·exact d.by' r h
 ·rw[List.mem_singleton.1 h];exact hb
 ·exact d.ok r h
 ·rw[List.mem_singleton.1 h];exact ho
theorem DL.byt {x:Sch} {L:List (List Int)} (d:DL x L):Byt 27 L:=fun i hi j hj=>by
 have hm:L.getD i []∈L:=by
  rw[List.getD_eq_getElem?_getD,List.getElem?_eq_getElem hi]
  exact List.getElem_mem _
 exact (d.by' _ hm).2 j hj
theorem DL.isX {x:Sch} (d:DL x x.ps) (hs:szX x=true) (hl:x.ps.length≤30):isX x=true:=by
 unfold X.isX
 rw[hs,decide_eq_true hl]
 simp only[Bool.true_and]
 exact List.all_eq_true.2 d.ok
def NK (v:Value):Prop:=v=.slice none 0 0∨∃ b n w,v=.slice (some ⟨b,0,none⟩) n w
theorem InE.nk {k:IntKind} {w a b:Nat} {h:AH} {v:Value} {L:List (List Int)} (o:InE k w a b h v L):NK v:=by
 rcases o with⟨rfl,_⟩|⟨m,e,full,_,rfl,_⟩
 ·exact .inl rfl
 ·exact .inr ⟨_,_,_,rfl⟩
def SchD (lo:Nat) (h:AH) (v:Value) (x:Sch):Prop:=KN lo h fun h'=>Prods h' v x.ps
theorem zrep27:zrep 1 [.int .u8 0,.int .u8 0,.int .u8 0,.int .u8 0,.int .u8 0,.int .u8 0,.int .u8 0,.int .u8 0,.int .u8 0,.int .u8 0,.int .u8 0,.int .u8 0,.int .u8 0,.int .u8 0,.int .u8 0,.int .u8 0,.int .u8 0,.int .u8 0,.int .u8 0,.int .u8 0,.int .u8 0,.int .u8 0,.int .u8 0,.int .u8 0,.int .u8 0,.int .u8 0,.int .u8 0]=cel .u8 (List.replicate 27 0):=rfl
theorem sp27z {q:List Int} (hq:q.length=27):splice (cel .u8 (List.replicate 27 0)) 0 (cel .u8 q)=cel .u8 q:=splice_27 hq
theorem s_l01Draw {h0 h:AH} {n:Nat} {Q:Value→AH→Prop} (s:Src h0 h n)
  (hQ:∀ x v h',Kp n h h'→Src h0 h' n→SchD h.length h' v x→X.isX x=true→NK v→Q (schV x v) h'):WF S 266 [srcP n] h Q:=by
 refine WF_fn (fn:=c266) rfl rfl ?_
 dsimp only[c266,oO,oM,oS,oG,oK,oE,oL,oF,oX,oN]
 have lt:=s.lt
 have l0:=pre_len s.p
 ((try simp (maxSteps:=3000000) (dsimp:=false) (disch:=first|omega|simp only[lnx];omega) only[↓ypre,ypost,↓reduceIte,reduceEqDiff,reduceAdd,reduceSub,reduceLeDiff,zz0,ynew]);try simp only[yback])
 generalize hH1:AH.new h _=H1
 obtain⟨hb1,p1,n1⟩:=new_facts hH1
 refine s_l01DrawSizes (s.kp p1) fun p a b c nb H2 k2 s2 hnb gnb hp ha hb hc=>?_
 have g1:=k2.get (by omega) hb1
 ((try simp (maxSteps:=3000000) (dsimp:=false) (disch:=first|omega|simp only[lnx];omega) only[↓ypre,ypost,↓reduceIte,reduceEqDiff,reduceAdd,reduceSub,reduceLeDiff,zz0,ynew,schV,one_slice]);try simp only[yback])
 generalize hH3:AH.new H2 _=H3
 obtain⟨hb3,p3,n3⟩:=new_facts hH3
 have k3:Kp n h H3:=(Kp.of p1).trans (k2.trans (Kp.of p3))
 have l2:=k2.len
 have szx:szX ⟨p,a,b,c,[]⟩=true:=by
  unfold szX
  rw[isP_of hp,sz_of ha,sz_of hb,sz_of hc]
  rfl
 have z:=szX_facts szx
 have zp:=z.p
 ((try simp (maxSteps:=3000000) (dsimp:=false) (disch:=first|omega|simp only[lnx];omega) only[↓ypre,ypost,↓reduceIte,reduceEqDiff,reduceAdd,reduceSub,reduceLeDiff,zz0,ynew]);try simp only[yback])
 refine s_l01Next (s2.kp p3) fun r H4 k4 l4 s4 hr _=>?_
 have g1:=k4.get (by omega) (pre_get p3 g1)
 have g3:=k4.get (by omega) hb3
 have gn:=k4.get (by omega) (pre_get p3 gnb)
 have fin:∀ (x:Sch) (v:Value) (h':AH),Kp n h h'→Src h0 h' n→SchD h.length (h'.put h.length ⟨[I64 x.p,I64 x.n,I64 x.m,I64 x.k,v],26,false,true⟩) v x→X.isX x=true→NK v →
   Q (schV x v) (h'.put h.length ⟨[I64 x.p,I64 x.n,I64 x.m,I64 x.k,v],26,false,true⟩):=fun x v h' kk ss sd hx nk=>
  hQ x v _ (kk.putb (Nat.le_refl _)) (ss.putb (by omega) (by omega)) sd hx nk
 have k4':=k3.trans k4
 by_cases r0:r=0
 ·((try simp (maxSteps:=3000000) (dsimp:=false) (disch:=first|omega|simp only[lnx];omega) only[↓ypre,ypost,↓reduceIte,reduceEqDiff,reduceAdd,reduceSub,reduceLeDiff,zz0,ynew,decide_eq_true r0,rd1_of g3]);try simp only[yback])
  refine s_l01Strassen zp fun m H5 p5 hm gm=>?_
  have g1:=pre_get p5 g1
  have lg:=get_lt g1
  ((try simp (maxSteps:=3000000) (dsimp:=false) (disch:=first|omega|simp only[lnx];omega) only[↓ypre,ypost,↓reduceIte,reduceEqDiff,reduceAdd,reduceSub,reduceLeDiff,zz0,ynew,schV,wr_of g1,splice_eq,rdn_put_same]);try simp only[yback])
  have l5:=pre_len p5
  exact fin ⟨p,2,2,2,stra (p-1)⟩ _ H5 (k4'.trans (Kp.of p5)) (s4.kp p5) (fun h' d d'=>⟨blk_kN (L:=stra (p-1)) (by rw[get_put_ne (by omega)];exact gm) stra_wid (by omega) h' d d',
   byt_isX (x:=⟨p,2,2,2,stra (p-1)⟩) (stra_isX hp) stra_wid (fun q hq j hj=>by
    simp only[stra,List.mem_cons,List.not_mem_nil,or_false] at hq
    have:∀ l:List Int,(∀ x∈l,0≤x)→0≤l.getD j 0:=fun l hl=>by
     by_cases hj:j<l.length
     ·rw[List.getD_eq_getElem?_getD,List.getElem?_eq_getElem hj]
      exact hl _ (List.getElem_mem _)
     ·rw[List.getD_eq_getElem?_getD,List.getElem?_eq_none (by omega)]
      exact Int.le_refl _
    refine this q ?_
    rcases hq with rfl|rfl|rfl|rfl|rfl|rfl|rfl<;>intro x hx<;>simp only[List.mem_cons,List.not_mem_nil,or_false] at hx<;>omega)⟩) (stra_isX hp) (.inr ⟨_,_,_,rfl⟩)
 by_cases r1:r=1
 ·((try simp (maxSteps:=3000000) (dsimp:=false) (disch:=first|omega|simp only[lnx];omega) only[↓ypre,ypost,↓reduceIte,reduceEqDiff,reduceAdd,reduceSub,reduceLeDiff,zz0,ynew,decide_eq_false r0,decide_eq_true r1,rd1_of g3]);try simp only[yback])
  refine s_l01Standard (szX_facts (x:=stdX p a b c) szx) fun v H5 p5 o5=>?_
  have g1:=pre_get p5 g1
  have lg:=get_lt g1
  have l5:=pre_len p5
  ((try simp (maxSteps:=3000000) (dsimp:=false) (disch:=first|omega|simp only[lnx];omega) only[↓ypre,ypost,↓reduceIte,reduceEqDiff,reduceAdd,reduceSub,reduceLeDiff,zz0,ynew,schV,o5.rd.one,wr_of g1,splice_eq,rdn_put_same]);try simp only[yback])
  have o6:InX H4.length H5.length (AH.put H5 h.length ⟨[I64 p,I64 a,I64 b,I64 c,v],26,false,true⟩) v (stdX p a b c).ps:=⟨o5.1.putb (by omega),o5.2⟩
  exact fin (stdX p a b c) v H5 (k4'.trans (Kp.of p5)) (s4.kp p5) (fun h' d d'=>⟨o6.1.kN (by omega) h' d d',o6.2⟩) (std_isX hp ha hb hc) o5.1.nk
 ((try simp (maxSteps:=3000000) (dsimp:=false) (disch:=first|omega|simp only[lnx];omega) only[↓ypre,ypost,↓reduceIte,reduceEqDiff,reduceAdd,reduceSub,reduceLeDiff,zz0,ynew,decide_eq_false r0,decide_eq_false r1]);try simp only[yback])
 refine s_l01Next s4 fun N H5 k5 l5 s5 hN _=>?_
 have hN:=hN (by omega)
 have g1:=k5.get (by omega) g1
 have g3:=k5.get (by omega) g3
 have gn:=k5.get (by omega) gn
 obtain⟨M,rfl⟩:∃ M:Nat,N=M:=⟨N.toNat,by omega⟩
 ((try simp (maxSteps:=3000000) (dsimp:=false) (disch:=first|omega|simp only[lnx];omega) only[↓ypre,ypost,↓reduceIte,reduceEqDiff,reduceAdd,reduceSub,reduceLeDiff,zz0,ynew]);try simp only[yback])
 refine WC_loop_inv (fun m f K1=>∃ (i:Nat) (L:List (List Int)) (b2:Nat) (fu:Bool),m=M-i∧i≤M∧f 0=srcP n∧f 2=.pointer (some ⟨h.length,0,none⟩)∧f 3=.pointer (some ⟨H2.length,0,none⟩)∧f 4=I64 ((M-i:Nat):Int)∧(Kp n h K1)∧(Src h0 K1 n)∧(L.length=i)∧(DL ⟨p,a,b,c,[]⟩ L)∧(h.length<b2∧b2≠H2.length∧b2≠n)∧(K1.get h.length=some ⟨[.int .i64 0,.int .i64 0,.int .i64 0,.int .i64 0,.slice none 0 0],26,false,true⟩)∧(K1.get H2.length=some ⟨[I64 p,I64 a,I64 b,I64 c,.slice (some ⟨b2,0,none⟩) L.length 27],26,false,true⟩)∧(K1.get b2=some ⟨cel .u8 L.flatten,138,false,fu⟩)) ?_ (M-0) _ _ ⟨0,[],nb,true,rfl,by omega,(by first|rfl|simp[upd_apply]),(by first|rfl|simp[upd_apply]),(by first|rfl|simp[upd_apply]),(by first|rfl|simp[upd_apply]),k4'.trans k5,s5,rfl,DL.nil,(by have:=get_lt gnb;omega),g1,g3,gn⟩
 rintro m f K1 ⟨i,L,b2,fu,rfl,hi,f0,f2,f3,f4,kk,ss,li,dl,hb2,q1,q3,qn⟩
 by_cases hlt:(0:Int)<((M-i:Nat):Int)
 ·((try simp (maxSteps:=3000000) (dsimp:=false) (disch:=first|omega|simp only[lnx];omega) only[↓ypre,ypost,↓reduceIte,reduceEqDiff,reduceAdd,reduceSub,reduceLeDiff,zz0,ynew,f0,f2,f3,f4,decide_eq_true hlt,rd1_of q3,rdn_of q3,List.length_cons,List.length_nil,List.drop_zero,List.take_succ_cons,List.take_nil]);try simp only[yback])
  refine⟨by omega,?_⟩
  refine s_l01DrawOf ss (x:=⟨p,a,b,c,[]⟩) z rfl fun q H6 k6 s6 hq oq=>?_
  have q1:=k6.get (by omega) q1
  have q3:=k6.get (by omega) q3
  have qn:=k6.get (by omega) qn
  have lq6:=get_lt q3
  have ln6:=s6.lt
  have lh6:=get_lt q1
  refine⟨⟨n,rfl,k6⟩,?_⟩
  ((try simp (maxSteps:=3000000) (dsimp:=false) (disch:=first|omega|simp only[lnx];omega) only[↓ypre,ypost,↓reduceIte,reduceEqDiff,reduceAdd,reduceSub,reduceLeDiff,zz0,ynew,f0,f2,f3,f4,aggV,zrep27,hq.1,cel_len,sp27z,List.append_nil,cel_all]);try simp only[yback])
  refine app_kp (bytes:=27) qn dl.w hq.1 (by omega) (by omega) fun H7 l7 k7 q7 w7=>?_
  have q1:=k7.get (by omega) q1
  have q3:=k7.get (by omega) q3
  ((try simp (maxSteps:=3000000) (dsimp:=false) (disch:=first|omega|simp only[lnx];omega) only[↓ypre,ypost,↓reduceIte,reduceEqDiff,reduceAdd,reduceSub,reduceLeDiff,zz0,ynew,f0,f2,f3,f4,wr_of q3,splice_eq,wrap64_in]);try simp only[yback])
  have lt6:=s6.lt
  have lq3:=get_lt q3
  refine InvQ_go (M-(i+1)) (by omega) ⟨(i+1),(L++[q]),(H6.length+1),false,rfl,by omega,(by first|rfl|exact f0|(simp only[upd_apply];rfl)|(show I64 _=_;congr 1;omega)),(by first|rfl|exact f2|(simp only[upd_apply];rfl)|(show I64 _=_;congr 1;omega)),(by first|rfl|exact f3|(simp only[upd_apply];rfl)|(show I64 _=_;congr 1;omega)),(by first|rfl|exact f4|(simp only[upd_apply];rfl)|(show I64 _=_;congr 1;omega)),(Kp.putb (m:=H2.length) ((kk.trans k6).over k7 (by omega)) (by omega)),(Src.putb (m:=H2.length) (s6.over k7 (by omega) (by omega)) (by omega) (by omega)),(by rw[List.length_append,li];rfl),(dl.snoc hq oq),(by have:=k6.len;have:=kk.len;omega),(by rw[get_put_ne (by omega)];exact q1),(by rw[get_put_same (by omega),List.length_append];rfl),(by rw[get_put_ne (by omega)];exact q7)⟩
 ·((try simp (maxSteps:=3000000) (dsimp:=false) (disch:=first|omega|simp only[lnx];omega) only[↓ypre,ypost,↓reduceIte,reduceEqDiff,reduceAdd,reduceSub,reduceLeDiff,zz0,ynew,f0,f2,f3,f4,decide_eq_false hlt]);try simp only[yback])
  have lg:=get_lt q1
  ((try simp (maxSteps:=3000000) (dsimp:=false) (disch:=first|omega|simp only[lnx];omega) only[↓ypre,ypost,↓reduceIte,reduceEqDiff,reduceAdd,reduceSub,reduceLeDiff,zz0,ynew,f0,f2,f3,f4,rdn_of q3,wr_of q1,splice_eq,rdn_put_same]);try simp only[yback])
  exact fin ⟨p,a,b,c,L⟩ _ K1 kk ss (fun h' d d'=>⟨blk_kN (L:=L) (by rw[get_put_ne (by omega)];exact qn) dl.w (by omega) h' d d',dl.byt⟩) (DL.isX (x:=⟨p,a,b,c,L⟩) ⟨dl.w,dl.by',dl.ok⟩ szx (by show L.length≤30;omega)) (.inr ⟨_,_,_,rfl⟩)
end Go.Proofs.Ytapafdpnmakekaa.X
