/- Texts of one claim, put together by merge.py: XS13, XS14, XS15, XM7, XDE, XR3, XF36, XM1, XR4, XDH, XDS, XArgs, XA2, XA3, XA5, XHGA. -/
import Derived.Test.YtapafdpnmakekaaGA10
import Derived.Test.YtapafdpnmakekaaGA8
import Derived.Test.YtapafdpnmakekaaGA9
import Derived.Test.YtapafdpnmakekaaGA7
import Derived.Test.YtapafdpnmakekaaGA3
import Derived.Deep.Slices
import Derived.WideKeyArgs
import Derived.ChangeOld
import Derived.ChangeArms
import Derived.OpenShut
import Derived.Test.YtapafdpnmakekaaRows
import Derived.ProofKit
import Derived.ShutString
import Derived.Below
import Derived.SizedLaws
set_option linter.unusedVariables false
set_option linter.unusedSimpArgs false
set_option maxRecDepth 20000
set_option maxHeartbeats 4000000
namespace Go.Proofs.Ytapafdpnmakekaa.X
open Go Go.RowKit
open Nat (reduceEqDiff reduceAdd reduceSub reduceLeDiff)
theorem mn_gt {a:Int}:(1000000000000000<mn a)↔1000000000000000<a:=by unfold mn;split<;>omega
theorem i_repeated {v:Value} {x:Sch} {k:Nat} {b:Int} {h:AH} {Q:Value→AH→Prop} (hv:Prods h v x.ps) (hx:isX x=true) (hk:k≤8) (hb:1≤b∧b≤6561000) (hb0:b≤100000∨k=0) (hbk:b*x.n^k≤6561000)
  (hQ:∀ h',h<+:h'→(b≤100000→Q (repV (repX x k b)) h')∧(100000<b→∀ t s:Int,0≤t∧t≤1000000000000001→0≤s∧s≤1000000000000001→Q (.tuple #[I64 t,I64 s,.bool false]) h')):WF S 232 [schV x v,I64 k,I64 b] h Q:=by
 refine WF_fn (fn:=c232) rfl rfl ?_
 dsimp only[c232,oO,oM,oS,oG,oK,oE,oL,oF,oX,oN]
 have z:=(isX_sz hx).1
 have hl:=(isX_sz hx).2
 have hM:=more_in hx hv.1.widL
 have zn:=z.n
 have b2:=mul_in1 (A:=6561000) (B:=6561000) hb hb
 have mb2:mn (b*b)=b*b:=mn_id (by omega)
 have b3:=Int.mul_nonneg (show 0≤b*b by omega) (show 0≤b by omega)
 have b3m:=Int.mul_nonneg (show 0≤b*b by omega) (show 0≤b-1 by omega)
 have e3m:b*b*(b-1)=b*b*b-b*b:=by rw[Int.mul_sub,Int.mul_one]
 try simp (maxSteps:=3000000) (disch:=first|omega|simp only[lnx];omega) only[↓xpre,xpost,↓reduceIte,reduceEqDiff,reduceAdd,reduceSub,reduceLeDiff,zz0,schV,hv.one]
 generalize hH1:AH.new h _=H1
 obtain⟨hb1,p1,n1⟩:=new_facts hH1
 try simp (maxSteps:=3000000) (disch:=first|omega|simp only[lnx];omega) only[↓xpre,xpost,↓reduceIte,reduceEqDiff,reduceAdd,reduceSub,reduceLeDiff,zz0,rdn_of hb1]
 refine i_costOf (hv.pre p1) hl fun H2 p2=>?_
 have hb1:=pre_get p2 hb1
 have w1:∀ (h1:AH) (e:TypeId),(h1.new ⟨[.int .i64 0,.int .i64 0,.int .i64 0,.int .i64 0],e,false,true⟩).wr h1.length 0 (cel .i64 (costL x))=some (h1.new ⟨cel .i64 (costL x),e,false,true⟩):=fun h1 e=>wr_all rfl
 try simp (maxSteps:=3000000) (disch:=first|omega|simp only[lnx];omega) only[↓xpre,xpost,↓reduceIte,reduceEqDiff,reduceAdd,reduceSub,reduceLeDiff,zz0,aggV,cel_all,cel_len,costL_len,↓w1,List.append_nil,fillL,zrep]
 generalize hH3:AH.new H2 _=H3
 obtain⟨hb3,p3,n3⟩:=new_facts hH3
 generalize hH4:AH.new H3 _=H4
 obtain⟨hb4,p4,n4⟩:=new_facts hH4
 refine i_lim1 hb4 (by omega) (by omega) fun H5 p5=>?_
 rw[mb2]
 try simp (maxSteps:=3000000) (disch:=first|omega|simp only[lnx];omega) only[↓xpre,xpost,↓reduceIte,reduceEqDiff,reduceAdd,reduceSub,reduceLeDiff,zz0,fillL,zrep]
 generalize hH6:AH.new H5 _=H6
 obtain⟨hb6,p6,n6⟩:=new_facts hH6
 refine i_lim1 hb6 (by omega) (by omega) fun H7 p7=>?_
 try simp (maxSteps:=3000000) (disch:=first|omega|simp only[lnx];omega) only[↓xpre,xpost,↓reduceIte,reduceEqDiff,reduceAdd,reduceSub,reduceLeDiff,zz0,fillL,zrep,wrap64_in]
 generalize hH8:AH.new H7 _=H8
 obtain⟨hb8,p8,n8⟩:=new_facts hH8
 refine i_lim1 hb8 (by omega) (by omega) fun H9 p9=>?_
 have hc9:=pre_get (((p4.trans p5).trans (p6.trans p7)).trans (p8.trans p9)) hb3
 have hb9:=pre_get ((((p3.trans p4).trans p5).trans (p6.trans p7)).trans (p8.trans p9)) hb1
 have ph:=(p1.trans p2).trans ((((p3.trans p4).trans p5).trans (p6.trans p7)).trans (p8.trans p9))
 rw[e3m]
 have c0:=cw_in x.ps 0 x.ps.length
 have c1:=cw_in x.ps 1 x.ps.length
 have c2:=cq_in x.ps x.ps.length 9
 have c2':(x.ps.length:Int)*((9:Nat):Int)≤30*9:=(mul_in (A:=30) (B:=9) (by omega) (by omega)).2
 try simp (maxSteps:=3000000) (disch:=first|omega|simp only[lnx];omega) only[↓xpre,xpost,↓reduceIte,reduceEqDiff,reduceAdd,reduceSub,reduceLeDiff,zz0]
 by_cases hbig:100000<b
 ·have hk0:k=0:=by omega
  subst hk0
  have b2big:10000000000≤b*b:=by
   have:=(mul_in1 (a:=100000) (b:=100000) (A:=b) (B:=b) (by omega) (by omega)).2
   omega
  have hm:mn (b*b*b)=1000000000000001:=by
   have h1:=Int.mul_le_mul_of_nonneg_left (show 100001≤b by omega) (show 0≤b*b by omega)
   unfold mn
   rw[if_pos (by omega)]
  have ms:=mn_in (show 0≤b*b*b-b*b by omega)
  rw[hm]
  refine WC_loop ?_
  try simp (maxSteps:=3000000) (disch:=first|omega|simp only[lnx];omega) only[↓xpre,xpost,↓reduceIte,reduceEqDiff,reduceAdd,reduceSub,reduceLeDiff,zz0,decide_eq_false (show ¬ ((0:Int)<((0:Nat):Int)) by omega),decide_eq_false (show ¬ ((1000000000000001:Int)≤1000000000000000) by omega),WG_un,xres_tmp3]
  exact (hQ _ ph).2 hbig _ _ (by omega) ms
 have hb5:b≤100000:=by omega
 have hQ:=fun h' p=>(hQ h' p).1 hb5
 have b2:=mul_in1 (A:=100000) (B:=100000) ⟨hb.1,hb5⟩ ⟨hb.1,hb5⟩
 have b3:=mul_in1 (a:=b*b) (b:=b) (A:=10000000000) (B:=100000) (by omega) ⟨hb.1,hb5⟩
 have b3':b*b≤b*b*b:=by
  have:=Int.mul_le_mul_of_nonneg_left hb.1 (show 0≤b*b by omega)
  rw[Int.mul_one] at this
  exact this
 rw[mn_id (a:=b*b*b) (by omega),mn_id (a:=b*b*b-b*b) (by omega)]
 refine WC_loop_inv (fun m f K1=>∃ (i:Nat) (t:Int) (s:Int) (w:Int),m=k-i∧i≤k∧f 3=.pointer (some ⟨h.length,0,none⟩)∧f 9=.pointer (some ⟨H2.length,0,none⟩)∧f 11=I64 t∧f 12=I64 s∧f 13=I64 w∧f 33=I64 k∧f 34=I64 i∧(H9<+:K1)∧(rep x.ps.length (more x) x.n (k-i) t s w=repX x k b)∧(0≤t∧t≤1000000000000000)∧(0≤s∧s≤1000000000000000)∧(1≤w∧w*x.n^(k-i)≤6561000)) ?_ (k-0) _ _ ⟨0,b*b*b,b*b*b-b*b,b,rfl,by omega,(by first|rfl|simp[upd_apply]),(by first|rfl|simp[upd_apply]),(by first|rfl|simp[upd_apply]),(by first|rfl|simp[upd_apply]),(by first|rfl|simp[upd_apply]),(by first|rfl|simp[upd_apply]),(by first|rfl|simp[upd_apply]),List.prefix_refl _,rfl,(by omega),(by omega),⟨hb.1,hbk⟩⟩
 rintro m f K1 ⟨i,t,s,w,rfl,hi,f3,f9,f11,f12,f13,f33,f34,pp,hr,ht,hs,hw⟩
 have hcK:=pre_get pp hc9
 have hbK:=pre_get pp hb9
 by_cases hlt:(i:Int)<k
 ·have hi':i<k:=by omega
  have hwl:=size_in (by omega) hw
  obtain⟨w2,w3,w4⟩:=zz_in ⟨hw.1,hwl⟩ hM
  have ta:=mul_in (a:=t) (b:=(x.ps.length:Int)) (A:=1000000000000000) (B:=30) ht (by omega)
  have sa:=mul_in (a:=s) (b:=(x.ps.length:Int)) (A:=1000000000000000) (B:=30) hs (by omega)
  have wn:=mul_in1 (a:=w) (b:=x.n) (A:=6561000) (B:=3) ⟨hw.1,hwl⟩ zn
  have hrs:rep x.ps.length (more x) x.n (k-i) t s w=if 1000000000000000<t*x.ps.length∨1000000000000000<s*x.ps.length∨1000000000000000<s*x.ps.length+more x*w*w then none else rep x.ps.length (more x) x.n (k-(i+1)) (t*x.ps.length) (s*x.ps.length+more x*w*w) (w*x.n):=by
   rw[show k-i=(k-(i+1))+1 by omega]
   rfl
  rw[hrs] at hr
  have ix0:∀ n:Nat,ixaV 4 1 (.pointer (some ⟨n,0,none⟩)) (I64 0)=some (.pointer (some ⟨n,0,none⟩)):=fun n=>rfl
  have ix1:∀ n:Nat,ixaV 4 1 (.pointer (some ⟨n,0,none⟩)) (I64 1)=some (.pointer (some ⟨n,1,none⟩)):=fun n=>rfl
  have ix2:∀ n:Nat,ixaV 4 1 (.pointer (some ⟨n,0,none⟩)) (I64 2)=some (.pointer (some ⟨n,2,none⟩)):=fun n=>rfl
  have ix3:∀ n:Nat,ixaV 4 1 (.pointer (some ⟨n,0,none⟩)) (I64 3)=some (.pointer (some ⟨n,3,none⟩)):=fun n=>rfl
  have r0:AH.rd1 K1 H2.length 0=some (I64 x.ps.length):=by rw[rd1_of hcK];rfl
  have r1:AH.rd1 K1 H2.length 1=some (I64 (cw x.ps 0 x.ps.length)):=by rw[rd1_of hcK];rfl
  have r2:AH.rd1 K1 H2.length 2=some (I64 (cw x.ps 1 x.ps.length)):=by rw[rd1_of hcK];rfl
  have r3:AH.rd1 K1 H2.length 3=some (I64 (cq x.ps x.ps.length 9)):=by rw[rd1_of hcK];rfl
  have em:cw x.ps 0 x.ps.length+cw x.ps 1 x.ps.length+cq x.ps x.ps.length 9=more x:=rfl
  try simp (maxSteps:=3000000) (disch:=first|omega|simp only[lnx];omega) only[↓xpre,xpost,↓reduceIte,reduceEqDiff,reduceAdd,reduceSub,reduceLeDiff,zz0,f3,f9,f11,f12,f13,f33,f34,decide_eq_true hlt,↓WX_ixa,ix0,ix1,ix2,ix3,r0,r1,r2,r3,wrap64_in,fillL,zrep,em]
  generalize hHa:AH.new K1 _=Ha
  obtain⟨hba,pa,na⟩:=new_facts hHa
  refine i_lim1 hba (by omega) (by omega) fun Hb pb=>?_
  rw[mn_id (a:=w*w) (by omega)]
  try simp (maxSteps:=3000000) (disch:=first|omega|simp only[lnx];omega) only[↓xpre,xpost,↓reduceIte,reduceEqDiff,reduceAdd,reduceSub,reduceLeDiff,zz0,f3,f9,f11,f12,f13,f33,f34,fillL,zrep]
  refine⟨pb,?_⟩
  generalize hHc:AH.new Hb _=Hc
  obtain⟨hbc,pc,nc⟩:=new_facts hHc
  refine i_lim2 hbc hs.1 (by omega) hM.1 (by omega) fun Hd pd=>?_
  have eass:more x*(w*w)=more x*w*w:=(Int.mul_assoc _ _ _).symm
  rw[eass]
  have hcd:=pre_get ((pa.trans pb).trans (pc.trans pd)) hcK
  have hbd:=pre_get ((pa.trans pb).trans (pc.trans pd)) hbK
  have r0':AH.rd1 Hd H2.length 0=some (I64 x.ps.length):=by rw[rd1_of hcd];rfl
  try simp (maxSteps:=3000000) (disch:=first|omega|simp only[lnx];omega) only[↓xpre,xpost,↓reduceIte,reduceEqDiff,reduceAdd,reduceSub,reduceLeDiff,zz0,f3,f9,f11,f12,f13,f33,f34,↓WX_ixa,ix0,r0',fillL,zrep]
  generalize hHe:AH.new Hd _=He
  obtain⟨hbe,pe,ne⟩:=new_facts hHe
  refine i_lim1 hbe ht.1 (by omega) fun Hf pf=>?_
  have hbf:=pre_get (pe.trans pf) hbd
  have pz:=pp.trans (((pa.trans pb).trans (pc.trans pd)).trans (pe.trans pf))
  have mt:=@mn_gt (t*x.ps.length)
  have ms:=@mn_gt (s*x.ps.length+more x*w*w)
  have hQ2:=hQ _ (ph.trans pz)
  by_cases k1:1000000000000000<mn (t*x.ps.length)
  ·try simp (maxSteps:=3000000) (disch:=first|omega|simp only[lnx];omega) only[↓xpre,xpost,↓reduceIte,reduceEqDiff,reduceAdd,reduceSub,reduceLeDiff,zz0,f3,f9,f11,f12,f13,f33,f34,rd1_of hbf,wrap64_in,decide_eq_true k1,WG_un,xres_tmp3]
   rw[←hr,if_pos (.inl (mt.1 k1))] at hQ2
   exact hQ2
  by_cases k2:1000000000000000<mn (s*x.ps.length+more x*w*w)
  ·try simp (maxSteps:=3000000) (disch:=first|omega|simp only[lnx];omega) only[↓xpre,xpost,↓reduceIte,reduceEqDiff,reduceAdd,reduceSub,reduceLeDiff,zz0,f3,f9,f11,f12,f13,f33,f34,rd1_of hbf,wrap64_in,decide_eq_false k1,decide_eq_true k2,xres_tmp3]
   rw[←hr,if_pos (.inr (.inr (ms.1 k2)))] at hQ2
   exact hQ2
  ·have q1:¬ 1000000000000000<t*x.ps.length:=fun e=>k1 (mt.2 e)
   have q2:¬ 1000000000000000<s*x.ps.length+more x*w*w:=fun e=>k2 (ms.2 e)
   rw[if_neg (by omega)] at hr
   have it:=mn_id (a:=t*x.ps.length) (by omega)
   have is:=mn_id (a:=s*x.ps.length+more x*w*w) (by omega)
   try simp (maxSteps:=3000000) (disch:=first|omega|simp only[lnx];omega) only[↓xpre,xpost,↓reduceIte,reduceEqDiff,reduceAdd,reduceSub,reduceLeDiff,zz0,f3,f9,f11,f12,f13,f33,f34,rd1_of hbf,wrap64_in,decide_eq_false k1,decide_eq_false k2]
   rw[it,is]
   refine InvQ_go (k-(i+1)) (by omega) ⟨(i+1),(t*x.ps.length),(s*x.ps.length+more x*w*w),(w*x.n),rfl,by omega,(by first|rfl|exact f3|(simp only[upd_apply];rfl)|(show I64 _=_;congr 1;omega)),(by first|rfl|exact f9|(simp only[upd_apply];rfl)|(show I64 _=_;congr 1;omega)),(by first|rfl|exact f11|(simp only[upd_apply];rfl)|(show I64 _=_;congr 1;omega)),(by first|rfl|exact f12|(simp only[upd_apply];rfl)|(show I64 _=_;congr 1;omega)),(by first|rfl|exact f13|(simp only[upd_apply];rfl)|(show I64 _=_;congr 1;omega)),(by first|rfl|exact f33|(simp only[upd_apply];rfl)|(show I64 _=_;congr 1;omega)),(by first|rfl|exact f34|(simp only[upd_apply];rfl)|(show I64 _=_;congr 1;omega)),pz,hr,(by omega),(by omega),⟨wn.1,?_⟩⟩
   have e1:=hw.2
   rw[show k-i=(k-(i+1))+1 by omega,Int.pow_succ,Int.mul_comm (x.n^_) x.n,←Int.mul_assoc] at e1
   exact e1
 ·have ei:k-i=0:=by omega
  rw[ei] at hr
  try simp (maxSteps:=3000000) (disch:=first|omega|simp only[lnx];omega) only[↓xpre,xpost,↓reduceIte,reduceEqDiff,reduceAdd,reduceSub,reduceLeDiff,zz0,f3,f9,f11,f12,f13,f33,f34,decide_eq_false hlt,decide_eq_true ht.2,decide_eq_true hs.2,xres_tmp3]
  have hQ2:=hQ _ (ph.trans pp)
  rw[←hr] at hQ2
  exact hQ2
def isL (n:Int):Bool:=decide (0≤n∧n≤8)
def isB (n:Int):Bool:=decide (1≤n∧n≤1000)
theorem i_isLevels {n:Int} {h:AH} {Q:Value→AH→Prop} (hQ:Q (.bool (isL n)) h):WF S 231 [I64 n] h Q:=by
 refine WF_fn (fn:=c231) rfl rfl ?_
 dsimp only[c231,oO,oM,oS,oG,oK,oE,oL,oF,oX,oN]
 unfold isL at hQ
 by_cases c1:0≤n
 ·by_cases c2:n≤8
  ·try simp (maxSteps:=3000000) (disch:=first|omega|simp only[lnx];omega) only[↓xpre,xpost,↓reduceIte,reduceEqDiff,reduceAdd,reduceSub,reduceLeDiff,zz0,decide_eq_true c1,decide_eq_true c2]
   rw[decide_eq_true ⟨c1,c2⟩] at hQ
   exact hQ
  ·try simp (maxSteps:=3000000) (disch:=first|omega|simp only[lnx];omega) only[↓xpre,xpost,↓reduceIte,reduceEqDiff,reduceAdd,reduceSub,reduceLeDiff,zz0,decide_eq_true c1,decide_eq_false c2]
   rw[decide_eq_false (by omega)] at hQ
   exact hQ
 ·try simp (maxSteps:=3000000) (disch:=first|omega|simp only[lnx];omega) only[↓xpre,xpost,↓reduceIte,reduceEqDiff,reduceAdd,reduceSub,reduceLeDiff,zz0,decide_eq_false c1,WG_un]
  rw[decide_eq_false (by omega)] at hQ
  exact hQ
theorem i_isBase {n:Int} {h:AH} {Q:Value→AH→Prop} (hQ:Q (.bool (isB n)) h):WF S 235 [I64 n] h Q:=by
 refine WF_fn (fn:=c235) rfl rfl ?_
 dsimp only[c235,oO,oM,oS,oG,oK,oE,oL,oF,oX,oN]
 unfold isB at hQ
 by_cases c1:1≤n
 ·by_cases c2:n≤1000
  ·try simp (maxSteps:=3000000) (disch:=first|omega|simp only[lnx];omega) only[↓xpre,xpost,↓reduceIte,reduceEqDiff,reduceAdd,reduceSub,reduceLeDiff,zz0,decide_eq_true c1,decide_eq_true c2]
   rw[decide_eq_true ⟨c1,c2⟩] at hQ
   exact hQ
  ·try simp (maxSteps:=3000000) (disch:=first|omega|simp only[lnx];omega) only[↓xpre,xpost,↓reduceIte,reduceEqDiff,reduceAdd,reduceSub,reduceLeDiff,zz0,decide_eq_true c1,decide_eq_false c2]
   rw[decide_eq_false (by omega)] at hQ
   exact hQ
 ·try simp (maxSteps:=3000000) (disch:=first|omega|simp only[lnx];omega) only[↓xpre,xpost,↓reduceIte,reduceEqDiff,reduceAdd,reduceSub,reduceLeDiff,zz0,decide_eq_false c1,WG_un]
  rw[decide_eq_false (by omega)] at hQ
  exact hQ
theorem s_l06Code {v:Value} {x:Sch} {l b:Int} {h:AH} {Q:Value→AH→Prop} (hv:Prods h v x.ps) (hl:SmallX x.ps) (hQ:∀ h',h<+:h'→Q (I64 (sqC x (isL l&&isB b))) h'):WF S 237 [schV x v,I64 l,I64 b] h Q:=by
 refine WF_fn (fn:=c237) rfl rfl ?_
 dsimp only[c237,oO,oM,oS,oG,oK,oE,oL,oF,oX,oN]
 try simp (maxSteps:=3000000) (disch:=first|omega|simp only[lnx];omega) only[↓xpre,xpost,↓reduceIte,reduceEqDiff,reduceAdd,reduceSub,reduceLeDiff,zz0,schV,hv.one]
 generalize hH1:AH.new h _=H1
 obtain⟨hb1,p1,n1⟩:=new_facts hH1
 try simp (maxSteps:=3000000) (disch:=first|omega|simp only[lnx];omega) only[↓xpre,xpost,↓reduceIte,reduceEqDiff,reduceAdd,reduceSub,reduceLeDiff,zz0,rdn_of hb1]
 refine s_l06Square (hv.pre p1) hl fun H2 p2=>?_
 have hQ2:=hQ _ (p1.trans p2)
 by_cases c0:sqC x true=0
 case neg=>
  rw[sqC_same c0] at hQ2
  try simp (maxSteps:=3000000) (disch:=first|omega|simp only[lnx];omega) only[↓xpre,xpost,↓reduceIte,reduceEqDiff,reduceAdd,reduceSub,reduceLeDiff,zz0,decide_eq_false c0,WG_un]
  exact hQ2
 try simp (maxSteps:=3000000) (disch:=first|omega|simp only[lnx];omega) only[↓xpre,xpost,↓reduceIte,reduceEqDiff,reduceAdd,reduceSub,reduceLeDiff,zz0,decide_eq_true c0,c0]
 refine s_l01In ?_
 have e1:decide (0≤l∧l≤8)=isL l:=rfl
 have e2:decide (1≤b∧b≤1000)=isB b:=rfl
 rw[e1]
 cases c1:isL l with
 | false=>
  rw[c1,Bool.false_and,sqC_2 c0] at hQ2
  try simp (maxSteps:=3000000) (disch:=first|omega|simp only[lnx];omega) only[↓xpre,xpost,↓reduceIte,reduceEqDiff,reduceAdd,reduceSub,reduceLeDiff,zz0,WG_un]
  exact hQ2
 | true=>
  rw[c1,Bool.true_and] at hQ2
  try simp (maxSteps:=3000000) (disch:=first|omega|simp only[lnx];omega) only[↓xpre,xpost,↓reduceIte,reduceEqDiff,reduceAdd,reduceSub,reduceLeDiff,zz0]
  refine s_l01In ?_
  rw[e2]
  cases c2:isB b with
  | false=>
   rw[c2,sqC_2 c0] at hQ2
   try simp (maxSteps:=3000000) (disch:=first|omega|simp only[lnx];omega) only[↓xpre,xpost,↓reduceIte,reduceEqDiff,reduceAdd,reduceSub,reduceLeDiff,zz0]
   exact hQ2
  | true=>
   rw[c2,c0] at hQ2
   try simp (maxSteps:=3000000) (disch:=first|omega|simp only[lnx];omega) only[↓xpre,xpost,↓reduceIte,reduceEqDiff,reduceAdd,reduceSub,reduceLeDiff,zz0]
   exact hQ2
def mixB (x:Sch) (k:Nat) (b:Int):Option Int:=if b≤100000 then (match repX x k b with|none=>none|some (t,s)=>if 1000000000000000<t+s then none else some (t+s)) else none
theorem rep_in {a M n:Int}:∀ {k:Nat} {t s z t' s':Int},rep a M n k t s z=some (t',s')→0≤a→0≤M→1≤n→1≤z→0≤t∧t≤1000000000000000→0≤s∧s≤1000000000000000→(0≤t'∧t'≤1000000000000000)∧0≤s'∧s'≤1000000000000000
 | 0,t,s,z,t',s',h,_,_,_,_,ht,hs=>by
  simp only[rep,Option.some.injEq,Prod.mk.injEq] at h
  obtain⟨rfl,rfl⟩:=h
  exact⟨ht,hs⟩
 | k+1,t,s,z,t',s',h,ha,hM,hn,hz,ht,hs=>by
  unfold rep at h
  split at h
  ·cases h
  ·rename_i hc
   have h1:=Int.mul_nonneg ht.1 ha
   have h2:=Int.mul_nonneg hs.1 ha
   have h3:=Int.mul_nonneg (Int.mul_nonneg hM (show 0≤z by omega)) (show 0≤z by omega)
   have h4:=(mul_in1 (a:=z) (b:=n) (A:=z) (B:=n) (by omega) (by omega)).1
   exact rep_in h ha hM hn h4 (by omega) (by omega)
theorem repX_in {x:Sch} {k:Nat} {b t s:Int} (hx:isX x=true) (hw:Wid 27 x.ps) (hb:1≤b∧b≤100000) (h:repX x k b=some (t,s)):(0≤t∧t≤1000000000000000)∧0≤s∧s≤1000000000000000:=by
 have z:=(isX_sz hx).1
 have hM:=more_in hx hw
 have zn:=z.n
 have b2:=mul_in1 (A:=100000) (B:=100000) hb hb
 have b3:=mul_in1 (a:=b*b) (b:=b) (A:=10000000000) (B:=100000) (by omega) hb
 have b3':b*b≤b*b*b:=by
  have:=Int.mul_le_mul_of_nonneg_left hb.1 (show 0≤b*b by omega)
  rw[Int.mul_one] at this
  exact this
 exact rep_in h (by omega) hM.1 (by omega) (by omega) (by omega) (by omega)
theorem mixB_in {x:Sch} {k:Nat} {b n:Int} (hx:isX x=true) (hw:Wid 27 x.ps) (hb:1≤b) (h:mixB x k b=some n):0≤n∧n≤1000000000000000:=by
 unfold mixB at h
 split at h
 ·rename_i hb1
  cases hr:repX x k b with
  | none=>rw[hr] at h;cases h
  | some q=>
   obtain⟨t,s⟩:=q
   have:=repX_in hx hw ⟨hb,hb1⟩ hr
   rw[hr] at h
   simp only at h
   split at h
   ·cases h
   ·cases h
    omega
 ·cases h
theorem s_l06Mixed {v:Value} {x:Sch} {k:Nat} {b:Int} {h:AH} {Q:Value→AH→Prop} (hv:Prods h v x.ps) (hx:isX x=true) (hk:k≤8) (hb:1≤b∧b≤100000) (hbk:b*x.n^k≤6561000)
  (hQ:∀ h',h<+:h'→(∀ n,mixB x k b=some n→Q (.tuple #[I64 n,.bool true]) h')∧(mixB x k b=none→∀ n,Q (.tuple #[I64 n,.bool false]) h')):WF S 238 [schV x v,I64 k,I64 b] h Q:=by
 refine WF_fn (fn:=c238) rfl rfl ?_
 dsimp only[c238,oO,oM,oS,oG,oK,oE,oL,oF,oX,oN]
 try simp (maxSteps:=3000000) (disch:=first|omega|simp only[lnx];omega) only[↓xpre,xpost,↓reduceIte,reduceEqDiff,reduceAdd,reduceSub,reduceLeDiff,zz0,schV,hv.one]
 generalize hH1:AH.new h _=H1
 obtain⟨hb1,p1,n1⟩:=new_facts hH1
 try simp (maxSteps:=3000000) (disch:=first|omega|simp only[lnx];omega) only[↓xpre,xpost,↓reduceIte,reduceEqDiff,reduceAdd,reduceSub,reduceLeDiff,zz0,rdn_of hb1]
 refine s_l06Repeated (hv.pre p1) hx hk hb hbk fun H2 p2=>?_
 obtain⟨q1,q2⟩:=hQ _ (p1.trans p2)
 unfold mixB at q1 q2
 rw[if_pos hb.2] at q1 q2
 cases hr:repX x k b with
 | none=>
  rw[hr] at q2
  try simp (maxSteps:=3000000) (disch:=first|omega|simp only[lnx];omega) only[↓xpre,xpost,↓reduceIte,reduceEqDiff,reduceAdd,reduceSub,reduceLeDiff,zz0,repV,WG_un]
  exact q2 rfl 0
 | some q=>
  obtain⟨t,s⟩:=q
  have bb:=repX_in hx hv.1.widL hb hr
  rw[hr] at q1 q2
  simp only at q1 q2
  by_cases c1:1000000000000000<t+s
  ·rw[if_pos c1] at q2
   try simp (maxSteps:=3000000) (disch:=first|omega|simp only[lnx];omega) only[↓xpre,xpost,↓reduceIte,reduceEqDiff,reduceAdd,reduceSub,reduceLeDiff,zz0,repV,wrap64_in,decide_eq_true c1]
   exact q2 rfl 0
  ·rw[if_neg c1] at q1
   try simp (maxSteps:=3000000) (disch:=first|omega|simp only[lnx];omega) only[↓xpre,xpost,↓reduceIte,reduceEqDiff,reduceAdd,reduceSub,reduceLeDiff,zz0,repV,wrap64_in,decide_eq_false c1]
   exact q1 _ rfl
theorem i_mixed {v:Value} {x:Sch} {k:Nat} {b:Int} {h:AH} {Q:Value→AH→Prop} (hv:Prods h v x.ps) (hx:isX x=true) (hk:k≤8) (hb:1≤b∧b≤6561000) (hb0:b≤100000∨k=0) (hbk:b*x.n^k≤6561000)
  (hQ:∀ h',h<+:h'→(∀ n,mixB x k b=some n→Q (.tuple #[I64 n,.bool true]) h')∧(mixB x k b=none→∀ n,Q (.tuple #[I64 n,.bool false]) h')):WF S 236 [schV x v,I64 k,I64 b] h Q:=by
 refine WF_fn (fn:=c236) rfl rfl ?_
 dsimp only[c236,oO,oM,oS,oG,oK,oE,oL,oF,oX,oN]
 try simp (maxSteps:=3000000) (disch:=first|omega|simp only[lnx];omega) only[↓xpre,xpost,↓reduceIte,reduceEqDiff,reduceAdd,reduceSub,reduceLeDiff,zz0,schV,hv.one]
 generalize hH1:AH.new h _=H1
 obtain⟨hb1,p1,n1⟩:=new_facts hH1
 try simp (maxSteps:=3000000) (disch:=first|omega|simp only[lnx];omega) only[↓xpre,xpost,↓reduceIte,reduceEqDiff,reduceAdd,reduceSub,reduceLeDiff,zz0,rdn_of hb1]
 refine i_repeated (hv.pre p1) hx hk hb hb0 hbk fun H2 p2=>⟨fun h5=>?_,fun hbig t s ht hs=>?_⟩
 ·obtain⟨q1,q2⟩:=hQ _ (p1.trans p2)
  unfold mixB at q1 q2
  rw[if_pos h5] at q1 q2
  cases hr:repX x k b with
  | none=>
   rw[hr] at q2
   try simp (maxSteps:=3000000) (disch:=first|omega|simp only[lnx];omega) only[↓xpre,xpost,↓reduceIte,reduceEqDiff,reduceAdd,reduceSub,reduceLeDiff,zz0,repV,WG_un,wrap64_in]
   exact q2 rfl _
  | some q=>
   obtain⟨t,s⟩:=q
   have bb:=repX_in hx hv.1.widL ⟨hb.1,h5⟩ hr
   rw[hr] at q1 q2
   simp only at q1 q2
   by_cases c1:t+s≤1000000000000000
   ·rw[if_neg (by omega)] at q1
    try simp (maxSteps:=3000000) (disch:=first|omega|simp only[lnx];omega) only[↓xpre,xpost,↓reduceIte,reduceEqDiff,reduceAdd,reduceSub,reduceLeDiff,zz0,repV,wrap64_in,decide_eq_true c1]
    exact q1 _ rfl
   ·rw[if_pos (by omega)] at q2
    try simp (maxSteps:=3000000) (disch:=first|omega|simp only[lnx];omega) only[↓xpre,xpost,↓reduceIte,reduceEqDiff,reduceAdd,reduceSub,reduceLeDiff,zz0,repV,wrap64_in,decide_eq_false c1]
    exact q2 rfl _
 ·obtain⟨q1,q2⟩:=hQ _ (p1.trans p2)
  unfold mixB at q2
  rw[if_neg (by omega)] at q2
  try simp (maxSteps:=3000000) (disch:=first|omega|simp only[lnx];omega) only[↓xpre,xpost,↓reduceIte,reduceEqDiff,reduceAdd,reduceSub,reduceLeDiff,zz0,WG_un,wrap64_in]
  exact q2 rfl _
theorem base_in {x:Sch} {k:Nat} {b:Int} (z:SZ x) (hk:k≤8) (hb:1≤b∧b≤1000):b*x.n^k≤6561000:=by
 have h1:=pow_in (n:=x.n) (N:=3) ⟨z.n.1,z.n.2⟩ k
 have h2:=pow_up (N:=3) (by omega) hk
 have h3:(3:Int)^8=6561:=by decide
 exact (mul_in1 (A:=1000) (B:=6561) hb (by omega)).2
def gain (n z:Int):Prop:=80000<z∨n<2*z*z*z-z*z
instance {n z:Int}:Decidable (gain n z):=by unfold gain;infer_instance
def fgF (x:Sch) (b:Int):Nat→Nat→Int×Int
 | 0,_=>(0,4)
 | m+1,l=>match mixB x l b with
  | none=>(0,3)
  | some n=>if gain n (b*x.n^l) then (l,0) else fgF x b m (l+1)
def fgR (x:Sch) (b:Int):Int×Int:=if sqC x (isB b)=0 then fgF x b 8 1 else (0,sqC x (isB b))
theorem cube_in {z A:Int} (hz:1≤z∧z≤A):(0≤2*z∧2*z≤2*A)∧(0≤2*z*z∧2*z*z≤2*A*A)∧(0≤2*z*z*z∧2*z*z*z≤2*A*A*A)∧(1≤z*z∧z*z≤A*A):=by
 have h1:=mul_in (a:=2*z) (b:=z) (A:=2*A) (B:=A) (by omega) (by omega)
 have h2:=mul_in (a:=2*z*z) (b:=z) (A:=2*A*A) (B:=A) h1 (by omega)
 exact⟨by omega,h1,h2,mul_in1 hz hz⟩
theorem gain_min {n z:Int} (hz:1≤z) (hn:0≤n∧n≤1000000000000000) :
  (n<2*(if 100000<z then 100000 else z)*(if 100000<z then 100000 else z)*(if 100000<z then 100000 else z)-(if 100000<z then 100000 else z)*(if 100000<z then 100000 else z))↔gain n z:=by
 unfold gain
 by_cases h:80000<z
 ·refine⟨fun _=>.inl h,fun _=>?_⟩
  generalize hm:(if 100000<z then (100000:Int) else z)=m
  have hm1:80001≤m:=by rw[←hm];split<;>omega
  have e:2*m*m*m-m*m=(2*m-1)*(m*m):=by rw[Int.sub_mul,Int.one_mul,Int.mul_assoc (2*m)]
  rw[e]
  have q1:=Int.mul_le_mul hm1 hm1 (by omega) (show 0≤m by omega)
  have q2:=Int.mul_le_mul (show 160001≤2*m-1 by omega) (show (6400160001:Int)≤m*m by omega) (by omega) (by omega)
  omega
 ·rw[if_neg (by omega)]
  exact⟨fun h'=>.inr h',fun h'=>by rcases h' with h'|h'<;>omega⟩
theorem s_FirstGain {v:Value} {x:Sch} {b:Int} {h:AH} {Q:Value→AH→Prop} (hv:Prods h v x.ps) (hl:SmallX x.ps)
  (hQ:∀ h',h<+:h'→Q (.tuple #[I64 (fgR x b).1,I64 (fgR x b).2]) h'):WF S 123 [schV x v,I64 b] h Q:=by
 refine WF_fn (fn:=c123) rfl rfl ?_
 dsimp only[c123,oO,oM,oS,oG,oK,oE,oL,oF,oX,oN]
 try simp (maxSteps:=3000000) (disch:=first|omega|simp only[lnx];omega) only[↓xpre,xpost,↓reduceIte,reduceEqDiff,reduceAdd,reduceSub,reduceLeDiff,zz0,schV,hv.one]
 generalize hH1:AH.new h _=H1
 obtain⟨hb1,p1,n1⟩:=new_facts hH1
 try simp (maxSteps:=3000000) (disch:=first|omega|simp only[lnx];omega) only[↓xpre,xpost,↓reduceIte,reduceEqDiff,reduceAdd,reduceSub,reduceLeDiff,zz0,rdn_of hb1]
 refine s_l06Code (hv.pre p1) hl fun H2 p2=>?_
 have hb1:=pre_get p2 hb1
 have e0:(isL 0&&isB b)=isB b:=by rw[show isL 0=true from rfl,Bool.true_and]
 rw[e0]
 unfold fgR at hQ
 by_cases c0:sqC x (isB b)=0
 case neg=>
  have hQ2:=hQ _ (p1.trans p2)
  rw[if_neg c0] at hQ2
  try simp (maxSteps:=3000000) (disch:=first|omega|simp only[lnx];omega) only[↓xpre,xpost,↓reduceIte,reduceEqDiff,reduceAdd,reduceSub,reduceLeDiff,zz0,decide_eq_true (show sqC x (isB b)≠0 from c0)]
  exact hQ2
 rw[if_pos c0] at hQ
 obtain⟨x1,x2,x3⟩:=sqC_0 c0
 have b1:1≤b∧b≤1000:=by unfold isB at x3;exact of_decide_eq_true x3
 have z:=(isX_sz x1).1
 try simp (maxSteps:=3000000) (disch:=first|omega|simp only[lnx];omega) only[↓xpre,xpost,↓reduceIte,reduceEqDiff,reduceAdd,reduceSub,reduceLeDiff,zz0,decide_eq_false (show ¬ (sqC x (isB b)≠0) from fun e=>e c0)]
 refine WC_loop_inv (fun m f K1=>∃ (l:Nat),m=9-l∧l≤9∧f 1=I64 b∧f 2=.pointer (some ⟨h.length,0,none⟩)∧f 7=I64 (b*x.n^(l-1))∧f 8=I64 l∧(H2<+:K1)∧(1≤l)∧(fgF x b (9-l) l=fgF x b 8 1)) ?_ (9-1) _ _ ⟨1,rfl,by omega,(by first|rfl|simp[upd_apply]),(by first|rfl|simp[upd_apply]),(by first|rfl|simp[upd_apply]),(by first|rfl|simp[upd_apply]),List.prefix_refl _,Nat.le_refl _,rfl⟩
 rintro m f K1 ⟨l,rfl,hl,f1,f2,f7,f8,pp,h1l,hf⟩
 have hbK:=pre_get pp hb1
 have ph:=(p1.trans p2).trans pp
 by_cases hlt:(l:Int)≤8
 ·have hl8:l≤8:=by omega
  have bl:=base_in z hl8 b1
  have bp:=(mul_in1 (a:=b) (b:=x.n^l) (A:=b) (B:=x.n^l) (by omega) ⟨(pow_in (n:=x.n) (N:=3) ⟨z.n.1,z.n.2⟩ l).1,Int.le_refl _⟩).1
  have es:b*x.n^(l-1)*x.n=b*x.n^l:=by
   rw[Int.mul_assoc,←Int.pow_succ,show (l-1).succ=l by omega]
  have hs:fgF x b (9-l) l=match mixB x l b with|none=>(0,3)|some n=>if gain n (b*x.n^l) then ((l:Int),0) else fgF x b (9-(l+1)) (l+1):=by
   rw[show 9-l=(9-(l+1))+1 by omega]
   rfl
  rw[hs] at hf
  try simp (maxSteps:=3000000) (disch:=first|omega|simp only[lnx];omega) only[↓xpre,xpost,↓reduceIte,reduceEqDiff,reduceAdd,reduceSub,reduceLeDiff,zz0,f1,f2,f7,f8,decide_eq_true hlt,rd1_of hbK,rdn_of hbK,es,wrap64_in]
  refine s_l06Mixed (hv.pre ph) x1 hl8 (by omega) bl fun H3 p3=>⟨fun n hn=>?_,fun hn n=>?_⟩
  ·have hn2:=mixB_in x1 hv.1.widL b1.1 hn
   have hQ2:=hQ _ (ph.trans p3)
   rw[hn] at hf
   simp only at hf
   generalize hw:b*x.n^l=w at *
   by_cases g1:80000<w
   ·try simp (maxSteps:=3000000) (disch:=first|omega|simp only[lnx];omega) only[↓xpre,xpost,↓reduceIte,reduceEqDiff,reduceAdd,reduceSub,reduceLeDiff,zz0,f1,f2,f7,f8,decide_eq_true g1,WG_un]
    rw[←hf,if_pos (.inl g1)] at hQ2
    exact hQ2
   ·have cb:=cube_in (z:=w) (A:=80000) (by omega)
    by_cases g2:n<2*w*w*w-w*w
    ·try simp (maxSteps:=3000000) (disch:=first|omega|simp only[lnx];omega) only[↓xpre,xpost,↓reduceIte,reduceEqDiff,reduceAdd,reduceSub,reduceLeDiff,zz0,f1,f2,f7,f8,decide_eq_false g1,wrap64_in,decide_eq_true g2]
     rw[←hf,if_pos (.inr g2)] at hQ2
     exact hQ2
    ·try simp (maxSteps:=3000000) (disch:=first|omega|simp only[lnx];omega) only[↓xpre,xpost,↓reduceIte,reduceEqDiff,reduceAdd,reduceSub,reduceLeDiff,zz0,f1,f2,f7,f8,decide_eq_false g1,wrap64_in,decide_eq_false g2]
     rw[if_neg (fun e=>by rcases e with e|e<;>omega)] at hf
     refine InvQ_go (9-(l+1)) (by omega) ⟨(l+1),rfl,by omega,(by first|rfl|exact f1|(simp only[upd_apply];rfl)|(show I64 _=_;congr 1;omega)),(by first|rfl|exact f2|(simp only[upd_apply];rfl)|(show I64 _=_;congr 1;omega)),(by show I64 _=I64 _;rw[show l+1-1=l by omega,hw]),(by first|rfl|exact f8|(simp only[upd_apply];rfl)|(show I64 _=_;congr 1;omega)),(pp.trans p3),(by omega),hf⟩
  ·have hQ2:=hQ _ (ph.trans p3)
   rw[hn] at hf
   simp only at hf
   rw[←hf] at hQ2
   try simp (maxSteps:=3000000) (disch:=first|omega|simp only[lnx];omega) only[↓xpre,xpost,↓reduceIte,reduceEqDiff,reduceAdd,reduceSub,reduceLeDiff,zz0,f1,f2,f7,f8]
   exact hQ2
 ·have e9:l=9:=by omega
  subst e9
  try simp (maxSteps:=3000000) (disch:=first|omega|simp only[lnx];omega) only[↓xpre,xpost,↓reduceIte,reduceEqDiff,reduceAdd,reduceSub,reduceLeDiff,zz0,f1,f2,f7,f8,decide_eq_false hlt]
  have hQ2:=hQ _ ph
  rw[←hf] at hQ2
  exact hQ2
theorem i_FirstGain {v:Value} {x:Sch} {b:Int} {h:AH} {Q:Value→AH→Prop} (hv:Prods h v x.ps) (hl:SmallX x.ps)
  (hQ:∀ h',h<+:h'→Q (.tuple #[I64 (fgR x b).1,I64 (fgR x b).2]) h'):WF S 122 [schV x v,I64 b] h Q:=by
 refine WF_fn (fn:=c122) rfl rfl ?_
 dsimp only[c122,oO,oM,oS,oG,oK,oE,oL,oF,oX,oN]
 try simp (maxSteps:=3000000) (disch:=first|omega|simp only[lnx];omega) only[↓xpre,xpost,↓reduceIte,reduceEqDiff,reduceAdd,reduceSub,reduceLeDiff,zz0,schV,hv.one]
 generalize hH1:AH.new h _=H1
 obtain⟨hb1,p1,n1⟩:=new_facts hH1
 try simp (maxSteps:=3000000) (disch:=first|omega|simp only[lnx];omega) only[↓xpre,xpost,↓reduceIte,reduceEqDiff,reduceAdd,reduceSub,reduceLeDiff,zz0,rdn_of hb1]
 refine i_isBase ?_
 try simp (maxSteps:=3000000) (disch:=first|omega|simp only[lnx];omega) only[↓xpre,xpost,↓reduceIte,reduceEqDiff,reduceAdd,reduceSub,reduceLeDiff,zz0]
 refine⟨List.prefix_refl _,?_⟩
 refine i_squareCode (hv.pre p1) hl fun H2 p2=>?_
 have hb1:=pre_get p2 hb1
 unfold fgR at hQ
 by_cases c0:sqC x (isB b)=0
 case neg=>
  have hQ2:=hQ _ (p1.trans p2)
  rw[if_neg c0] at hQ2
  try simp (maxSteps:=3000000) (disch:=first|omega|simp only[lnx];omega) only[↓xpre,xpost,↓reduceIte,reduceEqDiff,reduceAdd,reduceSub,reduceLeDiff,zz0,decide_eq_true (show sqC x (isB b)≠0 from c0)]
  exact hQ2
 rw[if_pos c0] at hQ
 obtain⟨x1,x2,x3⟩:=sqC_0 c0
 have b1:1≤b∧b≤1000:=by unfold isB at x3;exact of_decide_eq_true x3
 have z:=(isX_sz x1).1
 try simp (maxSteps:=3000000) (disch:=first|omega|simp only[lnx];omega) only[↓xpre,xpost,↓reduceIte,reduceEqDiff,reduceAdd,reduceSub,reduceLeDiff,zz0,decide_eq_false (show ¬ (sqC x (isB b)≠0) from fun e=>e c0)]
 refine WC_loop_inv (fun m f K1=>∃ (l:Nat),m=9-l∧l≤9∧f 1=I64 b∧f 2=.pointer (some ⟨h.length,0,none⟩)∧f 7=I64 l∧(H2<+:K1)∧(1≤l)∧(fgF x b (9-l) l=fgF x b 8 1)) ?_ (9-1) _ _ ⟨1,rfl,by omega,(by first|rfl|simp[upd_apply]),(by first|rfl|simp[upd_apply]),(by first|rfl|simp[upd_apply]),List.prefix_refl _,Nat.le_refl _,rfl⟩
 rintro m f K1 ⟨l,rfl,hl,f1,f2,f7,pp,h1l,hf⟩
 have hbK:=pre_get pp hb1
 have ph:=(p1.trans p2).trans pp
 by_cases hlt:(l:Int)≤8
 ·have hl8:l≤8:=by omega
  have bl:=base_in z hl8 b1
  have bp:=(mul_in1 (a:=b) (b:=x.n^l) (A:=b) (B:=x.n^l) (by omega) ⟨(pow_in (n:=x.n) (N:=3) ⟨z.n.1,z.n.2⟩ l).1,Int.le_refl _⟩).1
  have hs:fgF x b (9-l) l=match mixB x l b with|none=>(0,3)|some n=>if gain n (b*x.n^l) then ((l:Int),0) else fgF x b (9-(l+1)) (l+1):=by
   rw[show 9-l=(9-(l+1))+1 by omega]
   rfl
  rw[hs] at hf
  try simp (maxSteps:=3000000) (disch:=first|omega|simp only[lnx];omega) only[↓xpre,xpost,↓reduceIte,reduceEqDiff,reduceAdd,reduceSub,reduceLeDiff,zz0,f1,f2,f7,decide_eq_true hlt,rdn_of hbK]
  refine i_mixed (hv.pre ph) x1 hl8 (by omega) (by omega) bl fun H3 p3=>⟨fun n hn=>?_,fun hn n=>?_⟩
  ·have hn2:=mixB_in x1 hv.1.widL b1.1 hn
   have hQ2:=hQ _ (ph.trans p3)
   have hb3:=pre_get p3 hbK
   rw[hn] at hf
   simp only at hf
   try simp (maxSteps:=3000000) (disch:=first|omega|simp only[lnx];omega) only[↓xpre,xpost,↓reduceIte,reduceEqDiff,reduceAdd,reduceSub,reduceLeDiff,zz0,f1,f2,f7,rd1_of hb3]
   refine i_power (fun j hj=>sq_pow z hj (by omega)) (by omega) ?_
   have ec:x.n^l*b=b*x.n^l:=Int.mul_comm _ _
   generalize hw:b*x.n^l=w at *
   have m3:mm1 false (I64 w) (I64 100000)=some (I64 (if 100000<w then 100000 else w)):=rfl
   have gm:=gain_min bp hn2
   generalize hm:(if 100000<w then (100000:Int) else w)=m at *
   have cb:=cube_in (z:=m) (A:=100000) (by rw[←hm];split<;>omega)
   by_cases g2:n<2*m*m*m-m*m
   ·try simp (maxSteps:=3000000) (disch:=first|omega|simp only[lnx];omega) only[↓xpre,xpost,↓reduceIte,reduceEqDiff,reduceAdd,reduceSub,reduceLeDiff,zz0,f1,f2,f7,ec,wrap64_in,↓WX_mm1,m3,decide_eq_true g2]
    rw[←hf,if_pos (gm.1 g2)] at hQ2
    exact hQ2
   ·try simp (maxSteps:=3000000) (disch:=first|omega|simp only[lnx];omega) only[↓xpre,xpost,↓reduceIte,reduceEqDiff,reduceAdd,reduceSub,reduceLeDiff,zz0,f1,f2,f7,ec,wrap64_in,↓WX_mm1,m3,decide_eq_false g2]
    rw[if_neg (fun e=>g2 (gm.2 e))] at hf
    refine InvQ_go (9-(l+1)) (by omega) ⟨(l+1),rfl,by omega,(by first|rfl|exact f1|(simp only[upd_apply];rfl)|(show I64 _=_;congr 1;omega)),(by first|rfl|exact f2|(simp only[upd_apply];rfl)|(show I64 _=_;congr 1;omega)),(by first|rfl|exact f7|(simp only[upd_apply];rfl)|(show I64 _=_;congr 1;omega)),(pp.trans p3),(by omega),hf⟩
  ·have hQ2:=hQ _ (ph.trans p3)
   rw[hn] at hf
   simp only at hf
   rw[←hf] at hQ2
   try simp (maxSteps:=3000000) (disch:=first|omega|simp only[lnx];omega) only[↓xpre,xpost,↓reduceIte,reduceEqDiff,reduceAdd,reduceSub,reduceLeDiff,zz0,f1,f2,f7]
   exact hQ2
 ·have e9:l=9:=by omega
  subst e9
  try simp (maxSteps:=3000000) (disch:=first|omega|simp only[lnx];omega) only[↓xpre,xpost,↓reduceIte,reduceEqDiff,reduceAdd,reduceSub,reduceLeDiff,zz0,f1,f2,f7,decide_eq_false hlt]
  have hQ2:=hQ _ ph
  rw[←hf] at hQ2
  exact hQ2
def blF (x:Sch) (b:Int) (L:Nat):Nat→Nat→Int→Int→Int×Int
 | 0,_,best,_=>(best,0)
 | m+1,l,best,least=>match mixB x l (x.n^(L-l)*b) with
  | none=>(0,3)
  | some v=>if l=0∨v<least then blF x b L m (l+1) l v else blF x b L m (l+1) best least
def blR (x:Sch) (lv b:Int):Int×Int:=if sqC x (isL lv&&isB b)=0 then blF x b lv.toNat (lv.toNat+1) 0 0 0 else (0,sqC x (isL lv&&isB b))
theorem pow_add' (n:Int) (i:Nat):∀ j:Nat,n^(i+j)=n^i*n^j
 | 0=>by simp
 | j+1=>by rw[←Nat.add_assoc,Int.pow_succ,Int.pow_succ,pow_add' n i j,Int.mul_assoc]
theorem lev_in {x:Sch} {b:Int} {L l:Nat} (z:SZ x) (hL:L≤8) (hl:l≤L) (hb:1≤b∧b≤1000):1≤x.n^(L-l)*b∧x.n^(L-l)*b≤x.n^L*b∧x.n^(L-l)*b*x.n^l=x.n^L*b∧x.n^L*b≤6561000:=by
 have h1:=pow_in (n:=x.n) (N:=x.n) ⟨z.n.1,Int.le_refl _⟩ (L-l)
 have h2:=pow_up (N:=x.n) z.n.1 (show L-l≤L by omega)
 have h3:=base_in z hL hb
 refine⟨(mul_in1 (A:=x.n^(L-l)) (B:=b) ⟨h1.1,Int.le_refl _⟩ ⟨hb.1,Int.le_refl _⟩).1,Int.mul_le_mul_of_nonneg_right h2 (by omega),?_,by rw[Int.mul_comm];exact h3⟩
 rw[Int.mul_assoc,Int.mul_comm b,←Int.mul_assoc,←pow_add',show L-l+l=L by omega]
theorem s_BestLevels {v:Value} {x:Sch} {lv b:Int} {h:AH} {Q:Value→AH→Prop} (hv:Prods h v x.ps) (hl:SmallX x.ps)
  (hQ:∀ h',h<+:h'→Q (.tuple #[I64 (blR x lv b).1,I64 (blR x lv b).2]) h'):WF S 120 [schV x v,I64 lv,I64 b] h Q:=by
 refine WF_fn (fn:=c120) rfl rfl ?_
 dsimp only[c120,oO,oM,oS,oG,oK,oE,oL,oF,oX,oN]
 try simp (maxSteps:=3000000) (disch:=first|omega|simp only[lnx];omega) only[↓xpre,xpost,↓reduceIte,reduceEqDiff,reduceAdd,reduceSub,reduceLeDiff,zz0,schV,hv.one]
 generalize hH1:AH.new h _=H1
 obtain⟨hb1,p1,n1⟩:=new_facts hH1
 try simp (maxSteps:=3000000) (disch:=first|omega|simp only[lnx];omega) only[↓xpre,xpost,↓reduceIte,reduceEqDiff,reduceAdd,reduceSub,reduceLeDiff,zz0,rdn_of hb1]
 refine s_l06Code (hv.pre p1) hl fun H2 p2=>?_
 have hb1:=pre_get p2 hb1
 unfold blR at hQ
 by_cases c0:sqC x (isL lv&&isB b)=0
 case neg=>
  have hQ2:=hQ _ (p1.trans p2)
  rw[if_neg c0] at hQ2
  try simp (maxSteps:=3000000) (disch:=first|omega|simp only[lnx];omega) only[↓xpre,xpost,↓reduceIte,reduceEqDiff,reduceAdd,reduceSub,reduceLeDiff,zz0,decide_eq_true (show sqC x (isL lv&&isB b)≠0 from c0)]
  exact hQ2
 rw[if_pos c0] at hQ
 obtain⟨x1,x2,x3⟩:=sqC_0 c0
 simp only[Bool.and_eq_true] at x3
 have l1:0≤lv∧lv≤8:=by have:=x3.1;unfold isL at this;exact of_decide_eq_true this
 have b1:1≤b∧b≤1000:=by have:=x3.2;unfold isB at this;exact of_decide_eq_true this
 have z:=(isX_sz x1).1
 obtain⟨L,rfl⟩:∃ L:Nat,lv=L:=⟨lv.toNat,by omega⟩
 rw[Int.toNat_natCast] at hQ
 have hL8:L≤8:=by omega
 try simp (maxSteps:=3000000) (disch:=first|omega|simp only[lnx];omega) only[↓xpre,xpost,↓reduceIte,reduceEqDiff,reduceAdd,reduceSub,reduceLeDiff,zz0,decide_eq_false (show ¬ (sqC x (isL L&&isB b)≠0) from fun e=>e c0)]
 refine WC_loop_inv (fun m f K1=>∃ (k:Nat),m=L-k∧k≤L∧f 1=I64 L∧f 3=.pointer (some ⟨h.length,0,none⟩)∧f 9=I64 0∧f 10=I64 0∧f 11=I64 (b*x.n^k)∧f 12=I64 k∧(K1=H2)) ?_ (L-0) _ _ ⟨0,rfl,by omega,(by first|rfl|simp[upd_apply]),(by first|rfl|simp[upd_apply]),(by first|rfl|simp[upd_apply]),(by first|rfl|simp[upd_apply]),(by first|rfl|simp[upd_apply]),(by first|rfl|simp[upd_apply]),rfl⟩
 rintro m f K1 ⟨k,rfl,hk,f1,f3,f9,f10,f11,f12,hK⟩
 subst hK
 by_cases hlk:(k:Int)<L
 ·have bk:=base_in z (k:=k+1) (by omega) b1
  have bp:=(mul_in1 (a:=b) (b:=x.n^(k+1)) (A:=b) (B:=x.n^(k+1)) (by omega) ⟨(pow_in (n:=x.n) (N:=3) ⟨z.n.1,z.n.2⟩ (k+1)).1,Int.le_refl _⟩).1
  have es:b*x.n^k*x.n=b*x.n^(k+1):=by rw[Int.mul_assoc,←Int.pow_succ]
  try simp (maxSteps:=3000000) (disch:=first|omega|simp only[lnx];omega) only[↓xpre,xpost,↓reduceIte,reduceEqDiff,reduceAdd,reduceSub,reduceLeDiff,zz0,f1,f3,f9,f10,f11,f12,decide_eq_true hlk,rd1_of hb1,es,wrap64_in]
  refine InvQ_go (L-(k+1)) (by omega) ⟨(k+1),rfl,by omega,(by first|rfl|exact f1|(simp only[upd_apply];rfl)|(show I64 _=_;congr 1;omega)),(by first|rfl|exact f3|(simp only[upd_apply];rfl)|(show I64 _=_;congr 1;omega)),(by first|rfl|exact f9|(simp only[upd_apply];rfl)|(show I64 _=_;congr 1;omega)),(by first|rfl|exact f10|(simp only[upd_apply];rfl)|(show I64 _=_;congr 1;omega)),(by first|rfl|exact f11|(simp only[upd_apply];rfl)|(show I64 _=_;congr 1;omega)),(by first|rfl|exact f12|(simp only[upd_apply];rfl)|(show I64 _=_;congr 1;omega)),rfl⟩
 have ek:k=L:=by omega
 subst ek
 have e11:b*x.n^k=x.n^(k-0)*b:=by rw[Nat.sub_zero,Int.mul_comm]
 rw[e11] at f11
 try simp (maxSteps:=3000000) (disch:=first|omega|simp only[lnx];omega) only[↓xpre,xpost,↓reduceIte,reduceEqDiff,reduceAdd,reduceSub,reduceLeDiff,zz0,f1,f3,f9,f10,f11,f12,decide_eq_false hlk]
 refine WC_loop_inv (fun m f K2=>∃ (l:Nat) (best:Int) (least:Int) (w:Int),m=((k+1))-l∧l≤((k+1))∧f 1=I64 k∧f 3=.pointer (some ⟨h.length,0,none⟩)∧f 9=I64 best∧f 10=I64 least∧f 11=I64 w∧f 13=I64 l∧(K1<+:K2)∧(l≤k→w=x.n^(k-l)*b)∧(blF x b k (k+1-l) l best least=blF x b k (k+1) 0 0 0)) ?_ (((k+1))-0) _ _ ⟨0,0,0,x.n^(k-0)*b,rfl,by omega,(by first|rfl|exact f1|(simp[upd_apply];done)),(by first|rfl|exact f3|(simp[upd_apply];done)),(by first|rfl|exact f9|(simp[upd_apply];done)),(by first|rfl|exact f10|(simp[upd_apply];done)),(by first|rfl|exact f11|(simp[upd_apply];done)),(by first|rfl|simp[upd_apply]),List.prefix_refl _,fun _=>rfl,rfl⟩
 rintro m f K2 ⟨l,best,least,w,rfl,hl,f1,f3,f9,f10,f11,f13,pp,hw,hf⟩
 have hbK:=pre_get pp hb1
 have ph:=(p1.trans p2).trans pp
 by_cases hlt:(l:Int)≤k
 ·have hlk':l≤k:=by omega
  have hw':=hw hlk'
  have li:=lev_in z hL8 hlk' b1
  rw[←hw'] at li
  have hs:blF x b k (k+1-l) l best least=match mixB x l (x.n^(k-l)*b) with|none=>(0,3)|some v=>if l=0∨v<least then blF x b k (k+1-(l+1)) (l+1) l v else blF x b k (k+1-(l+1)) (l+1) best least:=by
   rw[show k+1-l=(k+1-(l+1))+1 by omega]
   rfl
  rw[hs,←hw'] at hf
  by_cases g1:100000<w
  ·have hQ2:=hQ _ ph
   have hn:mixB x l w=none:=by unfold mixB;rw[if_neg (by omega)]
   rw[hn] at hf
   simp only at hf
   rw[←hf] at hQ2
   try simp (maxSteps:=3000000) (disch:=first|omega|simp only[lnx];omega) only[↓xpre,xpost,↓reduceIte,reduceEqDiff,reduceAdd,reduceSub,reduceLeDiff,zz0,f1,f3,f9,f10,f11,f13,decide_eq_true hlt,decide_eq_true g1]
   exact hQ2
  try simp (maxSteps:=3000000) (disch:=first|omega|simp only[lnx];omega) only[↓xpre,xpost,↓reduceIte,reduceEqDiff,reduceAdd,reduceSub,reduceLeDiff,zz0,f1,f3,f9,f10,f11,f13,decide_eq_true hlt,decide_eq_false g1,rdn_of hbK]
  refine s_l06Mixed (hv.pre ph) x1 (by omega) (by omega) (by rw[li.2.2.1];exact li.2.2.2) fun H3 p3=>⟨fun n hn=>?_,fun hn n=>?_⟩
  ·rw[hn] at hf
   simp only at hf
   have hb3:=pre_get p3 hbK
   have zn:=z.n
   have tq:0≤w.tdiv x.n∧w.tdiv x.n≤6561000:=by
    rw[Int.tdiv_eq_ediv_of_nonneg (by omega)]
    exact⟨Int.ediv_nonneg (by omega) (by omega),Int.le_trans (Int.ediv_le_self _ (by omega)) (by omega)⟩
   have hwn:l+1≤k→w.tdiv x.n=x.n^(k-(l+1))*b:=fun hk=>by
    rw[hw',show k-l=(k-(l+1))+1 by omega,Int.pow_succ,Int.mul_comm (x.n^_) x.n,Int.mul_assoc]
    exact Int.mul_tdiv_cancel_left _ (by omega)
   by_cases g2:(l:Int)=0
   ·rw[if_pos (.inl (by omega))] at hf
    try simp (maxSteps:=3000000) (disch:=first|omega|simp only[lnx];omega) only[↓xpre,xpost,↓reduceIte,reduceEqDiff,reduceAdd,reduceSub,reduceLeDiff,zz0,f1,f3,f9,f10,f11,f13,decide_eq_true g2,WG_un,rd1_of hb3,bin_quo,wrap64_in]
    refine InvQ_go (((k+1))-(l+1)) (by omega) ⟨(l+1),(l:Int),n,(w.tdiv x.n),rfl,by omega,(by first|rfl|exact f1|(simp only[upd_apply];rfl)|(show I64 _=_;congr 1;omega)),(by first|rfl|exact f3|(simp only[upd_apply];rfl)|(show I64 _=_;congr 1;omega)),(by first|rfl|exact f9|(simp only[upd_apply];rfl)|(show I64 _=_;congr 1;omega)),(by first|rfl|exact f10|(simp only[upd_apply];rfl)|(show I64 _=_;congr 1;omega)),(by first|rfl|exact f11|(simp only[upd_apply];rfl)|(show I64 _=_;congr 1;omega)),(by first|rfl|exact f13|(simp only[upd_apply];rfl)|(show I64 _=_;congr 1;omega)),(pp.trans p3),hwn,hf⟩
   ·by_cases g3:n<least
    ·rw[if_pos (.inr g3)] at hf
     try simp (maxSteps:=3000000) (disch:=first|omega|simp only[lnx];omega) only[↓xpre,xpost,↓reduceIte,reduceEqDiff,reduceAdd,reduceSub,reduceLeDiff,zz0,f1,f3,f9,f10,f11,f13,decide_eq_false g2,decide_eq_true g3,rd1_of hb3,bin_quo,wrap64_in]
     refine InvQ_go (((k+1))-(l+1)) (by omega) ⟨(l+1),(l:Int),n,(w.tdiv x.n),rfl,by omega,(by first|rfl|exact f1|(simp only[upd_apply];rfl)|(show I64 _=_;congr 1;omega)),(by first|rfl|exact f3|(simp only[upd_apply];rfl)|(show I64 _=_;congr 1;omega)),(by first|rfl|exact f9|(simp only[upd_apply];rfl)|(show I64 _=_;congr 1;omega)),(by first|rfl|exact f10|(simp only[upd_apply];rfl)|(show I64 _=_;congr 1;omega)),(by first|rfl|exact f11|(simp only[upd_apply];rfl)|(show I64 _=_;congr 1;omega)),(by first|rfl|exact f13|(simp only[upd_apply];rfl)|(show I64 _=_;congr 1;omega)),(pp.trans p3),hwn,hf⟩
    ·rw[if_neg (by omega)] at hf
     try simp (maxSteps:=3000000) (disch:=first|omega|simp only[lnx];omega) only[↓xpre,xpost,↓reduceIte,reduceEqDiff,reduceAdd,reduceSub,reduceLeDiff,zz0,f1,f3,f9,f10,f11,f13,decide_eq_false g2,decide_eq_false g3,rd1_of hb3,bin_quo,wrap64_in]
     refine InvQ_go (((k+1))-(l+1)) (by omega) ⟨(l+1),best,least,(w.tdiv x.n),rfl,by omega,(by first|rfl|exact f1|(simp only[upd_apply];rfl)|(show I64 _=_;congr 1;omega)),(by first|rfl|exact f3|(simp only[upd_apply];rfl)|(show I64 _=_;congr 1;omega)),(by first|rfl|exact f9|(simp only[upd_apply];rfl)|(show I64 _=_;congr 1;omega)),(by first|rfl|exact f10|(simp only[upd_apply];rfl)|(show I64 _=_;congr 1;omega)),(by first|rfl|exact f11|(simp only[upd_apply];rfl)|(show I64 _=_;congr 1;omega)),(by first|rfl|exact f13|(simp only[upd_apply];rfl)|(show I64 _=_;congr 1;omega)),(pp.trans p3),hwn,hf⟩
  ·have hQ2:=hQ _ (ph.trans p3)
   rw[hn] at hf
   simp only at hf
   rw[←hf] at hQ2
   try simp (maxSteps:=3000000) (disch:=first|omega|simp only[lnx];omega) only[↓xpre,xpost,↓reduceIte,reduceEqDiff,reduceAdd,reduceSub,reduceLeDiff,zz0,f1,f3,f9,f10,f11,f13]
   exact hQ2
 ·have e9:l=k+1:=by omega
  subst e9
  try simp (maxSteps:=3000000) (disch:=first|omega|simp only[lnx];omega) only[↓xpre,xpost,↓reduceIte,reduceEqDiff,reduceAdd,reduceSub,reduceLeDiff,zz0,f1,f3,f9,f10,f11,f13,decide_eq_false hlt]
  have hQ2:=hQ _ ph
  rw[←hf,Nat.sub_self] at hQ2
  exact hQ2
theorem i_BestLevels {v:Value} {x:Sch} {lv b:Int} {h:AH} {Q:Value→AH→Prop} (hv:Prods h v x.ps) (hl:SmallX x.ps)
  (hQ:∀ h',h<+:h'→Q (.tuple #[I64 (blR x lv b).1,I64 (blR x lv b).2]) h'):WF S 119 [schV x v,I64 lv,I64 b] h Q:=by
 refine WF_fn (fn:=c119) rfl rfl ?_
 dsimp only[c119,oO,oM,oS,oG,oK,oE,oL,oF,oX,oN]
 try simp (maxSteps:=3000000) (disch:=first|omega|simp only[lnx];omega) only[↓xpre,xpost,↓reduceIte,reduceEqDiff,reduceAdd,reduceSub,reduceLeDiff,zz0,schV,hv.one]
 generalize hH1:AH.new h _=H1
 obtain⟨hb1,p1,n1⟩:=new_facts hH1
 unfold blR at hQ
 try simp (maxSteps:=3000000) (disch:=first|omega|simp only[lnx];omega) only[↓xpre,xpost,↓reduceIte,reduceEqDiff,reduceAdd,reduceSub,reduceLeDiff,zz0,rdn_of hb1]
 refine i_isLevels ?_
 have stop:sqC x (isL lv&&isB b)≠0→∀ H2,H1<+:H2→Q (.tuple #[I64 0,I64 (sqC x (isL lv&&isB b))]) H2:=fun e H2 p=>by
  have:=hQ _ (p1.trans p)
  rw[if_neg e] at this
  exact this
 cases c1:isL lv with
 | false=>
  rw[c1,Bool.false_and] at stop
  try simp (maxSteps:=3000000) (disch:=first|omega|simp only[lnx];omega) only[↓xpre,xpost,↓reduceIte,reduceEqDiff,reduceAdd,reduceSub,reduceLeDiff,zz0,WG_un]
  refine⟨List.prefix_refl _,?_⟩
  refine i_squareCode (hv.pre p1) hl fun H2 p2=>?_
  try simp (maxSteps:=3000000) (disch:=first|omega|simp only[lnx];omega) only[↓xpre,xpost,↓reduceIte,reduceEqDiff,reduceAdd,reduceSub,reduceLeDiff,zz0,decide_eq_true (show sqC x false≠0 from sqC_f)]
  exact stop sqC_f _ p2
 | true=>
  rw[c1,Bool.true_and] at stop hQ
  try simp (maxSteps:=3000000) (disch:=first|omega|simp only[lnx];omega) only[↓xpre,xpost,↓reduceIte,reduceEqDiff,reduceAdd,reduceSub,reduceLeDiff,zz0]
  refine⟨List.prefix_refl _,?_⟩
  refine i_isBase ?_
  try simp (maxSteps:=3000000) (disch:=first|omega|simp only[lnx];omega) only[↓xpre,xpost,↓reduceIte,reduceEqDiff,reduceAdd,reduceSub,reduceLeDiff,zz0]
  refine⟨List.prefix_refl _,?_⟩
  refine i_squareCode (hv.pre p1) hl fun H2 p2=>?_
  have hb1:=pre_get p2 hb1
  by_cases c0:sqC x (isB b)=0
  case neg=>
   try simp (maxSteps:=3000000) (disch:=first|omega|simp only[lnx];omega) only[↓xpre,xpost,↓reduceIte,reduceEqDiff,reduceAdd,reduceSub,reduceLeDiff,zz0,decide_eq_true (show sqC x (isB b)≠0 from c0)]
   exact stop c0 _ p2
  rw[if_pos c0] at hQ
  obtain⟨x1,x2,x3⟩:=sqC_0 c0
  have l1:0≤lv∧lv≤8:=by unfold isL at c1;exact of_decide_eq_true c1
  have b1:1≤b∧b≤1000:=by unfold isB at x3;exact of_decide_eq_true x3
  have z:=(isX_sz x1).1
  obtain⟨k,rfl⟩:∃ k:Nat,lv=k:=⟨lv.toNat,by omega⟩
  rw[Int.toNat_natCast] at hQ
  have hL8:k≤8:=by omega
  try simp (maxSteps:=3000000) (disch:=first|omega|simp only[lnx];omega) only[↓xpre,xpost,↓reduceIte,reduceEqDiff,reduceAdd,reduceSub,reduceLeDiff,zz0,decide_eq_false (show ¬ (sqC x (isB b)≠0) from fun e=>e c0),wrap64_in]
  refine WC_loop_inv (fun m f K1=>∃ (l:Nat) (best:Int) (least:Int) (lt:Int),m=((k+1))-l∧l≤((k+1))∧f 1=I64 k∧f 2=I64 b∧f 3=.pointer (some ⟨h.length,0,none⟩)∧f 9=I64 best∧f 10=I64 lt∧f 26=I64 ((k:Int)+1)∧f 27=I64 l∧(H2<+:K1)∧(lt<0↔l=0)∧(0<l→lt=least)∧(0<l→x.n^k*b≤100000)∧(blF x b k (k+1-l) l best least=blF x b k (k+1) 0 0 0)) ?_ (((k+1))-0) _ _ ⟨0,0,0,-1,rfl,by omega,(by first|rfl|simp[upd_apply]),(by first|rfl|simp[upd_apply]),(by first|rfl|simp[upd_apply]),(by first|rfl|simp[upd_apply]),(by first|rfl|simp[upd_apply]),(by first|rfl|simp[upd_apply]),(by first|rfl|simp[upd_apply]),List.prefix_refl _,(by omega),(by omega),(by omega),rfl⟩
  rintro m f K1 ⟨l,best,least,lt,rfl,hl,f1,f2,f3,f9,f10,f26,f27,pp,hlt,hll,hsm,hf⟩
  have hbK:=pre_get pp hb1
  have ph:=(p1.trans p2).trans pp
  by_cases hlk:(l:Int)<(k:Int)+1
  ·have hlk':l≤k:=by omega
   have li:=lev_in z hL8 hlk' b1
   have hs:blF x b k (k+1-l) l best least=match mixB x l (x.n^(k-l)*b) with|none=>(0,3)|some v=>if l=0∨v<least then blF x b k (k+1-(l+1)) (l+1) l v else blF x b k (k+1-(l+1)) (l+1) best least:=by
    rw[show k+1-l=(k+1-(l+1))+1 by omega]
    rfl
   rw[hs] at hf
   have ekl:(k:Int)-(l:Int)=((k-l:Nat):Int):=by omega
   try simp (maxSteps:=3000000) (disch:=first|omega|simp only[lnx];omega) only[↓xpre,xpost,↓reduceIte,reduceEqDiff,reduceAdd,reduceSub,reduceLeDiff,zz0,f1,f2,f3,f9,f10,f26,f27,decide_eq_true hlk,rdn_of hbK,rd1_of hbK,wrap64_in,ekl]
   refine i_power (fun j hj=>sq_pow z (m:=8) (by omega) (by omega)) (by omega) ?_
   try simp (maxSteps:=3000000) (disch:=first|omega|simp only[lnx];omega) only[↓xpre,xpost,↓reduceIte,reduceEqDiff,reduceAdd,reduceSub,reduceLeDiff,zz0,f1,f2,f3,f9,f10,f26,f27,wrap64_in]
   refine⟨List.prefix_refl _,?_⟩
   refine i_mixed (hv.pre ph) x1 (by omega) (by omega) (by omega) (by rw[li.2.2.1];exact li.2.2.2) fun H3 p3=>⟨fun n hn=>?_,fun hn n=>?_⟩
   ·have hn2:=mixB_in x1 hv.1.widL li.1 hn
    have hsm':x.n^k*b≤100000:=by
     by_cases hl0:l=0
     ·subst hl0
      apply Decidable.byContradiction
      intro hc
      unfold mixB at hn
      rw[Nat.sub_zero,if_neg hc] at hn
      cases hn
     ·exact hsm (by omega)
    rw[hn] at hf
    simp only at hf
    by_cases g2:lt<0
    ·rw[if_pos (.inl (hlt.1 g2))] at hf
     try simp (maxSteps:=3000000) (disch:=first|omega|simp only[lnx];omega) only[↓xpre,xpost,↓reduceIte,reduceEqDiff,reduceAdd,reduceSub,reduceLeDiff,zz0,f1,f2,f3,f9,f10,f26,f27,decide_eq_true g2,WG_un,wrap64_in]
     refine InvQ_go (((k+1))-(l+1)) (by omega) ⟨(l+1),(l:Int),n,n,rfl,by omega,(by first|rfl|exact f1|(simp only[upd_apply];rfl)|(show I64 _=_;congr 1;omega)),(by first|rfl|exact f2|(simp only[upd_apply];rfl)|(show I64 _=_;congr 1;omega)),(by first|rfl|exact f3|(simp only[upd_apply];rfl)|(show I64 _=_;congr 1;omega)),(by first|rfl|exact f9|(simp only[upd_apply];rfl)|(show I64 _=_;congr 1;omega)),(by first|rfl|exact f10|(simp only[upd_apply];rfl)|(show I64 _=_;congr 1;omega)),(by first|rfl|exact f26|(simp only[upd_apply];rfl)|(show I64 _=_;congr 1;omega)),(by first|rfl|exact f27|(simp only[upd_apply];rfl)|(show I64 _=_;congr 1;omega)),(pp.trans p3),(by omega),(fun _=>rfl),(fun _=>hsm'),hf⟩
    ·have hl0:l≠0:=fun e=>g2 (hlt.2 e)
     have hle:=hll (by omega)
     by_cases g3:n<lt
     ·rw[if_pos (.inr (by omega))] at hf
      try simp (maxSteps:=3000000) (disch:=first|omega|simp only[lnx];omega) only[↓xpre,xpost,↓reduceIte,reduceEqDiff,reduceAdd,reduceSub,reduceLeDiff,zz0,f1,f2,f3,f9,f10,f26,f27,decide_eq_false g2,decide_eq_true g3,wrap64_in]
      refine InvQ_go (((k+1))-(l+1)) (by omega) ⟨(l+1),(l:Int),n,n,rfl,by omega,(by first|rfl|exact f1|(simp only[upd_apply];rfl)|(show I64 _=_;congr 1;omega)),(by first|rfl|exact f2|(simp only[upd_apply];rfl)|(show I64 _=_;congr 1;omega)),(by first|rfl|exact f3|(simp only[upd_apply];rfl)|(show I64 _=_;congr 1;omega)),(by first|rfl|exact f9|(simp only[upd_apply];rfl)|(show I64 _=_;congr 1;omega)),(by first|rfl|exact f10|(simp only[upd_apply];rfl)|(show I64 _=_;congr 1;omega)),(by first|rfl|exact f26|(simp only[upd_apply];rfl)|(show I64 _=_;congr 1;omega)),(by first|rfl|exact f27|(simp only[upd_apply];rfl)|(show I64 _=_;congr 1;omega)),(pp.trans p3),(by omega),(fun _=>rfl),(fun _=>hsm'),hf⟩
     ·rw[if_neg (by omega)] at hf
      try simp (maxSteps:=3000000) (disch:=first|omega|simp only[lnx];omega) only[↓xpre,xpost,↓reduceIte,reduceEqDiff,reduceAdd,reduceSub,reduceLeDiff,zz0,f1,f2,f3,f9,f10,f26,f27,decide_eq_false g2,decide_eq_false g3,wrap64_in]
      refine InvQ_go (((k+1))-(l+1)) (by omega) ⟨(l+1),best,least,lt,rfl,by omega,(by first|rfl|exact f1|(simp only[upd_apply];rfl)|(show I64 _=_;congr 1;omega)),(by first|rfl|exact f2|(simp only[upd_apply];rfl)|(show I64 _=_;congr 1;omega)),(by first|rfl|exact f3|(simp only[upd_apply];rfl)|(show I64 _=_;congr 1;omega)),(by first|rfl|exact f9|(simp only[upd_apply];rfl)|(show I64 _=_;congr 1;omega)),(by first|rfl|exact f10|(simp only[upd_apply];rfl)|(show I64 _=_;congr 1;omega)),(by first|rfl|exact f26|(simp only[upd_apply];rfl)|(show I64 _=_;congr 1;omega)),(by first|rfl|exact f27|(simp only[upd_apply];rfl)|(show I64 _=_;congr 1;omega)),(pp.trans p3),(by omega),(fun _=>hle),(fun _=>hsm'),hf⟩
   ·have hQ2:=hQ _ (ph.trans p3)
    rw[hn] at hf
    simp only at hf
    rw[←hf] at hQ2
    try simp (maxSteps:=3000000) (disch:=first|omega|simp only[lnx];omega) only[↓xpre,xpost,↓reduceIte,reduceEqDiff,reduceAdd,reduceSub,reduceLeDiff,zz0,f1,f2,f3,f9,f10,f26,f27]
    exact hQ2
  ·have e9:l=k+1:=by omega
   subst e9
   try simp (maxSteps:=3000000) (disch:=first|omega|simp only[lnx];omega) only[↓xpre,xpost,↓reduceIte,reduceEqDiff,reduceAdd,reduceSub,reduceLeDiff,zz0,f1,f2,f3,f9,f10,f26,f27,decide_eq_false hlk]
   have hQ2:=hQ _ ph
   rw[←hf,Nat.sub_self] at hQ2
   exact hQ2
end Go.Proofs.Ytapafdpnmakekaa.X

set_option linter.unusedVariables false
set_option linter.unusedSimpArgs false
namespace Go.Proofs.Ytapafdpnmakekaa.X
open Go Go.RowKit
theorem ceR_back {x y:Sch} (h:(ceR x y).2=0):ceR y x=(-(ceR x y).1,0):=by
 unfold ceR at h ⊢
 by_cases h1:isX x=true∧isX y=true
 ·rw[if_pos h1] at h ⊢
  rw[if_pos h1.symm]
  by_cases h2:(sq x=true∧sq y=true)∧x.n=y.n∧0<x.ps.length∧0<y.ps.length
  ·rw[if_pos h2]
   rw[if_pos ⟨h2.1.symm,h2.2.1.symm,h2.2.2.2,h2.2.2.1⟩]
   unfold cmpI
   simp only
   repeat' split
   all_goals first|rfl|omega|(simp;done)
  ·rw[if_neg h2] at h;simp at h
 ·rw[if_neg h1] at h;simp at h
theorem exR_more {x:Sch} {a b:Int} (h:(exR x a b).2=0) (h1:(exR x a b).1=true) (h24:a<24):exR x (a+1) b=(true,0):=by
 unfold exR at h h1 ⊢
 by_cases hc:sqC x (exB x a b)=0
 ·rw[if_pos hc] at h1
  have h1:(x.ps.length:Int)^b.toNat≤x.n^a.toNat:=of_decide_eq_true h1
  obtain⟨hx,hs,hb⟩:=sqC_0 hc
  have hb':=of_decide_eq_true hb
  have eb:exB x (a+1) b=true:=decide_eq_true ⟨hb'.1,⟨by omega,by omega⟩,hb'.2.2⟩
  have hn:2≤x.n:=(of_decide_eq_true hs).1
  rw[hb] at hc
  rw[eb,if_pos hc]
  refine Prod.ext (decide_eq_true ?_) rfl
  rw[show (a+1).toNat=a.toNat+1 by omega,Int.pow_succ]
  have h0:0≤(x.ps.length:Int)^b.toNat:=Int.pow_nonneg (by omega)
  have h2:x.n^a.toNat*1≤x.n^a.toNat*x.n:=Int.mul_le_mul_of_nonneg_left (by omega) (by omega)
  omega
 ·rw[if_neg hc] at h;exact absurd h hc
theorem gsF_of {n s:Int} (hn:2≤n) (hs:1≤s):∀ (m l:Nat),(l=0∨n^(l-1)<s)→(gsF n s m l).2=0→∃ k:Nat,(gsF n s m l).1=n^k∧s≤n^k∧n^k≤s*n
 | 0,l,_,h=>by simp[gsF] at h
 | m+1,l,hl,h=>by
  unfold gsF at h ⊢
  by_cases c:s≤n^l
  ·rw[if_pos c]
   refine⟨l,rfl,c,?_⟩
   have h1:1*n≤s*n:=Int.mul_le_mul_of_nonneg_right hs (by omega)
   rcases hl with rfl|hl
   ·have:n^0=1:=Int.pow_zero n
    omega
   ·by_cases h0:l=0
    ·subst h0
     have:n^0=1:=Int.pow_zero n
     omega
    ·have e:n^l=n^(l-1)*n:=by rw[←Int.pow_succ];congr 1;omega
     have h2:n^(l-1)*n≤s*n:=Int.mul_le_mul_of_nonneg_right (by omega) (by omega)
     omega
  ·rw[if_neg c] at h ⊢
   exact gsF_of hn hs m (l+1) (.inr (by rw[Nat.add_sub_cancel];omega)) h
theorem gsR_of {x:Sch} {s:Int} (h:(gsR x s).2=0):isX x=true∧(2≤x.n∧x.n≤3)∧(1≤s∧s≤1000000)∧∃ k:Nat,(gsR x s).1=x.n^k∧s≤x.n^k∧x.n^k≤s*x.n:=by
 unfold gsR at h ⊢
 by_cases hc:sqC x (gsB s)=0
 ·rw[if_pos hc] at h ⊢
  obtain⟨hx,hs,hb⟩:=sqC_0 hc
  have hn:2≤x.n:=(of_decide_eq_true hs).1
  have hb:=of_decide_eq_true hb
  have z:=(isX_sz hx).1
  exact⟨hx,⟨hn,z.n.2⟩,hb,gsF_of hn hb.1 9 0 (.inl rfl) h⟩
 ·rw[if_neg hc] at h;exact absurd h hc
theorem fgF_of {x:Sch} {b:Int}:∀ (m l:Nat),(fgF x b m l).2=0→(l:Int)≤(fgF x b m l).1∧(fgF x b m l).1<l+m
 | 0,l,h=>by simp[fgF] at h
 | m+1,l,h=>by
  unfold fgF at h ⊢
  cases e:mixB x l b with
  | none=>rw[e] at h;simp at h
  | some n=>
   rw[e] at h
   simp only at h ⊢
   split
   ·exact⟨Int.le_refl _,by push_cast;omega⟩
   ·rename_i c
    rw[if_neg c] at h
    have:=fgF_of m (l+1) h
    push_cast at this ⊢
    omega
theorem fgR_of {x:Sch} {b:Int} (h:(fgR x b).2=0):1≤(fgR x b).1∧(fgR x b).1≤8:=by
 unfold fgR at h ⊢
 by_cases hc:sqC x (isB b)=0
 ·rw[if_pos hc] at h ⊢
  have:=fgF_of 8 1 h
  omega
 ·rw[if_neg hc] at h;exact absurd h hc
theorem blF_of {x:Sch} {b:Int} {L:Nat}:∀ (m l:Nat) (best least:Int),0≤best∧best<l+m→(blF x b L m l best least).2=0→0≤(blF x b L m l best least).1∧(blF x b L m l best least).1<l+m
 | 0,l,best,least,hb,h=>by simpa [blF] using hb
 | m+1,l,best,least,hb,h=>by
  unfold blF at h ⊢
  cases e:mixB x l (x.n^(L-l)*b) with
  | none=>rw[e] at h;simp at h
  | some v=>
   rw[e] at h
   simp only at h ⊢
   split
   ·rename_i c
    rw[if_pos c] at h
    have:=blF_of m (l+1) l v ⟨by omega,by push_cast;omega⟩ h
    push_cast at this ⊢
    omega
   ·rename_i c
    rw[if_neg c] at h
    have:=blF_of m (l+1) best least ⟨hb.1,by push_cast at hb ⊢;omega⟩ h
    push_cast at this ⊢
    omega
theorem blR_of {x:Sch} {lv b:Int} (h:(blR x lv b).2=0):0≤(blR x lv b).1∧(blR x lv b).1≤lv:=by
 unfold blR at h ⊢
 by_cases hc:sqC x (isL lv&&isB b)=0
 ·rw[if_pos hc] at h ⊢
  obtain⟨hx,hs,hb⟩:=sqC_0 hc
  simp only[Bool.and_eq_true] at hb
  have hl:=of_decide_eq_true hb.1
  have:=blF_of (lv.toNat+1) 0 0 0 ⟨by omega,by omega⟩ h
  omega
 ·rw[if_neg hc] at h;exact absurd h hc
theorem blR_no {x:Sch} {lv b:Int} (h:(blR x lv b).2≠0):(blR x lv b).1=0:=by
 have key:∀ (m l:Nat) (best least:Int),(blF x b lv.toNat m l best least).2≠0→(blF x b lv.toNat m l best least).1=0:=by
  intro m
  induction m with
  | zero=>intro l best least h;simp[blF] at h
  | succ m ih=>
   intro l best least h
   unfold blF at h ⊢
   cases e:mixB x l (x.n^(lv.toNat-l)*b) with
   | none=>rfl
   | some v=>
    rw[e] at h
    simp only at h ⊢
    split
    ·rename_i c
     rw[if_pos c] at h
     exact ih _ _ _ h
    ·rename_i c
     rw[if_neg c] at h
     exact ih _ _ _ h
 unfold blR at h ⊢
 by_cases hc:sqC x (isL lv&&isB b)=0
 ·rw[if_pos hc] at h ⊢
  exact key _ _ _ _ h
 ·rw[if_neg hc]
set_option maxRecDepth 20000
set_option maxHeartbeats 4000000
theorem TenB.l {t:Ten} (b:TenB t):(t.ns.length:Int)≤1048576:=by
 have:=b.ns
 omega
theorem WO_mono' {S:XS} {A REST:IR} {f:Fr} {h:AH} {R:XE→Fr→AH→Prop} (I:Fr→AH→Prop) (w:WC S A f h (JnQ I)) (hr:∀ f h,I f h→WC S REST f h R):WC S A f h (SeqQ S REST R):=
 WC.mono w fun e f2 h2 q2=>by
  cases e with
  | normal=>exact hr f2 h2 q2
  | exit id=>exact q2.elim
  | ret=>exact q2.elim
def coOK (t:Ten) (s:Int) (ns:List Int):Prop:=(0≤s∧s≤2)∧allIn t.p ns=true∧(ns.length:Int)=sideN t s.toNat
instance {t:Ten} {s:Int} {ns:List Int}:Decidable (coOK t s ns):=by unfold coOK;infer_instance
theorem WO_join2 {S:XS} {ops:List XI} {a b REST:IR} {f:Fr} {h:AH} {R:XE→Fr→AH→Prop} (I:Fr→AH→Prop) (w:WO S ops f h (RegQ (SeqQ S a (SeqQ S b (JnQ I))))) (hr:∀ f h,I f h→WC S REST f h R) :
  WO S ops f h (RegQ (SeqQ S a (SeqQ S (.seq b REST) R))):=by
 refine w.mono fun f1 h1 q=>?_
 refine WC.mono q fun e f2 h2 q2=>?_
 cases e with
 | normal=>
  show WC S (.seq b REST) f2 h2 R
  rw[WC_seq]
  exact WO_mono' I q2 hr
 | exit id=>exact q2.elim
 | ret=>exact q2.elim
end Go.Proofs.Ytapafdpnmakekaa.X

set_option linter.unusedVariables false
set_option linter.unusedSimpArgs false
set_option maxRecDepth 20000
set_option maxHeartbeats 4000000
namespace Go.Proofs.Ytapafdpnmakekaa.X
open Go Go.RowKit
open Nat (reduceEqDiff reduceAdd reduceSub reduceLeDiff)
theorem WC_joinB {S:XS} {b REST:IR} {f:Fr} {h:AH} {R:XE→Fr→AH→Prop} (I:Fr→AH→Prop) (w:WC S b f h (JnQ I)) (hr:∀ f h,I f h→WC S REST f h R):WC S (.seq b REST) f h R:=by
 rw[WC_seq]
 exact WO_mono' I w hr
theorem ceR_in {x y:Sch}:-1≤(ceR x y).1∧(ceR x y).1≤1:=by
 unfold ceR
 split
 ·split
  ·unfold cmpI
   simp only
   repeat' split
   all_goals omega
  ·simp
 ·simp
theorem exR_a {x:Sch} {a b:Int} (h:(exR x a b).2=0):0≤a∧a≤24:=by
 unfold exR at h
 by_cases hc:sqC x (exB x a b)=0
 ·have:=of_decide_eq_true (sqC_0 hc).2.2
  exact this.2.1
 ·rw[if_neg hc] at h;exact absurd h hc
theorem pow_mod {n:Int} (hn:2≤n) (i:Nat) (hi:1≤i):(n^i).tmod n=0∧1<n^i∧(n^i).tdiv n=n^(i-1):=by
 obtain⟨j,rfl⟩:∃ j,i=j+1:=⟨i-1,by omega⟩
 rw[Nat.add_sub_cancel,Int.pow_succ]
 have h1:0<n^j:=Int.pow_pos (by omega)
 refine⟨Int.mul_tmod_left _ _,?_,Int.mul_tdiv_cancel _ (by omega)⟩
 have:1*n≤n^j*n:=Int.mul_le_mul_of_nonneg_right (by omega) (by omega)
 omega
theorem law_Gains {h:AH} {cv:Value} {code:List (List Int)} (c:Els .u8 1 h cv code) (b:Byt 1 code):WF S 10 [cv] h (fun v _=>v=.bool true):=by
 refine WF_fn (fn:=c10) rfl rfl ?_
 dsimp only[c10,oO,oM,oS,oG,oK,oE,oL,oF,oX,oN]
 ((try simp (maxSteps:=3000000) (dsimp:=false) (disch:=first|omega|simp only[lnx];omega) only[↓ypre,ypost,↓reduceIte,reduceEqDiff,reduceAdd,reduceSub,reduceLeDiff,zz0,ynew]);try simp only[yback])
 refine l_big c ?_
 by_cases hbig:(code.length:Int)>4096
 ·((try simp (maxSteps:=3000000) (dsimp:=false) (disch:=first|omega|simp only[lnx];omega) only[↓ypre,ypost,↓reduceIte,reduceEqDiff,reduceAdd,reduceSub,reduceLeDiff,zz0,ynew,decide_eq_true hbig]);try simp only[yback])
 ((try simp (maxSteps:=3000000) (dsimp:=false) (disch:=first|omega|simp only[lnx];omega) only[↓ypre,ypost,↓reduceIte,reduceEqDiff,reduceAdd,reduceSub,reduceLeDiff,zz0,ynew,decide_eq_false hbig]);try simp only[yback])
 have c:Cod h cv code:=⟨c,b,by omega⟩
 refine s_DrawBestLevels c fun x v1 l b H1 p1 sd xx=>?_
 have hv1:=sd.now
 have o1:isOne v1=true:=hv1.one
 refine WO_cut (fun f:Fr=>f 0=cv∧f 44=.tuple #[schV x v1,I64 l,I64 b]∧True) ⟨(by first|rfl|simp[upd_apply]),(by first|rfl|simp[upd_apply]),trivial⟩ ?_
 rintro f ⟨f0,f44,-⟩
 ((try simp (maxSteps:=3000000) (dsimp:=false) (disch:=first|omega|simp only[lnx];omega) only[↓ypre,ypost,↓reduceIte,reduceEqDiff,reduceAdd,reduceSub,reduceLeDiff,zz0,ynew,f0,f44,schV,o1]);try simp only[yback])
 generalize hH2:AH.new H1 _=H2
 obtain⟨g2,p2,n2⟩:=new_facts hH2
 ((try simp (maxSteps:=3000000) (dsimp:=false) (disch:=first|omega|simp only[lnx];omega) only[↓ypre,ypost,↓reduceIte,reduceEqDiff,reduceAdd,reduceSub,reduceLeDiff,zz0,ynew,f0,f44,rdn_of g2]);try simp only[yback])
 refine i_BestLevels (x:=x) (lv:=l) (b:=b) (hv1.pre p2) xx.l fun H3 p3=>?_
 generalize hB:blR x l b=B
 refine WO_cut (fun f:Fr=>f 0=cv∧f 3=.pointer (some ⟨H1.length,0,none⟩)∧f 4=I64 l∧f 5=I64 b∧f 52=.tuple #[I64 B.1,I64 B.2]∧True) ⟨(by first|rfl|exact f0|simp[upd_apply,f0]),(by first|rfl|simp[upd_apply]),(by first|rfl|simp[upd_apply]),(by first|rfl|simp[upd_apply]),(by first|rfl|simp[upd_apply]),trivial⟩ ?_
 rintro f ⟨f0,f3,f4,f5,f52,-⟩
 have g2:=pre_get p3 g2
 ((try simp (maxSteps:=3000000) (dsimp:=false) (disch:=first|omega|simp only[lnx];omega) only[↓ypre,ypost,↓reduceIte,reduceEqDiff,reduceAdd,reduceSub,reduceLeDiff,zz0,ynew,f0,f3,f4,f5,f52,rdn_of g2]);try simp only[yback])
 refine s_BestLevels (x:=x) (lv:=l) (b:=b) (hv1.pre (p2.trans p3)) xx.l fun H4 p4=>?_
 rw[hB]
 refine WO_cut (fun f:Fr=>f 0=cv∧f 4=I64 l∧f 6=I64 B.1∧f 7=I64 B.2∧f 59=.tuple #[I64 B.1,I64 B.2]∧True) ⟨(by first|rfl|exact f0|simp[upd_apply,f0]),(by first|rfl|exact f4|simp[upd_apply,f4]),(by first|rfl|simp[upd_apply]),(by first|rfl|simp[upd_apply]),(by first|rfl|simp[upd_apply]),trivial⟩ ?_
 rintro f ⟨f0,f4,f6,f7,f59,-⟩
 ((try simp (maxSteps:=3000000) (dsimp:=false) (disch:=first|omega|simp only[lnx];omega) only[↓ypre,ypost,↓reduceIte,reduceEqDiff,reduceAdd,reduceSub,reduceLeDiff,zz0,ynew,f0,f4,f6,f7,f59,decide_eq_false (show ¬ (B.2)≠(B.2) from fun h=>h rfl),decide_eq_false (show ¬ (B.1)≠(B.1) from fun h=>h rfl)]);try simp only[yback])
 refine s_DrawFirstGain (c.pre ((p1.trans p2).trans (p3.trans p4))) fun y v2 b2 H5 p5 sd xy=>?_
 have hv2:=sd.now
 have o2:isOne v2=true:=hv2.one
 refine WO_cut (fun f:Fr=>f 0=cv∧f 4=I64 l∧f 6=I64 B.1∧f 7=I64 B.2∧f 72=.tuple #[schV y v2,I64 b2]∧True) ⟨(by first|rfl|exact f0|simp[upd_apply,f0]),(by first|rfl|exact f4|simp[upd_apply,f4]),(by first|rfl|exact f6|simp[upd_apply,f6]),(by first|rfl|exact f7|simp[upd_apply,f7]),(by first|rfl|simp[upd_apply]),trivial⟩ ?_
 rintro f ⟨f0,f4,f6,f7,f72,-⟩
 ((try simp (maxSteps:=3000000) (dsimp:=false) (disch:=first|omega|simp only[lnx];omega) only[↓ypre,ypost,↓reduceIte,reduceEqDiff,reduceAdd,reduceSub,reduceLeDiff,zz0,ynew,f0,f4,f6,f7,f72,schV,o2]);try simp only[yback])
 generalize hH6:AH.new H5 _=H6
 obtain⟨g6,p6,n6⟩:=new_facts hH6
 ((try simp (maxSteps:=3000000) (dsimp:=false) (disch:=first|omega|simp only[lnx];omega) only[↓ypre,ypost,↓reduceIte,reduceEqDiff,reduceAdd,reduceSub,reduceLeDiff,zz0,ynew,f0,f4,f6,f7,f72,rdn_of g6]);try simp only[yback])
 refine i_FirstGain (x:=y) (b:=b2) (hv2.pre p6) xy.l fun H7 p7=>?_
 generalize hF:fgR y b2=F
 refine WO_cut (fun f:Fr=>f 0=cv∧f 4=I64 l∧f 6=I64 B.1∧f 7=I64 B.2∧f 10=.pointer (some ⟨H5.length,0,none⟩)∧f 11=I64 b2∧f 78=.tuple #[I64 F.1,I64 F.2]∧True) ⟨(by first|rfl|exact f0|simp[upd_apply,f0]),(by first|rfl|exact f4|simp[upd_apply,f4]),(by first|rfl|exact f6|simp[upd_apply,f6]),(by first|rfl|exact f7|simp[upd_apply,f7]),(by first|rfl|simp[upd_apply]),(by first|rfl|simp[upd_apply]),(by first|rfl|simp[upd_apply]),trivial⟩ ?_
 rintro f ⟨f0,f4,f6,f7,f10,f11,f78,-⟩
 have g6:=pre_get p7 g6
 ((try simp (maxSteps:=3000000) (dsimp:=false) (disch:=first|omega|simp only[lnx];omega) only[↓ypre,ypost,↓reduceIte,reduceEqDiff,reduceAdd,reduceSub,reduceLeDiff,zz0,ynew,f0,f4,f6,f7,f10,f11,f78,rdn_of g6]);try simp only[yback])
 refine s_FirstGain (x:=y) (b:=b2) (hv2.pre (p6.trans p7)) xy.l fun H8 p8=>?_
 rw[hF]
 refine WO_cut (fun f:Fr=>f 0=cv∧f 4=I64 l∧f 6=I64 B.1∧f 7=I64 B.2∧f 12=I64 F.1∧f 13=I64 F.2∧f 84=.tuple #[I64 F.1,I64 F.2]∧True) ⟨(by first|rfl|exact f0|simp[upd_apply,f0]),(by first|rfl|exact f4|simp[upd_apply,f4]),(by first|rfl|exact f6|simp[upd_apply,f6]),(by first|rfl|exact f7|simp[upd_apply,f7]),(by first|rfl|simp[upd_apply]),(by first|rfl|simp[upd_apply]),(by first|rfl|simp[upd_apply]),trivial⟩ ?_
 rintro f ⟨f0,f4,f6,f7,f12,f13,f84,-⟩
 ((try simp (maxSteps:=3000000) (dsimp:=false) (disch:=first|omega|simp only[lnx];omega) only[↓ypre,ypost,↓reduceIte,reduceEqDiff,reduceAdd,reduceSub,reduceLeDiff,zz0,ynew,f0,f4,f6,f7,f12,f13,f84,decide_eq_false (show ¬ (F.2)≠(F.2) from fun h=>h rfl),decide_eq_false (show ¬ (F.1)≠(F.1) from fun h=>h rfl)]);try simp only[yback])
 refine s_DrawGreaterSize (c.pre (((p1.trans p2).trans (p3.trans p4)).trans ((p5.trans p6).trans (p7.trans p8)))) fun z v3 s H9 p9 sd xz=>?_
 have hv3:=sd.now
 have o3:isOne v3=true:=hv3.one
 refine WO_cut (fun f:Fr=>f 0=cv∧f 4=I64 l∧f 6=I64 B.1∧f 7=I64 B.2∧f 12=I64 F.1∧f 13=I64 F.2∧f 97=.tuple #[schV z v3,I64 s]∧True) ⟨(by first|rfl|exact f0|simp[upd_apply,f0]),(by first|rfl|exact f4|simp[upd_apply,f4]),(by first|rfl|exact f6|simp[upd_apply,f6]),(by first|rfl|exact f7|simp[upd_apply,f7]),(by first|rfl|exact f12|simp[upd_apply,f12]),(by first|rfl|exact f13|simp[upd_apply,f13]),(by first|rfl|simp[upd_apply]),trivial⟩ ?_
 rintro f ⟨f0,f4,f6,f7,f12,f13,f97,-⟩
 ((try simp (maxSteps:=3000000) (dsimp:=false) (disch:=first|omega|simp only[lnx];omega) only[↓ypre,ypost,↓reduceIte,reduceEqDiff,reduceAdd,reduceSub,reduceLeDiff,zz0,ynew,f0,f4,f6,f7,f12,f13,f97,schV,o3]);try simp only[yback])
 generalize hH10:AH.new H9 _=H10
 obtain⟨g10,p10,n10⟩:=new_facts hH10
 ((try simp (maxSteps:=3000000) (dsimp:=false) (disch:=first|omega|simp only[lnx];omega) only[↓ypre,ypost,↓reduceIte,reduceEqDiff,reduceAdd,reduceSub,reduceLeDiff,zz0,ynew,f0,f4,f6,f7,f12,f13,f97,rdn_of g10]);try simp only[yback])
 refine i_GreaterSize (x:=z) (s:=s) (hv3.pre p10) xz.l fun H11 p11=>?_
 generalize hG:gsR z s=G
 refine WO_cut (fun f:Fr=>f 0=cv∧f 4=I64 l∧f 6=I64 B.1∧f 7=I64 B.2∧f 12=I64 F.1∧f 13=I64 F.2∧f 16=.pointer (some ⟨H9.length,0,none⟩)∧f 17=I64 s∧f 103=.tuple #[I64 G.1,I64 G.2]∧True) ⟨(by first|rfl|exact f0|simp[upd_apply,f0]),(by first|rfl|exact f4|simp[upd_apply,f4]),(by first|rfl|exact f6|simp[upd_apply,f6]),(by first|rfl|exact f7|simp[upd_apply,f7]),(by first|rfl|exact f12|simp[upd_apply,f12]),(by first|rfl|exact f13|simp[upd_apply,f13]),(by first|rfl|simp[upd_apply]),(by first|rfl|simp[upd_apply]),(by first|rfl|simp[upd_apply]),trivial⟩ ?_
 rintro f ⟨f0,f4,f6,f7,f12,f13,f16,f17,f103,-⟩
 have g10:=pre_get p11 g10
 ((try simp (maxSteps:=3000000) (dsimp:=false) (disch:=first|omega|simp only[lnx];omega) only[↓ypre,ypost,↓reduceIte,reduceEqDiff,reduceAdd,reduceSub,reduceLeDiff,zz0,ynew,f0,f4,f6,f7,f12,f13,f16,f17,f103,rdn_of g10]);try simp only[yback])
 refine s_GreaterSize (x:=z) (s:=s) (hv3.pre (p10.trans p11)) xz.l fun H12 p12=>?_
 rw[hG]
 refine WO_cut (fun f:Fr=>f 0=cv∧f 4=I64 l∧f 6=I64 B.1∧f 7=I64 B.2∧f 12=I64 F.1∧f 13=I64 F.2∧f 16=.pointer (some ⟨H9.length,0,none⟩)∧f 17=I64 s∧f 18=I64 G.1∧f 19=I64 G.2∧f 109=.tuple #[I64 G.1,I64 G.2]∧True) ⟨(by first|rfl|exact f0|simp[upd_apply,f0]),(by first|rfl|exact f4|simp[upd_apply,f4]),(by first|rfl|exact f6|simp[upd_apply,f6]),(by first|rfl|exact f7|simp[upd_apply,f7]),(by first|rfl|exact f12|simp[upd_apply,f12]),(by first|rfl|exact f13|simp[upd_apply,f13]),(by first|rfl|exact f16|simp[upd_apply,f16]),(by first|rfl|exact f17|simp[upd_apply,f17]),(by first|rfl|simp[upd_apply]),(by first|rfl|simp[upd_apply]),(by first|rfl|simp[upd_apply]),trivial⟩ ?_
 rintro f ⟨f0,f4,f6,f7,f12,f13,f16,f17,f18,f19,f109,-⟩
 ((try simp (maxSteps:=3000000) (dsimp:=false) (disch:=first|omega|simp only[lnx];omega) only[↓ypre,ypost,↓reduceIte,reduceEqDiff,reduceAdd,reduceSub,reduceLeDiff,zz0,ynew,f0,f4,f6,f7,f12,f13,f16,f17,f18,f19,f109,decide_eq_false (show ¬ (G.2)≠(G.2) from fun h=>h rfl),decide_eq_false (show ¬ (G.1)≠(G.1) from fun h=>h rfl)]);try simp only[yback])
 refine s_DrawIsExponentAtMost (c.pre (((p1.trans (p2.trans p3)).trans (p4.trans (p5.trans p6))).trans ((p7.trans (p8.trans p9)).trans (p10.trans (p11.trans p12))))) fun w v4 a d H13 p13 sd xw=>?_
 have hv4:=sd.now
 have o4:isOne v4=true:=hv4.one
 refine WO_cut (fun f:Fr=>f 0=cv∧f 4=I64 l∧f 6=I64 B.1∧f 7=I64 B.2∧f 12=I64 F.1∧f 13=I64 F.2∧f 16=.pointer (some ⟨H9.length,0,none⟩)∧f 17=I64 s∧f 18=I64 G.1∧f 19=I64 G.2∧f 122=.tuple #[schV w v4,I64 a,I64 d]∧True) ⟨(by first|rfl|exact f0|simp[upd_apply,f0]),(by first|rfl|exact f4|simp[upd_apply,f4]),(by first|rfl|exact f6|simp[upd_apply,f6]),(by first|rfl|exact f7|simp[upd_apply,f7]),(by first|rfl|exact f12|simp[upd_apply,f12]),(by first|rfl|exact f13|simp[upd_apply,f13]),(by first|rfl|exact f16|simp[upd_apply,f16]),(by first|rfl|exact f17|simp[upd_apply,f17]),(by first|rfl|exact f18|simp[upd_apply,f18]),(by first|rfl|exact f19|simp[upd_apply,f19]),(by first|rfl|simp[upd_apply]),trivial⟩ ?_
 rintro f ⟨f0,f4,f6,f7,f12,f13,f16,f17,f18,f19,f122,-⟩
 ((try simp (maxSteps:=3000000) (dsimp:=false) (disch:=first|omega|simp only[lnx];omega) only[↓ypre,ypost,↓reduceIte,reduceEqDiff,reduceAdd,reduceSub,reduceLeDiff,zz0,ynew,f0,f4,f6,f7,f12,f13,f16,f17,f18,f19,f122,schV,o4]);try simp only[yback])
 generalize hH14:AH.new H13 _=H14
 obtain⟨g14,p14,n14⟩:=new_facts hH14
 ((try simp (maxSteps:=3000000) (dsimp:=false) (disch:=first|omega|simp only[lnx];omega) only[↓ypre,ypost,↓reduceIte,reduceEqDiff,reduceAdd,reduceSub,reduceLeDiff,zz0,ynew,f0,f4,f6,f7,f12,f13,f16,f17,f18,f19,f122,rdn_of g14]);try simp only[yback])
 refine i_IsExponentAtMost (x:=w) (a:=a) (b:=d) (hv4.pre p14) xw.l fun H15 p15=>?_
 generalize hE:exR w a d=E
 refine WO_cut (fun f:Fr=>f 0=cv∧f 4=I64 l∧f 6=I64 B.1∧f 7=I64 B.2∧f 12=I64 F.1∧f 13=I64 F.2∧f 16=.pointer (some ⟨H9.length,0,none⟩)∧f 17=I64 s∧f 18=I64 G.1∧f 19=I64 G.2∧f 22=.pointer (some ⟨H13.length,0,none⟩)∧f 23=I64 a∧f 24=I64 d∧f 130=.tuple #[.bool E.1,I64 E.2]∧True) ⟨(by first|rfl|exact f0|simp[upd_apply,f0]),(by first|rfl|exact f4|simp[upd_apply,f4]),(by first|rfl|exact f6|simp[upd_apply,f6]),(by first|rfl|exact f7|simp[upd_apply,f7]),(by first|rfl|exact f12|simp[upd_apply,f12]),(by first|rfl|exact f13|simp[upd_apply,f13]),(by first|rfl|exact f16|simp[upd_apply,f16]),(by first|rfl|exact f17|simp[upd_apply,f17]),(by first|rfl|exact f18|simp[upd_apply,f18]),(by first|rfl|exact f19|simp[upd_apply,f19]),(by first|rfl|simp[upd_apply]),(by first|rfl|simp[upd_apply]),(by first|rfl|simp[upd_apply]),(by first|rfl|simp[upd_apply]),trivial⟩ ?_
 rintro f ⟨f0,f4,f6,f7,f12,f13,f16,f17,f18,f19,f22,f23,f24,f130,-⟩
 have g14:=pre_get p15 g14
 ((try simp (maxSteps:=3000000) (dsimp:=false) (disch:=first|omega|simp only[lnx];omega) only[↓ypre,ypost,↓reduceIte,reduceEqDiff,reduceAdd,reduceSub,reduceLeDiff,zz0,ynew,f0,f4,f6,f7,f12,f13,f16,f17,f18,f19,f22,f23,f24,f130,rdn_of g14]);try simp only[yback])
 refine s_IsExponentAtMost (x:=w) (a:=a) (b:=d) (hv4.pre (p14.trans p15)) xw.l fun H16 p16=>?_
 rw[hE]
 refine WO_cut (fun f:Fr=>f 0=cv∧f 4=I64 l∧f 6=I64 B.1∧f 7=I64 B.2∧f 12=I64 F.1∧f 13=I64 F.2∧f 16=.pointer (some ⟨H9.length,0,none⟩)∧f 17=I64 s∧f 18=I64 G.1∧f 19=I64 G.2∧f 22=.pointer (some ⟨H13.length,0,none⟩)∧f 23=I64 a∧f 24=I64 d∧f 25=.bool E.1∧f 26=I64 E.2∧f 137=.tuple #[.bool E.1,I64 E.2]∧True) ⟨(by first|rfl|exact f0|simp[upd_apply,f0]),(by first|rfl|exact f4|simp[upd_apply,f4]),(by first|rfl|exact f6|simp[upd_apply,f6]),(by first|rfl|exact f7|simp[upd_apply,f7]),(by first|rfl|exact f12|simp[upd_apply,f12]),(by first|rfl|exact f13|simp[upd_apply,f13]),(by first|rfl|exact f16|simp[upd_apply,f16]),(by first|rfl|exact f17|simp[upd_apply,f17]),(by first|rfl|exact f18|simp[upd_apply,f18]),(by first|rfl|exact f19|simp[upd_apply,f19]),(by first|rfl|exact f22|simp[upd_apply,f22]),(by first|rfl|exact f23|simp[upd_apply,f23]),(by first|rfl|exact f24|simp[upd_apply,f24]),(by first|rfl|simp[upd_apply]),(by first|rfl|simp[upd_apply]),(by first|rfl|simp[upd_apply]),trivial⟩ ?_
 rintro f ⟨f0,f4,f6,f7,f12,f13,f16,f17,f18,f19,f22,f23,f24,f25,f26,f137,-⟩
 ((try simp (maxSteps:=3000000) (dsimp:=false) (disch:=first|omega|simp only[lnx];omega) only[↓ypre,ypost,↓reduceIte,reduceEqDiff,reduceAdd,reduceSub,reduceLeDiff,zz0,ynew,f0,f4,f6,f7,f12,f13,f16,f17,f18,f19,f22,f23,f24,f25,f26,f137,decide_eq_false (show ¬ (E.2)≠(E.2) from fun h=>h rfl),show ((E.1==E.1) != true)=false by simp]);try simp only[yback])
 refine s_DrawCompareExponents (c.pre ((((p1.trans p2).trans (p3.trans p4)).trans ((p5.trans p6).trans (p7.trans p8))).trans (((p9.trans p10).trans (p11.trans p12)).trans ((p13.trans p14).trans (p15.trans p16))))) fun u t v5 v6 H17 p17 sd xu sd6 xt=>?_
 have hv5:=sd.now
 have o5:isOne v5=true:=hv5.one
 have hv6:=sd6.now
 have o6:isOne v6=true:=hv6.one
 refine WO_cut (fun f:Fr=>f 4=I64 l∧f 6=I64 B.1∧f 7=I64 B.2∧f 12=I64 F.1∧f 13=I64 F.2∧f 16=.pointer (some ⟨H9.length,0,none⟩)∧f 17=I64 s∧f 18=I64 G.1∧f 19=I64 G.2∧f 22=.pointer (some ⟨H13.length,0,none⟩)∧f 23=I64 a∧f 24=I64 d∧f 25=.bool E.1∧f 26=I64 E.2∧f 150=.tuple #[schV u v5,schV t v6]∧True) ⟨(by first|rfl|exact f4|simp[upd_apply,f4]),(by first|rfl|exact f6|simp[upd_apply,f6]),(by first|rfl|exact f7|simp[upd_apply,f7]),(by first|rfl|exact f12|simp[upd_apply,f12]),(by first|rfl|exact f13|simp[upd_apply,f13]),(by first|rfl|exact f16|simp[upd_apply,f16]),(by first|rfl|exact f17|simp[upd_apply,f17]),(by first|rfl|exact f18|simp[upd_apply,f18]),(by first|rfl|exact f19|simp[upd_apply,f19]),(by first|rfl|exact f22|simp[upd_apply,f22]),(by first|rfl|exact f23|simp[upd_apply,f23]),(by first|rfl|exact f24|simp[upd_apply,f24]),(by first|rfl|exact f25|simp[upd_apply,f25]),(by first|rfl|exact f26|simp[upd_apply,f26]),(by first|rfl|simp[upd_apply]),trivial⟩ ?_
 rintro f ⟨f4,f6,f7,f12,f13,f16,f17,f18,f19,f22,f23,f24,f25,f26,f150,-⟩
 ((try simp (maxSteps:=3000000) (dsimp:=false) (disch:=first|omega|simp only[lnx];omega) only[↓ypre,ypost,↓reduceIte,reduceEqDiff,reduceAdd,reduceSub,reduceLeDiff,zz0,ynew,f4,f6,f7,f12,f13,f16,f17,f18,f19,f22,f23,f24,f25,f26,f150,schV,o5,o6]);try simp only[yback])
 simp only[len_new]
 generalize hH18:AH.new H17 _=H18
 obtain⟨g18,p18,n18⟩:=new_facts hH18
 generalize hH19:AH.new H18 _=H19
 obtain⟨g19,p19,n19⟩:=new_facts hH19
 rw[n18] at g19
 have g18:=pre_get p19 g18
 ((try simp (maxSteps:=3000000) (dsimp:=false) (disch:=first|omega|simp only[lnx];omega) only[↓ypre,ypost,↓reduceIte,reduceEqDiff,reduceAdd,reduceSub,reduceLeDiff,zz0,ynew,f4,f6,f7,f12,f13,f16,f17,f18,f19,f22,f23,f24,f25,f26,f150,wr_of g19,splice_eq,rdn_of g18]);try simp only[yback])
 generalize hH20:AH.put H19 _ _=H20
 obtain⟨q20,l20,o20,u20⟩:=put_facts hH20
 have g19:=o20 (get_lt g19)
 have g18:=q20 H17.length _ (by omega) g18
 have p20:H17<+:H20:=hH20▸pre_put (p18.trans p19) (by omega)
 ((try simp (maxSteps:=3000000) (dsimp:=false) (disch:=first|omega|simp only[lnx];omega) only[↓ypre,ypost,↓reduceIte,reduceEqDiff,reduceAdd,reduceSub,reduceLeDiff,zz0,ynew,f4,f6,f7,f12,f13,f16,f17,f18,f19,f22,f23,f24,f25,f26,f150,rdn_of g18,rdn_of g19]);try simp only[yback])
 refine i_CompareExponents (x:=u) (y:=t) (hv5.pre p20) xu.l (hv6.pre p20) xt.l fun H21 p21=>?_
 generalize hC:ceR u t=C
 refine WO_cut (fun f:Fr=>f 4=I64 l∧f 6=I64 B.1∧f 7=I64 B.2∧f 12=I64 F.1∧f 13=I64 F.2∧f 16=.pointer (some ⟨H9.length,0,none⟩)∧f 17=I64 s∧f 18=I64 G.1∧f 19=I64 G.2∧f 22=.pointer (some ⟨H13.length,0,none⟩)∧f 23=I64 a∧f 24=I64 d∧f 25=.bool E.1∧f 26=I64 E.2∧f 29=.pointer (some ⟨H17.length,0,none⟩)∧f 30=.pointer (some ⟨(H17.length+1),0,none⟩)∧f 156=.tuple #[I64 C.1,I64 C.2]∧True) ⟨(by first|rfl|exact f4|simp[upd_apply,f4]),(by first|rfl|exact f6|simp[upd_apply,f6]),(by first|rfl|exact f7|simp[upd_apply,f7]),(by first|rfl|exact f12|simp[upd_apply,f12]),(by first|rfl|exact f13|simp[upd_apply,f13]),(by first|rfl|exact f16|simp[upd_apply,f16]),(by first|rfl|exact f17|simp[upd_apply,f17]),(by first|rfl|exact f18|simp[upd_apply,f18]),(by first|rfl|exact f19|simp[upd_apply,f19]),(by first|rfl|exact f22|simp[upd_apply,f22]),(by first|rfl|exact f23|simp[upd_apply,f23]),(by first|rfl|exact f24|simp[upd_apply,f24]),(by first|rfl|exact f25|simp[upd_apply,f25]),(by first|rfl|exact f26|simp[upd_apply,f26]),(by first|rfl|simp[upd_apply]),(by first|rfl|simp[upd_apply]),(by first|rfl|simp[upd_apply]),trivial⟩ ?_
 rintro f ⟨f4,f6,f7,f12,f13,f16,f17,f18,f19,f22,f23,f24,f25,f26,f29,f30,f156,-⟩
 have g18:=pre_get p21 g18
 have g19:=pre_get p21 g19
 ((try simp (maxSteps:=3000000) (dsimp:=false) (disch:=first|omega|simp only[lnx];omega) only[↓ypre,ypost,↓reduceIte,reduceEqDiff,reduceAdd,reduceSub,reduceLeDiff,zz0,ynew,f4,f6,f7,f12,f13,f16,f17,f18,f19,f22,f23,f24,f25,f26,f29,f30,f156,rdn_of g18,rdn_of g19]);try simp only[yback])
 refine s_CompareExponents (x:=u) (y:=t) (hv5.pre (p20.trans p21)) xu.l (hv6.pre (p20.trans p21)) xt.l fun H22 p22=>?_
 rw[hC]
 refine WO_cut (fun f:Fr=>f 4=I64 l∧f 6=I64 B.1∧f 7=I64 B.2∧f 12=I64 F.1∧f 13=I64 F.2∧f 16=.pointer (some ⟨H9.length,0,none⟩)∧f 17=I64 s∧f 18=I64 G.1∧f 19=I64 G.2∧f 22=.pointer (some ⟨H13.length,0,none⟩)∧f 23=I64 a∧f 24=I64 d∧f 25=.bool E.1∧f 26=I64 E.2∧f 29=.pointer (some ⟨H17.length,0,none⟩)∧f 30=.pointer (some ⟨(H17.length+1),0,none⟩)∧f 31=I64 C.1∧f 32=I64 C.2∧f 162=.tuple #[I64 C.1,I64 C.2]∧True) ⟨(by first|rfl|exact f4|simp[upd_apply,f4]),(by first|rfl|exact f6|simp[upd_apply,f6]),(by first|rfl|exact f7|simp[upd_apply,f7]),(by first|rfl|exact f12|simp[upd_apply,f12]),(by first|rfl|exact f13|simp[upd_apply,f13]),(by first|rfl|exact f16|simp[upd_apply,f16]),(by first|rfl|exact f17|simp[upd_apply,f17]),(by first|rfl|exact f18|simp[upd_apply,f18]),(by first|rfl|exact f19|simp[upd_apply,f19]),(by first|rfl|exact f22|simp[upd_apply,f22]),(by first|rfl|exact f23|simp[upd_apply,f23]),(by first|rfl|exact f24|simp[upd_apply,f24]),(by first|rfl|exact f25|simp[upd_apply,f25]),(by first|rfl|exact f26|simp[upd_apply,f26]),(by first|rfl|exact f29|simp[upd_apply,f29]),(by first|rfl|exact f30|simp[upd_apply,f30]),(by first|rfl|simp[upd_apply]),(by first|rfl|simp[upd_apply]),(by first|rfl|simp[upd_apply]),trivial⟩ ?_
 rintro f ⟨f4,f6,f7,f12,f13,f16,f17,f18,f19,f22,f23,f24,f25,f26,f29,f30,f31,f32,f162,-⟩
 refine WO_join2 (fun f h'=>(f 4=I64 l∧f 6=I64 B.1∧f 7=I64 B.2∧f 12=I64 F.1∧f 13=I64 F.2∧f 16=.pointer (some ⟨H9.length,0,none⟩)∧f 17=I64 s∧f 18=I64 G.1∧f 19=I64 G.2∧f 22=.pointer (some ⟨H13.length,0,none⟩)∧f 23=I64 a∧f 24=I64 d∧f 25=.bool E.1∧f 26=I64 E.2)∧H22<+:h') ?_ ?_
 ·skip
  by_cases z5:C.2=0
  case neg=>
   ((try simp (maxSteps:=3000000) (dsimp:=false) (disch:=first|omega|simp only[lnx];omega) only[↓ypre,ypost,↓reduceIte,reduceEqDiff,reduceAdd,reduceSub,reduceLeDiff,zz0,ynew,f4,f6,f7,f12,f13,f16,f17,f18,f19,f22,f23,f24,f25,f26,f29,f30,f31,f32,f162,decide_eq_false (show ¬ (C.2)≠(C.2) from fun h=>h rfl),decide_eq_false (show ¬ (C.1)≠(C.1) from fun h=>h rfl),decide_eq_false z5]);try simp only[yback])
   rw[JnQ_n]
   exact⟨⟨(by first|rfl|exact f4|(simp[upd_apply,f4];done)),(by first|rfl|exact f6|(simp[upd_apply,f6];done)),(by first|rfl|exact f7|(simp[upd_apply,f7];done)),(by first|rfl|exact f12|(simp[upd_apply,f12];done)),(by first|rfl|exact f13|(simp[upd_apply,f13];done)),(by first|rfl|exact f16|(simp[upd_apply,f16];done)),(by first|rfl|exact f17|(simp[upd_apply,f17];done)),(by first|rfl|exact f18|(simp[upd_apply,f18];done)),(by first|rfl|exact f19|(simp[upd_apply,f19];done)),(by first|rfl|exact f22|(simp[upd_apply,f22];done)),(by first|rfl|exact f23|(simp[upd_apply,f23];done)),(by first|rfl|exact f24|(simp[upd_apply,f24];done)),(by first|rfl|exact f25|(simp[upd_apply,f25];done)),(by first|rfl|exact f26|(simp[upd_apply,f26];done))⟩,List.prefix_refl _⟩
  have g19:=pre_get p22 g19
  have g18:=pre_get p22 g18
  have bk:=ceR_back (show (ceR u t).2=0 by rw[hC];exact z5)
  rw[hC] at bk
  have bd:=ceR_in (x:=u) (y:=t)
  rw[hC] at bd
  have wn:IntKind.i64.wrap (0-C.1) = -C.1:=by rw[wrap64_in (by omega) (by omega)];omega
  ((try simp (maxSteps:=3000000) (dsimp:=false) (disch:=first|omega|simp only[lnx];omega) only[↓ypre,ypost,↓reduceIte,reduceEqDiff,reduceAdd,reduceSub,reduceLeDiff,zz0,ynew,f4,f6,f7,f12,f13,f16,f17,f18,f19,f22,f23,f24,f25,f26,f29,f30,f31,f32,f162,decide_eq_false (show ¬ (C.2)≠(C.2) from fun h=>h rfl),decide_eq_false (show ¬ (C.1)≠(C.1) from fun h=>h rfl),decide_eq_true z5,rdn_of g19,rdn_of g18]);try simp only[yback])
  refine i_CompareExponents (x:=t) (y:=u) (hv6.pre (p20.trans (p21.trans p22))) xt.l (hv5.pre (p20.trans (p21.trans p22))) xu.l fun H23 p23=>?_
  rw[bk]
  refine WO_cut (fun f:Fr=>f 4=I64 l∧f 6=I64 B.1∧f 7=I64 B.2∧f 12=I64 F.1∧f 13=I64 F.2∧f 16=.pointer (some ⟨H9.length,0,none⟩)∧f 17=I64 s∧f 18=I64 G.1∧f 19=I64 G.2∧f 22=.pointer (some ⟨H13.length,0,none⟩)∧f 23=I64 a∧f 24=I64 d∧f 25=.bool E.1∧f 26=I64 E.2∧f 31=I64 C.1∧f 178=.tuple #[I64 (-C.1),I64 0]∧True) ⟨(by first|rfl|exact f4|simp[upd_apply,f4]),(by first|rfl|exact f6|simp[upd_apply,f6]),(by first|rfl|exact f7|simp[upd_apply,f7]),(by first|rfl|exact f12|simp[upd_apply,f12]),(by first|rfl|exact f13|simp[upd_apply,f13]),(by first|rfl|exact f16|simp[upd_apply,f16]),(by first|rfl|exact f17|simp[upd_apply,f17]),(by first|rfl|exact f18|simp[upd_apply,f18]),(by first|rfl|exact f19|simp[upd_apply,f19]),(by first|rfl|exact f22|simp[upd_apply,f22]),(by first|rfl|exact f23|simp[upd_apply,f23]),(by first|rfl|exact f24|simp[upd_apply,f24]),(by first|rfl|exact f25|simp[upd_apply,f25]),(by first|rfl|exact f26|simp[upd_apply,f26]),(by first|rfl|exact f31|simp[upd_apply,f31]),(by first|rfl|simp[upd_apply]),trivial⟩ ?_
  rintro f ⟨f4,f6,f7,f12,f13,f16,f17,f18,f19,f22,f23,f24,f25,f26,f31,f178,-⟩
  ((try simp (maxSteps:=3000000) (dsimp:=false) (disch:=first|omega|simp only[lnx];omega) only[↓ypre,ypost,↓reduceIte,reduceEqDiff,reduceAdd,reduceSub,reduceLeDiff,zz0,ynew,f4,f6,f7,f12,f13,f16,f17,f18,f19,f22,f23,f24,f25,f26,f31,f178,decide_eq_false (show ¬ (0:Int)≠(0:Int) from fun h=>h rfl),wn,decide_eq_false (show ¬ ((-C.1))≠((-C.1)) from fun h=>h rfl)]);try simp only[yback])
  rw[JnQ_n]
  exact⟨⟨(by first|rfl|exact f4|(simp[upd_apply,f4];done)),(by first|rfl|exact f6|(simp[upd_apply,f6];done)),(by first|rfl|exact f7|(simp[upd_apply,f7];done)),(by first|rfl|exact f12|(simp[upd_apply,f12];done)),(by first|rfl|exact f13|(simp[upd_apply,f13];done)),(by first|rfl|exact f16|(simp[upd_apply,f16];done)),(by first|rfl|exact f17|(simp[upd_apply,f17];done)),(by first|rfl|exact f18|(simp[upd_apply,f18];done)),(by first|rfl|exact f19|(simp[upd_apply,f19];done)),(by first|rfl|exact f22|(simp[upd_apply,f22];done)),(by first|rfl|exact f23|(simp[upd_apply,f23];done)),(by first|rfl|exact f24|(simp[upd_apply,f24];done)),(by first|rfl|exact f25|(simp[upd_apply,f25];done)),(by first|rfl|exact f26|(simp[upd_apply,f26];done))⟩,p23⟩
 rintro f HX24 ⟨⟨f4,f6,f7,f12,f13,f16,f17,f18,f19,f22,f23,f24,f25,f26⟩,pX24⟩
 refine WC_joinB (fun f h'=>(f 4=I64 l∧f 6=I64 B.1∧f 7=I64 B.2∧f 12=I64 F.1∧f 13=I64 F.2∧f 16=.pointer (some ⟨H9.length,0,none⟩)∧f 17=I64 s∧f 18=I64 G.1∧f 19=I64 G.2)∧HX24<+:h') ?_ ?_
 ·skip
  by_cases z4:E.2=0
  case neg=>
   ((try simp (maxSteps:=3000000) (dsimp:=false) (disch:=first|omega|simp only[lnx];omega) only[↓ypre,ypost,↓reduceIte,reduceEqDiff,reduceAdd,reduceSub,reduceLeDiff,zz0,ynew,f4,f6,f7,f12,f13,f16,f17,f18,f19,f22,f23,f24,f25,f26,decide_eq_false z4]);try simp only[yback])
   rw[JnQ_n]
   exact⟨⟨(by first|rfl|exact f4|(simp[upd_apply,f4];done)),(by first|rfl|exact f6|(simp[upd_apply,f6];done)),(by first|rfl|exact f7|(simp[upd_apply,f7];done)),(by first|rfl|exact f12|(simp[upd_apply,f12];done)),(by first|rfl|exact f13|(simp[upd_apply,f13];done)),(by first|rfl|exact f16|(simp[upd_apply,f16];done)),(by first|rfl|exact f17|(simp[upd_apply,f17];done)),(by first|rfl|exact f18|(simp[upd_apply,f18];done)),(by first|rfl|exact f19|(simp[upd_apply,f19];done))⟩,List.prefix_refl _⟩
  cases hf:E.1 with
  | false=>
   ((try simp (maxSteps:=3000000) (dsimp:=false) (disch:=first|omega|simp only[lnx];omega) only[↓ypre,ypost,↓reduceIte,reduceEqDiff,reduceAdd,reduceSub,reduceLeDiff,zz0,ynew,f4,f6,f7,f12,f13,f16,f17,f18,f19,f22,f23,f24,f25,f26,decide_eq_true z4,hf]);try simp only[yback])
   rw[JnQ_n]
   exact⟨⟨(by first|rfl|exact f4|(simp[upd_apply,f4];done)),(by first|rfl|exact f6|(simp[upd_apply,f6];done)),(by first|rfl|exact f7|(simp[upd_apply,f7];done)),(by first|rfl|exact f12|(simp[upd_apply,f12];done)),(by first|rfl|exact f13|(simp[upd_apply,f13];done)),(by first|rfl|exact f16|(simp[upd_apply,f16];done)),(by first|rfl|exact f17|(simp[upd_apply,f17];done)),(by first|rfl|exact f18|(simp[upd_apply,f18];done)),(by first|rfl|exact f19|(simp[upd_apply,f19];done))⟩,List.prefix_refl _⟩
  | true=>
   by_cases h24:a<24
   case neg=>
    ((try simp (maxSteps:=3000000) (dsimp:=false) (disch:=first|omega|simp only[lnx];omega) only[↓ypre,ypost,↓reduceIte,reduceEqDiff,reduceAdd,reduceSub,reduceLeDiff,zz0,ynew,f4,f6,f7,f12,f13,f16,f17,f18,f19,f22,f23,f24,f25,f26,decide_eq_true z4,hf,decide_eq_false h24]);try simp only[yback])
    rw[JnQ_n]
    exact⟨⟨(by first|rfl|exact f4|(simp[upd_apply,f4];done)),(by first|rfl|exact f6|(simp[upd_apply,f6];done)),(by first|rfl|exact f7|(simp[upd_apply,f7];done)),(by first|rfl|exact f12|(simp[upd_apply,f12];done)),(by first|rfl|exact f13|(simp[upd_apply,f13];done)),(by first|rfl|exact f16|(simp[upd_apply,f16];done)),(by first|rfl|exact f17|(simp[upd_apply,f17];done)),(by first|rfl|exact f18|(simp[upd_apply,f18];done)),(by first|rfl|exact f19|(simp[upd_apply,f19];done))⟩,List.prefix_refl _⟩
   have g14:=pre_get ((p16.trans (p17.trans p20)).trans (p21.trans (p22.trans pX24))) g14
   have mr:=exR_more (show (exR w a d).2=0 by rw[hE];exact z4) (by rw[hE];exact hf) h24
   have ab:=exR_a (show (exR w a d).2=0 by rw[hE];exact z4)
   have wa:IntKind.i64.wrap (a+1)=a+1:=wrap64_in (by omega) (by omega)
   ((try simp (maxSteps:=3000000) (dsimp:=false) (disch:=first|omega|simp only[lnx];omega) only[↓ypre,ypost,↓reduceIte,reduceEqDiff,reduceAdd,reduceSub,reduceLeDiff,zz0,ynew,f4,f6,f7,f12,f13,f16,f17,f18,f19,f22,f23,f24,f25,f26,decide_eq_true z4,hf,decide_eq_true h24,rdn_of g14,wa]);try simp only[yback])
   refine i_IsExponentAtMost (x:=w) (a:=a+1) (b:=d) (hv4.pre (((p14.trans p15).trans (p16.trans p17)).trans ((p20.trans p21).trans (p22.trans pX24)))) xw.l fun H25 p25=>?_
   rw[mr]
   refine WO_cut (fun f:Fr=>f 4=I64 l∧f 6=I64 B.1∧f 7=I64 B.2∧f 12=I64 F.1∧f 13=I64 F.2∧f 16=.pointer (some ⟨H9.length,0,none⟩)∧f 17=I64 s∧f 18=I64 G.1∧f 19=I64 G.2∧f 203=.tuple #[.bool true,I64 0]∧True) ⟨(by first|rfl|exact f4|simp[upd_apply,f4]),(by first|rfl|exact f6|simp[upd_apply,f6]),(by first|rfl|exact f7|simp[upd_apply,f7]),(by first|rfl|exact f12|simp[upd_apply,f12]),(by first|rfl|exact f13|simp[upd_apply,f13]),(by first|rfl|exact f16|simp[upd_apply,f16]),(by first|rfl|exact f17|simp[upd_apply,f17]),(by first|rfl|exact f18|simp[upd_apply,f18]),(by first|rfl|exact f19|simp[upd_apply,f19]),(by first|rfl|simp[upd_apply]),trivial⟩ ?_
   rintro f ⟨f4,f6,f7,f12,f13,f16,f17,f18,f19,f203,-⟩
   ((try simp (maxSteps:=3000000) (dsimp:=false) (disch:=first|omega|simp only[lnx];omega) only[↓ypre,ypost,↓reduceIte,reduceEqDiff,reduceAdd,reduceSub,reduceLeDiff,zz0,ynew,f4,f6,f7,f12,f13,f16,f17,f18,f19,f203,decide_eq_false (show ¬ (0:Int)≠(0:Int) from fun h=>h rfl)]);try simp only[yback])
   rw[JnQ_n]
   exact⟨⟨(by first|rfl|exact f4|(simp[upd_apply,f4];done)),(by first|rfl|exact f6|(simp[upd_apply,f6];done)),(by first|rfl|exact f7|(simp[upd_apply,f7];done)),(by first|rfl|exact f12|(simp[upd_apply,f12];done)),(by first|rfl|exact f13|(simp[upd_apply,f13];done)),(by first|rfl|exact f16|(simp[upd_apply,f16];done)),(by first|rfl|exact f17|(simp[upd_apply,f17];done)),(by first|rfl|exact f18|(simp[upd_apply,f18];done)),(by first|rfl|exact f19|(simp[upd_apply,f19];done))⟩,p25⟩
 rintro f HX26 ⟨⟨f4,f6,f7,f12,f13,f16,f17,f18,f19⟩,pX26⟩
 refine WC_joinB (fun f h'=>(f 4=I64 l∧f 6=I64 B.1∧f 7=I64 B.2∧f 12=I64 F.1∧f 13=I64 F.2)∧HX26<+:h') ?_ ?_
 ·skip
  by_cases z3:G.2=0
  case neg=>
   ((try simp (maxSteps:=3000000) (dsimp:=false) (disch:=first|omega|simp only[lnx];omega) only[↓ypre,ypost,↓reduceIte,reduceEqDiff,reduceAdd,reduceSub,reduceLeDiff,zz0,ynew,f4,f6,f7,f12,f13,f16,f17,f18,f19,decide_eq_false z3]);try simp only[yback])
   rw[JnQ_n]
   exact⟨⟨(by first|rfl|exact f4|(simp[upd_apply,f4];done)),(by first|rfl|exact f6|(simp[upd_apply,f6];done)),(by first|rfl|exact f7|(simp[upd_apply,f7];done)),(by first|rfl|exact f12|(simp[upd_apply,f12];done)),(by first|rfl|exact f13|(simp[upd_apply,f13];done))⟩,List.prefix_refl _⟩
  obtain⟨-,zn,zs,K,e1,e2,e3⟩:=gsR_of (show (gsR z s).2=0 by rw[hG];exact z3)
  rw[hG] at e1
  have pK:(z.n:Int)^K≤3000000:=by
   have:s*z.n≤1000000*3:=Int.mul_le_mul zs.2 zn.2 (by omega) (by omega)
   omega
  have sn:0≤s*z.n∧s*z.n≤3000000:=by
   have h1:s*z.n≤1000000*3:=Int.mul_le_mul zs.2 zn.2 (by omega) (by omega)
   have h2:0≤s*z.n:=Int.mul_nonneg (by omega) (by omega)
   omega
  ((try simp (maxSteps:=3000000) (dsimp:=false) (disch:=first|omega|simp only[lnx];omega) only[↓ypre,ypost,↓reduceIte,reduceEqDiff,reduceAdd,reduceSub,reduceLeDiff,zz0,ynew,f4,f6,f7,f12,f13,f16,f17,f18,f19,decide_eq_true z3,e1]);try simp only[yback])
  have g10:=pre_get (((p12.trans p13).trans (p14.trans (p15.trans p16))).trans ((p17.trans (p20.trans p21)).trans (p22.trans (pX24.trans pX26)))) g10
  refine WC_loop_inv (fun m f K1=>∃ (i:Nat),m=K-i∧i≤K∧K1=HX26∧f 4=I64 l∧f 6=I64 B.1∧f 7=I64 B.2∧f 12=I64 F.1∧f 13=I64 F.2∧f 16=.pointer (some ⟨H9.length,0,none⟩)∧f 17=I64 s∧f 18=I64 G.1∧f 39=I64 (z.n^(K-i))) ?_ (K-0) _ _ ⟨0,rfl,by omega,rfl,(by first|rfl|exact f4|(simp[upd_apply];done)),(by first|rfl|exact f6|(simp[upd_apply];done)),(by first|rfl|exact f7|(simp[upd_apply];done)),(by first|rfl|exact f12|(simp[upd_apply];done)),(by first|rfl|exact f13|(simp[upd_apply];done)),(by first|rfl|exact f16|(simp[upd_apply];done)),(by first|rfl|exact f17|(simp[upd_apply];done)),(by first|rfl|exact f18|(simp[upd_apply];done)),(by first|rfl|simp[upd_apply])⟩
  rintro m f K1 ⟨i,rfl,hi,rfl,f4,f6,f7,f12,f13,f16,f17,f18,f39⟩
  have nz:z.n≠0:=by omega
  by_cases hi0:K-i=0
  case neg=>
   obtain⟨m1,m2,m3⟩:=pow_mod zn.1 (K-i) (by omega)
   have m4:IntKind.i64.wrap (z.n^(K-i-1))=z.n^(K-(i+1)):=by
    have:=pow_up (N:=z.n) (by omega) (show K-i-1≤K by omega)
    have:0<z.n^(K-i-1):=Int.pow_pos (by omega)
    rw[wrap64_in (by omega) (by omega)]
    congr 1
   ((try simp (maxSteps:=3000000) (dsimp:=false) (disch:=first|omega|simp only[lnx];omega) only[↓ypre,ypost,↓reduceIte,reduceEqDiff,reduceAdd,reduceSub,reduceLeDiff,zz0,ynew,f4,f6,f7,f12,f13,f16,f17,f18,f39,rd1_of g10,bin_rem nz,bin_quo nz,m1,decide_eq_true m2,m3,m4,decide_eq_true (show (0:Int)=0 from rfl)]);try simp only[yback])
   refine InvQ_go (K-(i+1)) (by omega) ⟨(i+1),rfl,by omega,rfl,(by first|rfl|exact f4|(simp only[upd_apply];rfl)|(show I64 _=_;congr 1;omega)),(by first|rfl|exact f6|(simp only[upd_apply];rfl)|(show I64 _=_;congr 1;omega)),(by first|rfl|exact f7|(simp only[upd_apply];rfl)|(show I64 _=_;congr 1;omega)),(by first|rfl|exact f12|(simp only[upd_apply];rfl)|(show I64 _=_;congr 1;omega)),(by first|rfl|exact f13|(simp only[upd_apply];rfl)|(show I64 _=_;congr 1;omega)),(by first|rfl|exact f16|(simp only[upd_apply];rfl)|(show I64 _=_;congr 1;omega)),(by first|rfl|exact f17|(simp only[upd_apply];rfl)|(show I64 _=_;congr 1;omega)),(by first|rfl|exact f18|(simp only[upd_apply];rfl)|(show I64 _=_;congr 1;omega)),(by first|rfl|exact f39|(simp only[upd_apply];rfl)|(show I64 _=_;congr 1;omega))⟩
  have h1:z.n^(K-i)=1:=by rw[hi0];exact Int.pow_zero _
  have m1:(1:Int).tmod z.n=1:=Int.tmod_eq_of_lt (by omega) (by omega)
  have wm:IntKind.i64.wrap (s*z.n)=s*z.n:=wrap64_in (by omega) (by omega)
  ((try simp (maxSteps:=3000000) (dsimp:=false) (disch:=first|omega|simp only[lnx];omega) only[↓ypre,ypost,↓reduceIte,reduceEqDiff,reduceAdd,reduceSub,reduceLeDiff,zz0,ynew,f4,f6,f7,f12,f13,f16,f17,f18,f39,rd1_of g10,bin_rem nz,h1,m1,e1,wm,show decide ((1:Int)=0)=false from rfl,decide_eq_false (show ¬ z.n^K<s by omega),show decide ((1:Int)≠1)=false from rfl,decide_eq_false (show ¬ z.n^K>s*z.n by omega)]);try simp only[yback])
  rw[JnQ_n]
  exact⟨⟨(by first|rfl|exact f4|(simp[upd_apply,f4];done)),(by first|rfl|exact f6|(simp[upd_apply,f6];done)),(by first|rfl|exact f7|(simp[upd_apply,f7];done)),(by first|rfl|exact f12|(simp[upd_apply,f12];done)),(by first|rfl|exact f13|(simp[upd_apply,f13];done))⟩,List.prefix_refl _⟩
 rintro f HX27 ⟨⟨f4,f6,f7,f12,f13⟩,pX27⟩
 by_cases z2:F.2=0
 case neg=>
  by_cases z1:B.2=0
  case neg=>
   have b0:=blR_no (show (blR x l b).2≠0 by rw[hB];exact z1)
   rw[hB] at b0
   ((try simp (maxSteps:=3000000) (dsimp:=false) (disch:=first|omega|simp only[lnx];omega) only[↓ypre,ypost,↓reduceIte,reduceEqDiff,reduceAdd,reduceSub,reduceLeDiff,zz0,ynew,f4,f6,f7,f12,f13,decide_eq_false z2,decide_eq_true (show B.2≠0 from z1),decide_eq_true b0]);try simp only[yback])
  have b0:=blR_of (show (blR x l b).2=0 by rw[hB];exact z1)
  rw[hB] at b0
  ((try simp (maxSteps:=3000000) (dsimp:=false) (disch:=first|omega|simp only[lnx];omega) only[↓ypre,ypost,↓reduceIte,reduceEqDiff,reduceAdd,reduceSub,reduceLeDiff,zz0,ynew,f4,f6,f7,f12,f13,decide_eq_false z2,decide_eq_false (show ¬ B.2≠0 from fun h=>h z1),decide_eq_true z1,decide_eq_true (show B.1≥0 from b0.1),decide_eq_true b0.2]);try simp only[yback])
 have fb:=fgR_of (show (fgR y b2).2=0 by rw[hF];exact z2)
 rw[hF] at fb
 by_cases z1:B.2=0
 case neg=>
  have b0:=blR_no (show (blR x l b).2≠0 by rw[hB];exact z1)
  rw[hB] at b0
  ((try simp (maxSteps:=3000000) (dsimp:=false) (disch:=first|omega|simp only[lnx];omega) only[↓ypre,ypost,↓reduceIte,reduceEqDiff,reduceAdd,reduceSub,reduceLeDiff,zz0,ynew,f4,f6,f7,f12,f13,decide_eq_true z2,decide_eq_false (show ¬ F.1<1 by omega),decide_eq_false (show ¬ F.1>8 by omega),decide_eq_true (show B.2≠0 from z1),decide_eq_true b0]);try simp only[yback])
 have b0:=blR_of (show (blR x l b).2=0 by rw[hB];exact z1)
 rw[hB] at b0
 ((try simp (maxSteps:=3000000) (dsimp:=false) (disch:=first|omega|simp only[lnx];omega) only[↓ypre,ypost,↓reduceIte,reduceEqDiff,reduceAdd,reduceSub,reduceLeDiff,zz0,ynew,f4,f6,f7,f12,f13,decide_eq_true z2,decide_eq_false (show ¬ F.1<1 by omega),decide_eq_false (show ¬ F.1>8 by omega),decide_eq_false (show ¬ B.2≠0 from fun h=>h z1),decide_eq_true z1,decide_eq_true (show B.1≥0 from b0.1),decide_eq_true b0.2]);try simp only[yback])
end Go.Proofs.Ytapafdpnmakekaa.X

set_option linter.unusedVariables false
set_option linter.unusedSimpArgs false
namespace Go.Proofs.Ytapafdpnmakekaa.X
open Go Go.RowKit Go.ChangeShapes Go.WideShapes Go.Deep
structure Adm (P:Program) (W:World) (γ:List G) (h:AH):Prop where
 rel:Rel P W.heap.size γ h W
 ro:∀ n b,h.get n=some b→b.ro=true
theorem Adm.nil (P:Program) (W:World):Adm P W [] [] where
 rel:={
  len:=rfl
  cell:=fun n b g h=>by simp[AH.get] at h
  rw:=fun n b g h=>by simp[AH.get] at h
  ro:=fun n b g h=>by simp[AH.get] at h
  inj:=fun n m bn bm g g' h=>by simp[AH.get] at h
  base:=Nat.le_refl _ }
 ro:=fun n b h=>by simp[AH.get] at h
theorem Adm.new {P:Program} {W:World} {γ:List G} {h:AH} (A:Adm P W γ h) {g:G} {cs:List Value} {e:TypeId} (hb:g.b<W.heap.size)
  (hc:∀ j v,cs[j]?=some v→isOne v=true∧∃ v',W.cell? ⟨g.b,g.o+j,none⟩=some v'∧VR γ v v'):Adm P W (γ++[g]) (h.new ⟨cs,e,true,false⟩):=by
 have hl:=A.rel.len
 have hp:γ<+:γ++[g]:=List.prefix_append _ _
 have old:∀ {n:Nat} {g':G},n<h.length→(γ++[g])[n]?=some g'→γ[n]?=some g':=fun hn hg=>by
  rw[List.getElem?_append_left (by omega)] at hg
  exact hg
 have new:∀ {g':G},(γ++[g])[h.length]?=some g'→g'=g:=fun hg=>by
  rw[←hl] at hg
  simpa using hg.symm
 refine⟨⟨by simp[len_new,hl],?_,?_,?_,?_,Nat.le_refl _⟩,?_⟩
 ·intro n b g' hb' hg' j v hv
  rcases get_new_cases hb' with hb'|⟨rfl,rfl⟩
  ·obtain⟨q1,v',q2,q3⟩:=A.rel.cell n b g' hb' (old (get_lt hb') hg') j v hv
   exact⟨q1,v',q2,q3.mono hp⟩
  ·obtain rfl:=new hg'
   obtain⟨q1,v',q2,q3⟩:=hc j v hv
   exact⟨q1,v',q2,q3.mono hp⟩
 ·intro n b g' hb' hg' hro
  rcases get_new_cases hb' with hb'|⟨rfl,rfl⟩
  ·rw[A.ro n b hb'] at hro
   cases hro
  ·cases hro
 ·intro n b g' hb' hg' hro
  rcases get_new_cases hb' with hb'|⟨rfl,rfl⟩
  ·exact A.rel.ro n b g' hb' (old (get_lt hb') hg') hro
  ·obtain rfl:=new hg'
   exact hb
 ·intro n m bn bm g1 g2 h1 h2 h3 h4 hro
  rcases get_new_cases h1 with hb'|⟨rfl,rfl⟩
  ·rw[A.ro n bn hb'] at hro
   cases hro
  ·cases hro
 ·intro n b hb'
  rcases get_new_cases hb' with hb'|⟨rfl,rfl⟩
  ·exact A.ro n b hb'
  ·rfl
section
variable {H:Type} {enc:TypeId×Value→H} {P:Program} {W:World}
theorem add_off (a:Addr) (ha:a.spot=none) (i:Nat):a.add i=⟨a.block,a.off+i,none⟩:=by
 unfold Addr.add
 split
 ·rename_i h0
  subst h0
  obtain⟨b,o,s⟩:=a
  simp at ha
  subst ha
  rfl
 ·rfl
theorem adm_ints {γ:List G} {h:AH} (A:Adm P W γ h) {t e:TypeId} {n:Nat} {cs:List Value} {x:DataW H×List MemPlace} (ht:P.underlying t=some (.slice e)) (he:P.underlying e=some (.int .i64))
  (hc:P.cellsOf e=1) (hx:DataW.trod enc P W 0 (fun _=>true) true n t cs=some x) :
  ∃ v' v ns γ' h',cs=[v']∧γ<+:γ'∧h<+:h'∧Adm P W γ' h'∧VR γ' v v'∧Ints h' v ns∧ns.length≤maxLen:=by
 rcases open_slice1 ht hc hx with⟨rfl,_⟩|⟨a,len,cap,m,n',V,D,Pl,rfl,hb,hl,hm,hmm,_,hcell⟩
 ·exact⟨_,.slice none 0 0,[],γ,h,rfl,List.prefix_refl _,List.prefix_refl _,A,.nils,.inl ⟨rfl,0,by omega,rfl⟩,Nat.zero_le _⟩
 ·by_cases h0:len=0
  ·subst h0
   exact⟨_,.slice none 0 1,[],γ,h,rfl,List.prefix_refl _,List.prefix_refl _,A,.emp _ _,.inl ⟨rfl,1,by omega,rfl⟩,Nat.zero_le _⟩
  ·have hcell:∀ i,i<cap→W.cell? (a.add i)=some (V i)∧DataW.trod enc P W 0 (fun _=>true) true n' e [V i]=some (D i,Pl i):=fun i hi=>hcell i (by rw[show m=cap from hmm];exact hi)
   have hz:=(hcell 0 (by omega)).1
   have hsp:a.spot=none:=by
    simp only[Addr.add,if_true] at hz
    unfold World.cell? at hz
    split at hz
    ·split at hz
     ·cases hz
     ·rename_i hs
      simpa using hs
    ·cases hz
   have hbl:a.block<W.heap.size:=by
    have:=World.block_lt_of_cell? W _ hz
    simpa [Addr.add] using this
   have hV:∀ i,i<len→∃ k,V i=.int .i64 k:=fun i hi=>by
    obtain⟨k,hk,_⟩:=DataW.trod_int he (hcell i (by omega)).2
    exact⟨k,by simpa using hk⟩
   let ns:List Int:=(List.range len).map fun i=>match V i with
    | .int _ k=>k
    | _=>0
   have hns:ns.length=len:=by simp[ns]
   have hget:∀ i,i<len→ns.getD i 0=(match V i with
    | .int _ k=>k
    | _=>0):=fun i hi=>by simp[ns,List.getD_eq_getElem?_getD,List.getElem?_map,List.getElem?_range hi]
   refine⟨_,.slice (some ⟨h.length,0,none⟩) ns.length 1,ns,γ++[⟨a.block,a.off,cap⟩],h.new ⟨ns.map (Value.int .i64),e,true,false⟩,rfl,List.prefix_append _ _,pre_new (List.prefix_refl _),?_,?_,
    Ints.own get_new_same rfl,by rw[hns];omega⟩
   ·refine A.new hbl fun j v hv=>?_
    rw[List.getElem?_map] at hv
    obtain⟨k,hk,rfl⟩:=Option.map_eq_some_iff.1 hv
    have hj:j<len:=by rw[←hns];exact (List.getElem?_eq_some_iff.1 hk).1
    obtain⟨k',hk'⟩:=hV j hj
    have hg:=hget j hj
    rw[List.getD_eq_getElem?_getD,hk,hk'] at hg
    simp only[Option.getD_some] at hg
    subst hg
    refine⟨rfl,_,?_,.int _ _⟩
    have:=(hcell j (by omega)).1
    rw[add_off a hsp,hk'] at this
    exact this
   ·have:=VR.slc (γ:=γ++[⟨a.block,a.off,cap⟩]) h.length 0 ns.length 1 ⟨a.block,a.off,cap⟩ (by rw[←A.rel.len];simp) (by omega) (by simp only;omega)
    have e1:(some a:Option Addr)=some ⟨a.block,a.off+0,none⟩:=by
     obtain⟨b,o,s⟩:=a
     simp at hsp
     subst hsp
     rfl
    rw[e1]
    have e2:(cap-0) / 1=cap:=by simp
    rw[←hns,show (Value.slice (some ⟨a.block,a.off+0,none⟩) ns.length cap)=Value.slice (some ⟨a.block,a.off+0,none⟩) ns.length ((cap-0) / 1) by rw[e2]]
    exact this
theorem trod_field {t:TypeId} {fs:Array Field} {n:Nat} {cs:List Value} {x:DataW H×List MemPlace} (hs:P.underlying t=some (.struct fs)) (hx:DataW.trod enc P W 0 (fun _=>true) true n t cs=some x)
  {i:Nat} {f:Field} (hf:fs[i]?=some f):∃ m y,DataW.trod enc P W 0 (fun _=>true) true m f.type ((cs.drop f.offset).take (P.cellsOf f.type))=some y:=by
 obtain⟨xs,m,_,_,_,hl,hall⟩:=DataW.trod_struct hs hx
 have hi:i<xs.length:=by
  rw[hl]
  exact (Array.getElem?_eq_some_iff.1 hf).1
 exact⟨m,xs[i],by rw[hall i f hf,List.getElem?_eq_getElem hi]⟩
theorem trod_cells {t:TypeId} {fs:Array Field} {n:Nat} {cs:List Value} {x:DataW H×List MemPlace} (hs:P.underlying t=some (.struct fs)) (hx:DataW.trod enc P W 0 (fun _=>true) true n t cs=some x):cs.length=P.cellsOf t:=by
 obtain⟨xs,m,_,_,hl,_,_⟩:=DataW.trod_struct hs hx
 exact hl
theorem trod_field_int {t:TypeId} {fs:Array Field} {n:Nat} {cs:List Value} {x:DataW H×List MemPlace} (hs:P.underlying t=some (.struct fs)) (hx:DataW.trod enc P W 0 (fun _=>true) true n t cs=some x)
  {i:Nat} {f:Field} (hf:fs[i]?=some f) (ht:P.underlying f.type=some (.int .i64)):∃ k,(cs.drop f.offset).take (P.cellsOf f.type)=[I64 k]∧(Lit.int .i64 k).wf=true:=by
 obtain⟨m,y,hy⟩:=trod_field hs hx hf
 obtain⟨k,h1,_,h2⟩:=DataW.trod_int ht hy
 exact⟨k,h1,h2⟩
theorem agg_of_cells {v:Value} {l:List Value} (h:v.cells.toList=l) (h2:2≤l.length):v=.agg l.toArray:=by
 cases v with
 | agg cs=>
  simp only[Value.cells] at h
  rw[←h]
 | _=>
  simp only[Value.cells] at h
  rw[←h] at h2
  simp at h2
theorem adm_ints4 {γ:List G} {h:AH} (A:Adm P W γ h) {t e:TypeId} {f0 f1 f2 f3 f4:Field} {v:Value} {d:DataW H} {ps:List MemPlace} (hs:P.underlying t=some (.struct #[f0,f1,f2,f3,f4]))
  (hct:P.cellsOf t=5) (ho:f0.offset=0∧f1.offset=1∧f2.offset=2∧f3.offset=3∧f4.offset=4)
  (hi:P.underlying f0.type=some (.int .i64)∧P.underlying f1.type=some (.int .i64)∧P.underlying f2.type=some (.int .i64)∧P.underlying f3.type=some (.int .i64))
  (hc:P.cellsOf f0.type=1∧P.cellsOf f1.type=1∧P.cellsOf f2.type=1∧P.cellsOf f3.type=1∧P.cellsOf f4.type=1)
  (ht:P.underlying f4.type=some (.slice e)) (he:P.underlying e=some (.int .i64)) (hce:P.cellsOf e=1) (hx:DataW.Trod enc P W 0 (fun _=>true) true t v d ps) :
  ∃ a b c d ns v' γ' h',γ<+:γ'∧h<+:h'∧Adm P W γ' h'∧VR γ' (.agg #[I64 a,I64 b,I64 c,I64 d,v']) v∧Ints h' v' ns∧ns.length≤maxLen:=by
 obtain⟨n,hx⟩:=hx
 have hl:=trod_cells hs hx
 rw[hct] at hl
 obtain⟨a,ha,_⟩:=trod_field_int hs hx (i:=0) (f:=f0) rfl hi.1
 obtain⟨b,hb,_⟩:=trod_field_int hs hx (i:=1) (f:=f1) rfl hi.2.1
 obtain⟨c,hcc,_⟩:=trod_field_int hs hx (i:=2) (f:=f2) rfl hi.2.2.1
 obtain⟨d,hd,_⟩:=trod_field_int hs hx (i:=3) (f:=f3) rfl hi.2.2.2
 obtain⟨m,y,hy⟩:=trod_field hs hx (i:=4) (f:=f4) rfl
 obtain⟨v',u,ns,γ',h',e1,q1,q2,q3,q4,q5,q6⟩:=adm_ints A ht he hce hy
 generalize hcs:v.cells.toList=cs at *
 rw[ho.1,hc.1] at ha
 rw[ho.2.1,hc.2.1] at hb
 rw[ho.2.2.1,hc.2.2.1] at hcc
 rw[ho.2.2.2.1,hc.2.2.2.1] at hd
 rw[ho.2.2.2.2,hc.2.2.2.2] at e1
 obtain⟨c0,c1,c2,c3,c4,rfl⟩:∃ c0 c1 c2 c3 c4,cs=[c0,c1,c2,c3,c4]:=by
  match cs,hl with
  | [c0,c1,c2,c3,c4],_=>exact⟨_,_,_,_,_,rfl⟩
 simp at ha hb hcc hd e1
 subst ha hb hcc hd e1
 refine⟨a,b,c,d,ns,u,γ',h',q1,q2,q3,?_,q5,q6⟩
 rw[agg_of_cells hcs (by simp)]
 exact VR.aggL (VRL.cons (.int _ _) (VRL.cons (.int _ _) (VRL.cons (.int _ _) (VRL.cons (.int _ _) (VRL.cons q4 (VRL.nil _))))))
def tyInt (P:Program) (t:TypeId):Bool:=match P.underlying t with
 | some (.int .i64)=>true
 | _=>false
def tySlice (P:Program) (t e:TypeId):Bool:=match P.underlying t with
 | some (.slice e')=>e'==e
 | _=>false
theorem tyInt_eq {t:TypeId} (h:tyInt P t=true):P.underlying t=some (.int .i64):=by
 unfold tyInt at h
 split at h
 ·assumption
 ·cases h
theorem tySlice_eq {t e:TypeId} (h:tySlice P t e=true):P.underlying t=some (.slice e):=by
 unfold tySlice at h
 split at h
 ·rename_i e' he
  have:e'=e:=by simpa using h
  rw[he,this]
 ·cases h
def isInts4 (P:Program) (t e:TypeId):Bool:=match P.underlying t with
 | some (.struct fs)=>match fs.toList with
  | [f0,f1,f2,f3,f4]=>P.cellsOf t==5&&f0.offset==0&&f1.offset==1&&f2.offset==2&&f3.offset==3&&f4.offset==4 &&
    [f0,f1,f2,f3].all (fun f=>tyInt P f.type&&P.cellsOf f.type==1)&&P.cellsOf f4.type==1&&tySlice P f4.type e &&
    tyInt P e&&P.cellsOf e==1
  | _=>false
 | _=>false
theorem adm_tensor {γ:List G} {h:AH} (A:Adm P W γ h) {t:TypeId} (e:TypeId) (hk:isInts4 P t e=true) {v:Value} {d:DataW H} {ps:List MemPlace} (hx:DataW.Trod enc P W 0 (fun _=>true) true t v d ps) :
  ∃ a b c d ns v' γ' h',γ<+:γ'∧h<+:h'∧Adm P W γ' h'∧VR γ' (.agg #[I64 a,I64 b,I64 c,I64 d,v']) v∧Ints h' v' ns∧ns.length≤maxLen:=by
 unfold isInts4 at hk
 split at hk
 ·rename_i fs hs
  split at hk
  ·rename_i f0 f1 f2 f3 f4 hf
   have hfs:fs=#[f0,f1,f2,f3,f4]:=by
    rw[←hf]
   subst hfs
   simp only[List.all_cons,List.all_nil,Bool.and_true,Bool.and_eq_true,beq_iff_eq] at hk
   obtain⟨⟨⟨⟨⟨⟨⟨⟨⟨⟨k0,k1⟩,k2⟩,k3⟩,k4⟩,k5⟩,⟨i0,c0⟩,⟨i1,c1⟩,⟨i2,c2⟩,⟨i3,c3⟩⟩,c4⟩,s4⟩,ie⟩,ce⟩:=hk
   exact adm_ints4 A hs k0 ⟨k1,k2,k3,k4,k5⟩ ⟨tyInt_eq i0,tyInt_eq i1,tyInt_eq i2,tyInt_eq i3⟩ ⟨c0,c1,c2,c3,c4⟩ (tySlice_eq s4) (tyInt_eq ie) ce hx
  ·cases hk
 ·cases hk
theorem stays_all (hl:laidOutB P=true) {W W':World} (bel:Below W.heap.size W W'):∀ {ts:List TypeId} {vs:List Value} {ds:List (DataW H)} {ps:List MemPlace},
  (∀ t∈ts,P.readableRec t=true∧t<P.types.size)→DataW.TrodAll enc P W 0 (fun _=>true) true ts vs ds ps→DataW.TrodAll enc P W' 0 (fun b=>decide (b<W.heap.size)) true ts vs ds ps
 | [],[],[],_,_,h=>h
 | _::_,_::_,_::_,_,ht,⟨p,q,h1,h2,e⟩=>by
  have hlt:∀ r∈p,r.block<W.heap.size:=by
   have hall:DataW.TrodAll enc P W 0 (fun _=>true) true [_] [_] [_] p:=trodAll_mk1 h1
   exact hall.lt
  refine⟨p,q,Go.WideElems.Trod_stays hl (ht _ (List.mem_cons.2 (.inl rfl))).1 (ht _ (List.mem_cons.2 (.inl rfl))).2 h1 (fun r hr=>bel.same (hlt r hr)) (fun r hr=>by simpa using hlt r hr),?_,e⟩
  exact stays_all hl bel (fun t ht'=>ht t (List.mem_cons.2 (.inr ht'))) h2
theorem calls_of_WF {S:XS} (hm:P.follows .mixedOrders=true) (hE:ESound P S.E) (hT:TSound P S.T) {g:FuncId} {args args':List Value} {γ:List G} {h:AH} {W:World} {Q:Value→AH→Prop}
  (A:Adm P W γ h) (hv:VRL γ args args') (hw:WF S g args h Q) :
  Calls P g args'.toArray W (fun e W'=>∃ v v' γ' h',e=.returned v'∧VR γ' v v'∧Q v h'∧Below W.heap.size W W'):=by
 obtain⟨k,v,h',h1,h2⟩:=hw
 have:=(xcall_sound hm hE hT k g args h v h' h1).2 W.heap.size γ W args' A.rel hv
 refine this.mono fun e W' ⟨γ',v',q1,q2,q3⟩=>⟨v,v',γ',h',q1,q2,h2,?_⟩
 refine⟨q3.os,q3.tape,q3.output,q3.size,fun b hb=>q3.frame b hb fun ⟨n,blk,g,o1,o2,o3,o4⟩=>?_⟩
 rw[A.ro n blk o1] at o3
 cases o3
end
section
variable {H:Type} {enc:TypeId×Value→H} {P:Program} {W:World}
theorem cells_of_slice {t e:TypeId} {v:Value} {r:Reach} {base:Nat} (ht:P.underlying t=some (.slice e)) (hval:Value.okWide P W r base t v):v.cells.toList=[v]:=by
 cases v with
 | agg cs=>simp[Value.okWide,ht,Cell.okWide,Cell.ok] at hval
 | _=>rfl
end
theorem u8_in {n:Int} (h:(Lit.int .u8 n).wf=true):0≤n∧n≤255:=by
 simp[Lit.wf,IntKind.min,IntKind.max,IntKind.signed,IntKind.bits] at h
 omega
def sideBy (P:Program):List Field→Nat→Nat→Bool
 | [],o,m=>o==m
 | f::fs,o,m=>f.offset==o&&sideBy P fs (o+P.cellsOf f.type) m
def flatK (P:Program) (k:IntKind):Nat→TypeId→Bool
 | 0,_=>false
 | f+1,t=>match P.underlying t with
  | some (.int k')=>decide (k'=k)&&P.cellsOf t==1
  | some (.array n e)=>flatK P k f e&&P.cellsOf t==n*P.cellsOf e
  | some (.struct fs)=>sideBy P fs.toList 0 (P.cellsOf t)&&fs.toList.all fun x=>flatK P k f x.type
  | _=>false
theorem sideBy_at {P:Program}:∀ {fs:List Field} {o m j:Nat},sideBy P fs o m=true→o≤j→j<m→∃ (i:Nat) (f:Field),fs[i]?=some f∧f.offset≤j∧j<f.offset+P.cellsOf f.type
 | [],o,m,j,h,h1,h2=>by
  simp only[sideBy,beq_iff_eq] at h
  omega
 | f::fs,o,m,j,h,h1,h2=>by
  simp only[sideBy,Bool.and_eq_true,beq_iff_eq] at h
  by_cases hj:j<o+P.cellsOf f.type
  ·exact⟨0,f,rfl,by omega,by omega⟩
  ·obtain⟨i,g,q1,q2,q3⟩:=sideBy_at h.2 (by omega) h2
   exact⟨i+1,g,by rw[List.getElem?_cons_succ];exact q1,q2,q3⟩
section
variable {H:Type} {enc:TypeId×Value→H} {P:Program} {W:World} {k:IntKind}
theorem flat_trod:∀ (f:Nat) (t:TypeId) (n:Nat) (cs:List Value) (x:DataW H×List MemPlace),flatK P k f t=true→DataW.trod enc P W 0 (fun _=>true) true n t cs=some x →
  cs.length=P.cellsOf t∧∀ (j:Nat) (v:Value),cs[j]?=some v→∃ m,v=.int k m∧(Lit.int k m).wf=true
 | 0,_,_,_,_,h,_=>by cases h
 | f+1,t,n,cs,x,h,hx=>by
  unfold flatK at h
  split at h
  ·rename_i k' ht
   simp only[Bool.and_eq_true,decide_eq_true_eq,beq_iff_eq] at h
   obtain⟨rfl,hc⟩:=h
   obtain⟨m,rfl,_,hw⟩:=DataW.trod_int ht hx
   refine⟨by simpa using hc.symm,fun j v hv=>?_⟩
   have:j=0:=by
    have:=(List.getElem?_eq_some_iff.1 hv).1
    simp at this
    exact this
   subst this
   simp at hv
   exact⟨m,hv.symm,hw⟩
  ·rename_i c e ht
   simp only[Bool.and_eq_true,beq_iff_eq] at h
   obtain⟨xs,m,_,_,hl,hxs,hall⟩:=DataW.trod_array ht hx
   refine⟨hl,fun j v hv=>?_⟩
   have hj:=(List.getElem?_eq_some_iff.1 hv).1
   rw[hl,h.2] at hj
   have hc:0<P.cellsOf e:=Nat.pos_of_ne_zero fun e0=>by rw[e0] at hj;simp at hj
   have hi:j / P.cellsOf e<c:=Nat.div_lt_of_lt_mul (by rw[Nat.mul_comm];exact hj)
   have hy:=hall _ hi
   rw[List.getElem?_eq_getElem (by omega)] at hy
   have hdm:=Nat.div_add_mod j (P.cellsOf e)
   rw[Nat.mul_comm] at hdm
   refine (flat_trod f e m _ _ h.1 hy).2 (j%P.cellsOf e) v ?_
   rw[List.getElem?_take,if_pos (Nat.mod_lt _ hc),List.getElem?_drop,hdm]
   exact hv
  ·rename_i fs ht
   simp only[Bool.and_eq_true] at h
   obtain⟨xs,m,_,_,hl,hxs,hall⟩:=DataW.trod_struct ht hx
   refine⟨hl,fun j v hv=>?_⟩
   have hj:=(List.getElem?_eq_some_iff.1 hv).1
   rw[hl] at hj
   obtain⟨i,g,q1,q2,q3⟩:=sideBy_at h.1 (Nat.zero_le _) hj
   have q1':fs[i]?=some g:=by simpa using q1
   have hy:=hall i g q1'
   have hi:i<xs.length:=by
    rw[hxs]
    exact (Array.getElem?_eq_some_iff.1 q1').1
   rw[List.getElem?_eq_getElem hi] at hy
   have hg:flatK P k f g.type=true:=List.all_eq_true.1 h.2 g (List.mem_of_getElem? q1)
   refine (flat_trod f g.type m _ _ hg hy).2 (j-g.offset) v ?_
   rw[List.getElem?_take,if_pos (by omega),List.getElem?_drop,show g.offset+(j-g.offset)=j by omega]
   exact hv
  ·cases h
theorem adm_elems2 {γ:List G} {h:AH} (A:Adm P W γ h) {t e:TypeId} {n w f:Nat} {cs:List Value} {x:DataW H×List MemPlace} (ht:P.underlying t=some (.slice e)) (hf:flatK P k f e=true)
  (hw:P.cellsOf e=w) (hw0:0<w) (hx:DataW.trod enc P W 0 (fun _=>true) true n t cs=some x) :
  ∃ v' v L γ' h',cs=[v']∧γ<+:γ'∧h<+:h'∧Adm P W γ' h'∧VR γ' v v'∧Els k w h' v L∧L.length≤maxLen∧(L=[]→∃ t,t≤2∧v=.slice none 0 t)∧∀ i,i<L.length→∀ j,j<w→(Lit.int k ((L.getD i []).getD j 0)).wf=true:=by
 rcases open_slice ht hx with⟨rfl,_⟩|⟨a,len,cap,m,n',D,Pl,rfl,hb,hl,hm,hmm,_,hcell⟩
 ·exact⟨_,.slice none 0 0,[],γ,h,rfl,List.prefix_refl _,List.prefix_refl _,A,.nils,.inl ⟨rfl,0,by omega,rfl⟩,Nat.zero_le _,fun _=>⟨0,by omega,rfl⟩,fun i hi=>by simp at hi⟩
 ·by_cases h0:len=0
  ·subst h0
   exact⟨_,.slice none 0 1,[],γ,h,rfl,List.prefix_refl _,List.prefix_refl _,A,.emp _ _,.inl ⟨rfl,1,by omega,rfl⟩,Nat.zero_le _,fun _=>⟨1,by omega,rfl⟩,fun i hi=>by simp at hi⟩
  ·have hmc:m=cap:=hmm
   have cell:∀ i,i<cap→∀ r,r<w→∃ z,W.cell? ((a.add (i*w)).add r)=some (.int k z)∧(Lit.int k z).wf=true:=fun i hi r hr=>by
    obtain⟨cs',h1,h2⟩:=hcell i (by omega)
    rw[hw] at h1
    obtain⟨_,hlen,hc⟩:=World.cells?_some h1
    obtain⟨_,hall⟩:=flat_trod f e n' cs' _ hf h2
    have hr':r<cs'.length:=by omega
    obtain⟨z,hz,hwf⟩:=hall r _ (List.getElem?_eq_getElem hr')
    refine⟨z,?_,hwf⟩
    rw[hc r hr,List.getElem?_eq_getElem hr',hz]
   obtain⟨z0,hz,_⟩:=cell 0 (by omega) 0 hw0
   rw[Nat.zero_mul] at hz
   have a0:a.add 0=a:=by simp[Addr.add]
   rw[a0,a0] at hz
   have hsp:a.spot=none:=by
    unfold World.cell? at hz
    split at hz
    ·split at hz
     ·cases hz
     ·rename_i hs
      simpa using hs
    ·cases hz
   have hbl:a.block<W.heap.size:=World.block_lt_of_cell? W _ hz
   have cell':∀ j,j<len*w→∃ z,W.cell? ⟨a.block,a.off+j,none⟩=some (.int k z)∧(Lit.int k z).wf=true:=fun j hj=>by
    have hi:j / w<len:=Nat.div_lt_of_lt_mul (by rw[Nat.mul_comm];exact hj)
    obtain⟨z,q1,q2⟩:=cell (j / w) (by omega) (j%w) (Nat.mod_lt _ hw0)
    refine⟨z,?_,q2⟩
    rw[add_off a hsp,add_off _ rfl] at q1
    have hdm:=Nat.div_add_mod j w
    rw[Nat.mul_comm] at hdm
    rw[show a.off+j=a.off+j / w*w+j%w by omega]
    exact q1
   obtain⟨N,hN⟩:∃ N:Nat→Int,∀ j,j<len*w→W.cell? ⟨a.block,a.off+j,none⟩=some (.int k (N j))∧(Lit.int k (N j)).wf=true:=by
    refine⟨fun j=>if hj:j<len*w then (cell' j hj).choose else 0,fun j hj=>?_⟩
    simp only[dif_pos hj]
    exact (cell' j hj).choose_spec
   let L:List (List Int):=(List.range len).map fun i=>(List.range w).map fun r=>N (i*w+r)
   have hLl:L.length=len:=by simp[L]
   have hLg:∀ i,i<len→L.getD i []=(List.range w).map fun r=>N (i*w+r):=fun i hi=>by simp[L,List.getD_eq_getElem?_getD,List.getElem?_map,List.getElem?_range hi]
   let C:List Value:=cel k ((List.range (len*w)).map N)
   have hCl:C.length=len*w:=by simp[C,cel_len]
   refine⟨_,.slice (some ⟨h.length,0,none⟩) L.length w,L,γ++[⟨a.block,a.off,cap*w⟩],h.new ⟨C,e,true,false⟩,rfl,List.prefix_append _ _,pre_new (List.prefix_refl _),?_,?_,
    .inr ⟨h.length,0,_,rfl,get_new_same,fun i hi=>?_⟩,by rw[hLl];omega,fun hL=>absurd hLl (by rw[hL];exact fun e=>h0 (by simpa using e.symm)),fun i hi j hj=>?_⟩
   ·refine A.new hbl fun j v hv=>?_
    have hj:j<len*w:=by rw[←hCl];exact (List.getElem?_eq_some_iff.1 hv).1
    have hv':C[j]?=some (.int k (N j)):=by simp[C,cel,hj]
    rw[hv'] at hv
    obtain rfl:=Option.some.inj hv
    exact⟨rfl,_,(hN j hj).1,.int _ _⟩
   ·have hcw:len*w≤cap*w:=Nat.mul_le_mul_right _ hl
    have:=VR.slc (γ:=γ++[⟨a.block,a.off,cap*w⟩]) h.length 0 L.length w ⟨a.block,a.off,cap*w⟩ (by rw[←A.rel.len];simp) hw0 (by rw[hLl];simp only;omega)
    have e1:(some a:Option Addr)=some ⟨a.block,a.off+0,none⟩:=by
     obtain⟨b,o,s⟩:=a
     simp at hsp
     subst hsp
     rfl
    rw[e1]
    have e2:(cap*w-0) / w=cap:=by rw[Nat.sub_zero];exact Nat.mul_div_cancel _ hw0
    simp only[e2,hLl] at this
    rw[hLl]
    exact this
   ·rw[hLl] at hi
    have hr:i*w+w≤len*w:=mul_row hi
    refine⟨by simp only[hCl];omega,?_⟩
    rw[hLg i hi]
    simp only[C,cel_drop,cel_take,Nat.zero_add]
    congr 1
    refine List.ext_getElem? fun r=>?_
    rw[List.getElem?_take,List.getElem?_drop,List.getElem?_map,List.getElem?_map]
    by_cases hr':r<w
    ·rw[if_pos hr',List.getElem?_range hr',List.getElem?_range (by omega)]
     rfl
    ·rw[if_neg hr',List.getElem?_eq_none (by simp;omega)]
     rfl
   ·rw[hLl] at hi
    have hr:i*w+w≤len*w:=mul_row hi
    rw[hLg i hi]
    have:((List.range w).map fun r=>N (i*w+r)).getD j 0=N (i*w+j):=by simp[List.getD_eq_getElem?_getD,List.getElem?_map,List.getElem?_range hj]
    rw[this]
    exact (hN _ (by omega)).2
theorem adm_elems {γ:List G} {h:AH} (A:Adm P W γ h) {t e:TypeId} {n w f:Nat} {cs:List Value} {x:DataW H×List MemPlace} (ht:P.underlying t=some (.slice e)) (hf:flatK P k f e=true)
  (hw:P.cellsOf e=w) (hw0:0<w) (hx:DataW.trod enc P W 0 (fun _=>true) true n t cs=some x) :
  ∃ v' v L γ' h',cs=[v']∧γ<+:γ'∧h<+:h'∧Adm P W γ' h'∧VR γ' v v'∧Els k w h' v L∧L.length≤maxLen∧∀ i,i<L.length→∀ j,j<w→(Lit.int k ((L.getD i []).getD j 0)).wf=true:=by
 obtain⟨v',v,L,γ',h',e1,q1,q2,q3,q4,q5,q6,_,q7⟩:=adm_elems2 A ht hf hw hw0 hx
 exact⟨v',v,L,γ',h',e1,q1,q2,q3,q4,q5,q6,q7⟩
end
section
variable {H:Type} {enc:TypeId×Value→H} {P:Program} {W:World}
def isByteS (P:Program) (t e:TypeId):Bool:=tySlice P t e&&flatK P .u8 1 e&&P.cellsOf e==1
theorem adm_code {γ:List G} {h:AH} (A:Adm P W γ h) {t:TypeId} (e:TypeId) (hk:isByteS P t e=true) {v:Value} {d:DataW H} {ps:List MemPlace} {r:Reach} {base:Nat} (hval:Value.okWide P W r base t v)
  (hx:DataW.Trod enc P W 0 (fun _=>true) true t v d ps) :
  ∃ L u γ' h',γ<+:γ'∧h<+:h'∧Adm P W γ' h'∧VR γ' u v∧Els .u8 1 h' u L∧Byt 1 L:=by
 simp only[isByteS,Bool.and_eq_true,beq_iff_eq] at hk
 obtain⟨⟨k1,k2⟩,k3⟩:=hk
 obtain⟨n,hx⟩:=hx
 obtain⟨v',u,L,γ',h',e1,q1,q2,q3,q4,q5,q6,q7⟩:=adm_elems A (tySlice_eq k1) k2 k3 (by decide) hx
 rw[cells_of_slice (tySlice_eq k1) hval] at e1
 have e1:v=v':=by simpa using e1
 subst e1
 exact⟨L,u,γ',h',q1,q2,q3,q4,q5,fun i hi j hj=>u8_in (q7 i hi j hj)⟩
end
end Go.Proofs.Ytapafdpnmakekaa.X

namespace Go.Proofs.Ytapafdpnmakekaa.fnGains
open Go Go.ChangeShapes Go.WideShapes Go.ChangeAt Go.RowKit Go.Proofs.Ytapafdpnmakekaa.X
set_option linter.unusedVariables false
theorem own:ownKnob Try.prog.godebug=none:=by kernel_rfl
theorem laid:laidOutB Try.prog=true:=by kernel_rfl
theorem shapeY:isByteS Try.prog 22 5=true:=by kernel_rfl
theorem readable0:Try.prog.readableRec 22=true:=by kernel_rfl
theorem intable0:22<Try.prog.types.size:=of_decide_eq_true (by kernel_rfl)
theorem isbool:Try.prog.underlying 4=some .bool:=by kernel_rfl
theorem isint:Try.prog.underlying 2=some (.int .i64):=by kernel_rfl
set_option maxRecDepth 100000 in
theorem lifted (os:Os) (started:os.Started) (H:Type) (enc:TypeId×Value→H) :
  ReturnsInHanded {} Try.checked os 10 .any (Rows.fnGainsSpec.pre6 enc Try.prog Try.f10 Rows.fnGainsRow.domain false) (Rows.fnGainsSpec.post enc Try.prog Try.f10 false true false false):=by
 refine returnsInHanded_of_change_sized (C:=Try.checked) own started (by kernel_rfl) Try.func10
  (ChangeSpec.witness6 (enc:=enc) (C:=Try.checked) false ⟨#[],#[.slice none 0 0],[]⟩ 8 (by kernel_rfl) (by kernel_rfl) (by kernel_rfl) (by kernel_rfl)) ?_
 intro W base args ds gs before hval0 hW hcnd hsz0 _
 have hval:∀ (j:Nat) t v,Try.f10.params[j]?=some t→args[j]?=some v→Value.okWide Try.prog W .any base t v:=hval0
 have hW':=hW
 obtain⟨p,q,hA0,hV,rfl,hfz,hnd⟩:=hW
 have hA:DataW.TrodAll enc Try.prog W 0 (fun _=>true) true Try.f10.params.toList args.toList ds p:=hA0
 rw[Try.params10] at hA hval
 obtain⟨v0,vs0,d0,ds0,p0,q0,hargs0,rfl,rfl,h0,r0⟩:=trodAll_cons hA
 obtain⟨rfl,rfl,rfl⟩:=trodAll_nil r0
 obtain rfl:args=#[v0]:=by cases args;simp_all
 obtain⟨rfl,rfl⟩:=trodVars_none hV
 obtain⟨ns0,u0,γ0,g0,pg0,ph0,A0,hv0,hi0,hl0⟩:=adm_code (Adm.nil Try.prog W) 5 shapeY (hval 0 _ v0 rfl rfl) h0
 have hi0':=hi0
 have key:=law_Gains hi0' hl0
 refine (calls_of_WF (S:=S) orders esound tsound A0 (VRL.cons hv0 (VRL.nil _)) key).mono fun e W' ⟨v,u,γ1,h1,he,hvr,hb,bel⟩=>?_
 subst hb
 obtain rfl:=hvr.bool_inv
 subst he
 have st:=stays_all laid bel (ts:=[22]) (fun t ht=>by
  simp only[List.mem_cons,List.not_mem_nil,or_false] at ht
  rw[ht]
  exact⟨readable0,intable0⟩) hA
 exact⟨_,rfl,_,_,_,[],_,[],hW',trodAll_mk1 (shut_bool isbool _),st,rfl,bel.frame _,fun h=>by cases h⟩
theorem j0:Program.unfollowed Try.pinned.checked.prog 10=false:=by kernel_rfl
theorem j1:(Rows.fnGainsRow.inPlace==Program.inPlace Try.pinned.checked.prog 10)=true:=by kernel_rfl
theorem j2:(Rows.fnGainsRow.unfollowed==Program.unfollowed Try.pinned.checked.prog 10)=true:=by
 rw[j0]
 rfl
theorem j3:(Rows.fnGainsRow.recurses==Program.recurses Try.pinned.checked.prog 10)=true:=by kernel_rfl
theorem j4:(Rows.fnGainsRow.named==Program.varsNamed Try.pinned.checked.prog 10)=true:=by kernel_rfl
theorem closed:joinedFacts Try.pinned.checked.prog 10 Try.f10 Rows.fnGainsSpec Rows.fnGainsRow=true:=by
 unfold joinedFacts
 rw[j1,j2,j3,j4]
 kernel_rfl
theorem over:Rows.fnGainsRow.holds Try.pinned (OpenSpec.ofChange Rows.fnGainsSpec):=
 OpenClaim.holds_of_wide 10 Try.f10 rfl rfl rfl rfl rfl rfl rfl ⟨rfl,rfl,rfl,rfl,rfl⟩ rfl rfl rfl rfl rfl (by kernel_rfl) Try.func10 closed
  (of_decide_eq_true (by kernel_rfl)) (by unfold Func.isWrapper;first|(rw[if_pos (by decide +kernel)];kernel_rfl)|(rw[if_neg (by decide +kernel)];exact⟨rfl,rfl⟩))
  (fun os started H enc _=>lifted os started H enc)
end Go.Proofs.Ytapafdpnmakekaa.fnGains
namespace Go.Proofs.Ytapafdpnmakekaa
theorem fnGains_holds:Rows.FnGainsSaid:=fnGains.over
end Go.Proofs.Ytapafdpnmakekaa
