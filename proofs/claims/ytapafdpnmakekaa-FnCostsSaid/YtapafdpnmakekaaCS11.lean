/- Texts of one claim, put together by merge.py: XS13, XS14, XS15, XM8, XZ9, XDE, XR3, XF36, XM1, XR4, XDH, XM7, XDS, XDT, XArgs, XA2, XA3, XA5, XHCS. -/
import Derived.Test.YtapafdpnmakekaaCS10
import Derived.Test.YtapafdpnmakekaaCS8
import Derived.Test.YtapafdpnmakekaaCS9
import Derived.Test.YtapafdpnmakekaaCS7
import Derived.Test.YtapafdpnmakekaaCS3
import Derived.Deep.Slices
import Derived.WideKeyArgs
import Derived.ChangeOld
import Derived.ChangeArms
import Derived.OpenShut
import Derived.Test.YtapafdpnmakekaaRows
import Derived.ProofKit
import Derived.ShutString
import Derived.Below
import Derived.SizedLaws
set_option linter.unusedVariables false
set_option linter.unusedSimpArgs false
set_option maxRecDepth 20000
set_option maxHeartbeats 4000000
namespace Go.Proofs.Ytapafdpnmakekaa.X
open Go Go.RowKit
open Nat (reduceEqDiff reduceAdd reduceSub reduceLeDiff)
theorem mn_gt {a:Int}:(1000000000000000<mn a)↔1000000000000000<a:=by unfold mn;split<;>omega
theorem i_repeated {v:Value} {x:Sch} {k:Nat} {b:Int} {h:AH} {Q:Value→AH→Prop} (hv:Prods h v x.ps) (hx:isX x=true) (hk:k≤8) (hb:1≤b∧b≤6561000) (hb0:b≤100000∨k=0) (hbk:b*x.n^k≤6561000)
  (hQ:∀ h',h<+:h'→(b≤100000→Q (repV (repX x k b)) h')∧(100000<b→∀ t s:Int,0≤t∧t≤1000000000000001→0≤s∧s≤1000000000000001→Q (.tuple #[I64 t,I64 s,.bool false]) h')):WF S 232 [schV x v,I64 k,I64 b] h Q:=by
 refine WF_fn (fn:=c232) rfl rfl ?_
 dsimp only[c232,oO,oM,oS,oG,oK,oE,oL,oF,oX,oN]
 have z:=(isX_sz hx).1
 have hl:=(isX_sz hx).2
 have hM:=more_in hx hv.1.widL
 have zn:=z.n
 have b2:=mul_in1 (A:=6561000) (B:=6561000) hb hb
 have mb2:mn (b*b)=b*b:=mn_id (by omega)
 have b3:=Int.mul_nonneg (show 0≤b*b by omega) (show 0≤b by omega)
 have b3m:=Int.mul_nonneg (show 0≤b*b by omega) (show 0≤b-1 by omega)
 have e3m:b*b*(b-1)=b*b*b-b*b:=by rw[Int.mul_sub,Int.mul_one]
 try simp (maxSteps:=3000000) (disch:=first|omega|simp only[lnx];omega) only[↓xpre,xpost,↓reduceIte,reduceEqDiff,reduceAdd,reduceSub,reduceLeDiff,zz0,schV,hv.one]
 generalize hH1:AH.new h _=H1
 obtain⟨hb1,p1,n1⟩:=new_facts hH1
 try simp (maxSteps:=3000000) (disch:=first|omega|simp only[lnx];omega) only[↓xpre,xpost,↓reduceIte,reduceEqDiff,reduceAdd,reduceSub,reduceLeDiff,zz0,rdn_of hb1]
 refine i_costOf (hv.pre p1) hl fun H2 p2=>?_
 have hb1:=pre_get p2 hb1
 have w1:∀ (h1:AH) (e:TypeId),(h1.new ⟨[.int .i64 0,.int .i64 0,.int .i64 0,.int .i64 0],e,false,true⟩).wr h1.length 0 (cel .i64 (costL x))=some (h1.new ⟨cel .i64 (costL x),e,false,true⟩):=fun h1 e=>wr_all rfl
 try simp (maxSteps:=3000000) (disch:=first|omega|simp only[lnx];omega) only[↓xpre,xpost,↓reduceIte,reduceEqDiff,reduceAdd,reduceSub,reduceLeDiff,zz0,aggV,cel_all,cel_len,costL_len,↓w1,List.append_nil,fillL,zrep]
 generalize hH3:AH.new H2 _=H3
 obtain⟨hb3,p3,n3⟩:=new_facts hH3
 generalize hH4:AH.new H3 _=H4
 obtain⟨hb4,p4,n4⟩:=new_facts hH4
 refine i_lim1 hb4 (by omega) (by omega) fun H5 p5=>?_
 rw[mb2]
 try simp (maxSteps:=3000000) (disch:=first|omega|simp only[lnx];omega) only[↓xpre,xpost,↓reduceIte,reduceEqDiff,reduceAdd,reduceSub,reduceLeDiff,zz0,fillL,zrep]
 generalize hH6:AH.new H5 _=H6
 obtain⟨hb6,p6,n6⟩:=new_facts hH6
 refine i_lim1 hb6 (by omega) (by omega) fun H7 p7=>?_
 try simp (maxSteps:=3000000) (disch:=first|omega|simp only[lnx];omega) only[↓xpre,xpost,↓reduceIte,reduceEqDiff,reduceAdd,reduceSub,reduceLeDiff,zz0,fillL,zrep,wrap64_in]
 generalize hH8:AH.new H7 _=H8
 obtain⟨hb8,p8,n8⟩:=new_facts hH8
 refine i_lim1 hb8 (by omega) (by omega) fun H9 p9=>?_
 have hc9:=pre_get (((p4.trans p5).trans (p6.trans p7)).trans (p8.trans p9)) hb3
 have hb9:=pre_get ((((p3.trans p4).trans p5).trans (p6.trans p7)).trans (p8.trans p9)) hb1
 have ph:=(p1.trans p2).trans ((((p3.trans p4).trans p5).trans (p6.trans p7)).trans (p8.trans p9))
 rw[e3m]
 have c0:=cw_in x.ps 0 x.ps.length
 have c1:=cw_in x.ps 1 x.ps.length
 have c2:=cq_in x.ps x.ps.length 9
 have c2':(x.ps.length:Int)*((9:Nat):Int)≤30*9:=(mul_in (A:=30) (B:=9) (by omega) (by omega)).2
 try simp (maxSteps:=3000000) (disch:=first|omega|simp only[lnx];omega) only[↓xpre,xpost,↓reduceIte,reduceEqDiff,reduceAdd,reduceSub,reduceLeDiff,zz0]
 by_cases hbig:100000<b
 ·have hk0:k=0:=by omega
  subst hk0
  have b2big:10000000000≤b*b:=by
   have:=(mul_in1 (a:=100000) (b:=100000) (A:=b) (B:=b) (by omega) (by omega)).2
   omega
  have hm:mn (b*b*b)=1000000000000001:=by
   have h1:=Int.mul_le_mul_of_nonneg_left (show 100001≤b by omega) (show 0≤b*b by omega)
   unfold mn
   rw[if_pos (by omega)]
  have ms:=mn_in (show 0≤b*b*b-b*b by omega)
  rw[hm]
  refine WC_loop ?_
  try simp (maxSteps:=3000000) (disch:=first|omega|simp only[lnx];omega) only[↓xpre,xpost,↓reduceIte,reduceEqDiff,reduceAdd,reduceSub,reduceLeDiff,zz0,decide_eq_false (show ¬ ((0:Int)<((0:Nat):Int)) by omega),decide_eq_false (show ¬ ((1000000000000001:Int)≤1000000000000000) by omega),WG_un,xres_tmp3]
  exact (hQ _ ph).2 hbig _ _ (by omega) ms
 have hb5:b≤100000:=by omega
 have hQ:=fun h' p=>(hQ h' p).1 hb5
 have b2:=mul_in1 (A:=100000) (B:=100000) ⟨hb.1,hb5⟩ ⟨hb.1,hb5⟩
 have b3:=mul_in1 (a:=b*b) (b:=b) (A:=10000000000) (B:=100000) (by omega) ⟨hb.1,hb5⟩
 have b3':b*b≤b*b*b:=by
  have:=Int.mul_le_mul_of_nonneg_left hb.1 (show 0≤b*b by omega)
  rw[Int.mul_one] at this
  exact this
 rw[mn_id (a:=b*b*b) (by omega),mn_id (a:=b*b*b-b*b) (by omega)]
 refine WC_loop_inv (fun m f K1=>∃ (i:Nat) (t:Int) (s:Int) (w:Int),m=k-i∧i≤k∧f 3=.pointer (some ⟨h.length,0,none⟩)∧f 9=.pointer (some ⟨H2.length,0,none⟩)∧f 11=I64 t∧f 12=I64 s∧f 13=I64 w∧f 33=I64 k∧f 34=I64 i∧(H9<+:K1)∧(rep x.ps.length (more x) x.n (k-i) t s w=repX x k b)∧(0≤t∧t≤1000000000000000)∧(0≤s∧s≤1000000000000000)∧(1≤w∧w*x.n^(k-i)≤6561000)) ?_ (k-0) _ _ ⟨0,b*b*b,b*b*b-b*b,b,rfl,by omega,(by first|rfl|simp[upd_apply]),(by first|rfl|simp[upd_apply]),(by first|rfl|simp[upd_apply]),(by first|rfl|simp[upd_apply]),(by first|rfl|simp[upd_apply]),(by first|rfl|simp[upd_apply]),(by first|rfl|simp[upd_apply]),List.prefix_refl _,rfl,(by omega),(by omega),⟨hb.1,hbk⟩⟩
 rintro m f K1 ⟨i,t,s,w,rfl,hi,f3,f9,f11,f12,f13,f33,f34,pp,hr,ht,hs,hw⟩
 have hcK:=pre_get pp hc9
 have hbK:=pre_get pp hb9
 by_cases hlt:(i:Int)<k
 ·have hi':i<k:=by omega
  have hwl:=size_in (by omega) hw
  obtain⟨w2,w3,w4⟩:=zz_in ⟨hw.1,hwl⟩ hM
  have ta:=mul_in (a:=t) (b:=(x.ps.length:Int)) (A:=1000000000000000) (B:=30) ht (by omega)
  have sa:=mul_in (a:=s) (b:=(x.ps.length:Int)) (A:=1000000000000000) (B:=30) hs (by omega)
  have wn:=mul_in1 (a:=w) (b:=x.n) (A:=6561000) (B:=3) ⟨hw.1,hwl⟩ zn
  have hrs:rep x.ps.length (more x) x.n (k-i) t s w=if 1000000000000000<t*x.ps.length∨1000000000000000<s*x.ps.length∨1000000000000000<s*x.ps.length+more x*w*w then none else rep x.ps.length (more x) x.n (k-(i+1)) (t*x.ps.length) (s*x.ps.length+more x*w*w) (w*x.n):=by
   rw[show k-i=(k-(i+1))+1 by omega]
   rfl
  rw[hrs] at hr
  have ix0:∀ n:Nat,ixaV 4 1 (.pointer (some ⟨n,0,none⟩)) (I64 0)=some (.pointer (some ⟨n,0,none⟩)):=fun n=>rfl
  have ix1:∀ n:Nat,ixaV 4 1 (.pointer (some ⟨n,0,none⟩)) (I64 1)=some (.pointer (some ⟨n,1,none⟩)):=fun n=>rfl
  have ix2:∀ n:Nat,ixaV 4 1 (.pointer (some ⟨n,0,none⟩)) (I64 2)=some (.pointer (some ⟨n,2,none⟩)):=fun n=>rfl
  have ix3:∀ n:Nat,ixaV 4 1 (.pointer (some ⟨n,0,none⟩)) (I64 3)=some (.pointer (some ⟨n,3,none⟩)):=fun n=>rfl
  have r0:AH.rd1 K1 H2.length 0=some (I64 x.ps.length):=by rw[rd1_of hcK];rfl
  have r1:AH.rd1 K1 H2.length 1=some (I64 (cw x.ps 0 x.ps.length)):=by rw[rd1_of hcK];rfl
  have r2:AH.rd1 K1 H2.length 2=some (I64 (cw x.ps 1 x.ps.length)):=by rw[rd1_of hcK];rfl
  have r3:AH.rd1 K1 H2.length 3=some (I64 (cq x.ps x.ps.length 9)):=by rw[rd1_of hcK];rfl
  have em:cw x.ps 0 x.ps.length+cw x.ps 1 x.ps.length+cq x.ps x.ps.length 9=more x:=rfl
  try simp (maxSteps:=3000000) (disch:=first|omega|simp only[lnx];omega) only[↓xpre,xpost,↓reduceIte,reduceEqDiff,reduceAdd,reduceSub,reduceLeDiff,zz0,f3,f9,f11,f12,f13,f33,f34,decide_eq_true hlt,↓WX_ixa,ix0,ix1,ix2,ix3,r0,r1,r2,r3,wrap64_in,fillL,zrep,em]
  generalize hHa:AH.new K1 _=Ha
  obtain⟨hba,pa,na⟩:=new_facts hHa
  refine i_lim1 hba (by omega) (by omega) fun Hb pb=>?_
  rw[mn_id (a:=w*w) (by omega)]
  try simp (maxSteps:=3000000) (disch:=first|omega|simp only[lnx];omega) only[↓xpre,xpost,↓reduceIte,reduceEqDiff,reduceAdd,reduceSub,reduceLeDiff,zz0,f3,f9,f11,f12,f13,f33,f34,fillL,zrep]
  refine⟨pb,?_⟩
  generalize hHc:AH.new Hb _=Hc
  obtain⟨hbc,pc,nc⟩:=new_facts hHc
  refine i_lim2 hbc hs.1 (by omega) hM.1 (by omega) fun Hd pd=>?_
  have eass:more x*(w*w)=more x*w*w:=(Int.mul_assoc _ _ _).symm
  rw[eass]
  have hcd:=pre_get ((pa.trans pb).trans (pc.trans pd)) hcK
  have hbd:=pre_get ((pa.trans pb).trans (pc.trans pd)) hbK
  have r0':AH.rd1 Hd H2.length 0=some (I64 x.ps.length):=by rw[rd1_of hcd];rfl
  try simp (maxSteps:=3000000) (disch:=first|omega|simp only[lnx];omega) only[↓xpre,xpost,↓reduceIte,reduceEqDiff,reduceAdd,reduceSub,reduceLeDiff,zz0,f3,f9,f11,f12,f13,f33,f34,↓WX_ixa,ix0,r0',fillL,zrep]
  generalize hHe:AH.new Hd _=He
  obtain⟨hbe,pe,ne⟩:=new_facts hHe
  refine i_lim1 hbe ht.1 (by omega) fun Hf pf=>?_
  have hbf:=pre_get (pe.trans pf) hbd
  have pz:=pp.trans (((pa.trans pb).trans (pc.trans pd)).trans (pe.trans pf))
  have mt:=@mn_gt (t*x.ps.length)
  have ms:=@mn_gt (s*x.ps.length+more x*w*w)
  have hQ2:=hQ _ (ph.trans pz)
  by_cases k1:1000000000000000<mn (t*x.ps.length)
  ·try simp (maxSteps:=3000000) (disch:=first|omega|simp only[lnx];omega) only[↓xpre,xpost,↓reduceIte,reduceEqDiff,reduceAdd,reduceSub,reduceLeDiff,zz0,f3,f9,f11,f12,f13,f33,f34,rd1_of hbf,wrap64_in,decide_eq_true k1,WG_un,xres_tmp3]
   rw[←hr,if_pos (.inl (mt.1 k1))] at hQ2
   exact hQ2
  by_cases k2:1000000000000000<mn (s*x.ps.length+more x*w*w)
  ·try simp (maxSteps:=3000000) (disch:=first|omega|simp only[lnx];omega) only[↓xpre,xpost,↓reduceIte,reduceEqDiff,reduceAdd,reduceSub,reduceLeDiff,zz0,f3,f9,f11,f12,f13,f33,f34,rd1_of hbf,wrap64_in,decide_eq_false k1,decide_eq_true k2,xres_tmp3]
   rw[←hr,if_pos (.inr (.inr (ms.1 k2)))] at hQ2
   exact hQ2
  ·have q1:¬ 1000000000000000<t*x.ps.length:=fun e=>k1 (mt.2 e)
   have q2:¬ 1000000000000000<s*x.ps.length+more x*w*w:=fun e=>k2 (ms.2 e)
   rw[if_neg (by omega)] at hr
   have it:=mn_id (a:=t*x.ps.length) (by omega)
   have is:=mn_id (a:=s*x.ps.length+more x*w*w) (by omega)
   try simp (maxSteps:=3000000) (disch:=first|omega|simp only[lnx];omega) only[↓xpre,xpost,↓reduceIte,reduceEqDiff,reduceAdd,reduceSub,reduceLeDiff,zz0,f3,f9,f11,f12,f13,f33,f34,rd1_of hbf,wrap64_in,decide_eq_false k1,decide_eq_false k2]
   rw[it,is]
   refine InvQ_go (k-(i+1)) (by omega) ⟨(i+1),(t*x.ps.length),(s*x.ps.length+more x*w*w),(w*x.n),rfl,by omega,(by first|rfl|exact f3|(simp only[upd_apply];rfl)|(show I64 _=_;congr 1;omega)),(by first|rfl|exact f9|(simp only[upd_apply];rfl)|(show I64 _=_;congr 1;omega)),(by first|rfl|exact f11|(simp only[upd_apply];rfl)|(show I64 _=_;congr 1;omega)),(by first|rfl|exact f12|(simp only[upd_apply];rfl)|(show I64 _=_;congr 1;omega)),(by first|rfl|exact f13|(simp only[upd_apply];rfl)|(show I64 _=_;congr 1;omega)),(by first|rfl|exact f33|(simp only[upd_apply];rfl)|(show I64 _=_;congr 1;omega)),(by first|rfl|exact f34|(simp only[upd_apply];rfl)|(show I64 _=_;congr 1;omega)),pz,hr,(by omega),(by omega),⟨wn.1,?_⟩⟩
   have e1:=hw.2
   rw[show k-i=(k-(i+1))+1 by omega,Int.pow_succ,Int.mul_comm (x.n^_) x.n,←Int.mul_assoc] at e1
   exact e1
 ·have ei:k-i=0:=by omega
  rw[ei] at hr
  try simp (maxSteps:=3000000) (disch:=first|omega|simp only[lnx];omega) only[↓xpre,xpost,↓reduceIte,reduceEqDiff,reduceAdd,reduceSub,reduceLeDiff,zz0,f3,f9,f11,f12,f13,f33,f34,decide_eq_false hlt,decide_eq_true ht.2,decide_eq_true hs.2,xres_tmp3]
  have hQ2:=hQ _ (ph.trans pp)
  rw[←hr] at hQ2
  exact hQ2
def isL (n:Int):Bool:=decide (0≤n∧n≤8)
def isB (n:Int):Bool:=decide (1≤n∧n≤1000)
theorem i_isLevels {n:Int} {h:AH} {Q:Value→AH→Prop} (hQ:Q (.bool (isL n)) h):WF S 231 [I64 n] h Q:=by
 refine WF_fn (fn:=c231) rfl rfl ?_
 dsimp only[c231,oO,oM,oS,oG,oK,oE,oL,oF,oX,oN]
 unfold isL at hQ
 by_cases c1:0≤n
 ·by_cases c2:n≤8
  ·try simp (maxSteps:=3000000) (disch:=first|omega|simp only[lnx];omega) only[↓xpre,xpost,↓reduceIte,reduceEqDiff,reduceAdd,reduceSub,reduceLeDiff,zz0,decide_eq_true c1,decide_eq_true c2]
   rw[decide_eq_true ⟨c1,c2⟩] at hQ
   exact hQ
  ·try simp (maxSteps:=3000000) (disch:=first|omega|simp only[lnx];omega) only[↓xpre,xpost,↓reduceIte,reduceEqDiff,reduceAdd,reduceSub,reduceLeDiff,zz0,decide_eq_true c1,decide_eq_false c2]
   rw[decide_eq_false (by omega)] at hQ
   exact hQ
 ·try simp (maxSteps:=3000000) (disch:=first|omega|simp only[lnx];omega) only[↓xpre,xpost,↓reduceIte,reduceEqDiff,reduceAdd,reduceSub,reduceLeDiff,zz0,decide_eq_false c1,WG_un]
  rw[decide_eq_false (by omega)] at hQ
  exact hQ
theorem i_isBase {n:Int} {h:AH} {Q:Value→AH→Prop} (hQ:Q (.bool (isB n)) h):WF S 235 [I64 n] h Q:=by
 refine WF_fn (fn:=c235) rfl rfl ?_
 dsimp only[c235,oO,oM,oS,oG,oK,oE,oL,oF,oX,oN]
 unfold isB at hQ
 by_cases c1:1≤n
 ·by_cases c2:n≤1000
  ·try simp (maxSteps:=3000000) (disch:=first|omega|simp only[lnx];omega) only[↓xpre,xpost,↓reduceIte,reduceEqDiff,reduceAdd,reduceSub,reduceLeDiff,zz0,decide_eq_true c1,decide_eq_true c2]
   rw[decide_eq_true ⟨c1,c2⟩] at hQ
   exact hQ
  ·try simp (maxSteps:=3000000) (disch:=first|omega|simp only[lnx];omega) only[↓xpre,xpost,↓reduceIte,reduceEqDiff,reduceAdd,reduceSub,reduceLeDiff,zz0,decide_eq_true c1,decide_eq_false c2]
   rw[decide_eq_false (by omega)] at hQ
   exact hQ
 ·try simp (maxSteps:=3000000) (disch:=first|omega|simp only[lnx];omega) only[↓xpre,xpost,↓reduceIte,reduceEqDiff,reduceAdd,reduceSub,reduceLeDiff,zz0,decide_eq_false c1,WG_un]
  rw[decide_eq_false (by omega)] at hQ
  exact hQ
theorem s_l06Code {v:Value} {x:Sch} {l b:Int} {h:AH} {Q:Value→AH→Prop} (hv:Prods h v x.ps) (hl:SmallX x.ps) (hQ:∀ h',h<+:h'→Q (I64 (sqC x (isL l&&isB b))) h'):WF S 237 [schV x v,I64 l,I64 b] h Q:=by
 refine WF_fn (fn:=c237) rfl rfl ?_
 dsimp only[c237,oO,oM,oS,oG,oK,oE,oL,oF,oX,oN]
 try simp (maxSteps:=3000000) (disch:=first|omega|simp only[lnx];omega) only[↓xpre,xpost,↓reduceIte,reduceEqDiff,reduceAdd,reduceSub,reduceLeDiff,zz0,schV,hv.one]
 generalize hH1:AH.new h _=H1
 obtain⟨hb1,p1,n1⟩:=new_facts hH1
 try simp (maxSteps:=3000000) (disch:=first|omega|simp only[lnx];omega) only[↓xpre,xpost,↓reduceIte,reduceEqDiff,reduceAdd,reduceSub,reduceLeDiff,zz0,rdn_of hb1]
 refine s_l06Square (hv.pre p1) hl fun H2 p2=>?_
 have hQ2:=hQ _ (p1.trans p2)
 by_cases c0:sqC x true=0
 case neg=>
  rw[sqC_same c0] at hQ2
  try simp (maxSteps:=3000000) (disch:=first|omega|simp only[lnx];omega) only[↓xpre,xpost,↓reduceIte,reduceEqDiff,reduceAdd,reduceSub,reduceLeDiff,zz0,decide_eq_false c0,WG_un]
  exact hQ2
 try simp (maxSteps:=3000000) (disch:=first|omega|simp only[lnx];omega) only[↓xpre,xpost,↓reduceIte,reduceEqDiff,reduceAdd,reduceSub,reduceLeDiff,zz0,decide_eq_true c0,c0]
 refine s_l01In ?_
 have e1:decide (0≤l∧l≤8)=isL l:=rfl
 have e2:decide (1≤b∧b≤1000)=isB b:=rfl
 rw[e1]
 cases c1:isL l with
 | false=>
  rw[c1,Bool.false_and,sqC_2 c0] at hQ2
  try simp (maxSteps:=3000000) (disch:=first|omega|simp only[lnx];omega) only[↓xpre,xpost,↓reduceIte,reduceEqDiff,reduceAdd,reduceSub,reduceLeDiff,zz0,WG_un]
  exact hQ2
 | true=>
  rw[c1,Bool.true_and] at hQ2
  try simp (maxSteps:=3000000) (disch:=first|omega|simp only[lnx];omega) only[↓xpre,xpost,↓reduceIte,reduceEqDiff,reduceAdd,reduceSub,reduceLeDiff,zz0]
  refine s_l01In ?_
  rw[e2]
  cases c2:isB b with
  | false=>
   rw[c2,sqC_2 c0] at hQ2
   try simp (maxSteps:=3000000) (disch:=first|omega|simp only[lnx];omega) only[↓xpre,xpost,↓reduceIte,reduceEqDiff,reduceAdd,reduceSub,reduceLeDiff,zz0]
   exact hQ2
  | true=>
   rw[c2,c0] at hQ2
   try simp (maxSteps:=3000000) (disch:=first|omega|simp only[lnx];omega) only[↓xpre,xpost,↓reduceIte,reduceEqDiff,reduceAdd,reduceSub,reduceLeDiff,zz0]
   exact hQ2
def mixB (x:Sch) (k:Nat) (b:Int):Option Int:=if b≤100000 then (match repX x k b with|none=>none|some (t,s)=>if 1000000000000000<t+s then none else some (t+s)) else none
theorem rep_in {a M n:Int}:∀ {k:Nat} {t s z t' s':Int},rep a M n k t s z=some (t',s')→0≤a→0≤M→1≤n→1≤z→0≤t∧t≤1000000000000000→0≤s∧s≤1000000000000000→(0≤t'∧t'≤1000000000000000)∧0≤s'∧s'≤1000000000000000
 | 0,t,s,z,t',s',h,_,_,_,_,ht,hs=>by
  simp only[rep,Option.some.injEq,Prod.mk.injEq] at h
  obtain⟨rfl,rfl⟩:=h
  exact⟨ht,hs⟩
 | k+1,t,s,z,t',s',h,ha,hM,hn,hz,ht,hs=>by
  unfold rep at h
  split at h
  ·cases h
  ·rename_i hc
   have h1:=Int.mul_nonneg ht.1 ha
   have h2:=Int.mul_nonneg hs.1 ha
   have h3:=Int.mul_nonneg (Int.mul_nonneg hM (show 0≤z by omega)) (show 0≤z by omega)
   have h4:=(mul_in1 (a:=z) (b:=n) (A:=z) (B:=n) (by omega) (by omega)).1
   exact rep_in h ha hM hn h4 (by omega) (by omega)
theorem repX_in {x:Sch} {k:Nat} {b t s:Int} (hx:isX x=true) (hw:Wid 27 x.ps) (hb:1≤b∧b≤100000) (h:repX x k b=some (t,s)):(0≤t∧t≤1000000000000000)∧0≤s∧s≤1000000000000000:=by
 have z:=(isX_sz hx).1
 have hM:=more_in hx hw
 have zn:=z.n
 have b2:=mul_in1 (A:=100000) (B:=100000) hb hb
 have b3:=mul_in1 (a:=b*b) (b:=b) (A:=10000000000) (B:=100000) (by omega) hb
 have b3':b*b≤b*b*b:=by
  have:=Int.mul_le_mul_of_nonneg_left hb.1 (show 0≤b*b by omega)
  rw[Int.mul_one] at this
  exact this
 exact rep_in h (by omega) hM.1 (by omega) (by omega) (by omega) (by omega)
theorem s_l06Mixed {v:Value} {x:Sch} {k:Nat} {b:Int} {h:AH} {Q:Value→AH→Prop} (hv:Prods h v x.ps) (hx:isX x=true) (hk:k≤8) (hb:1≤b∧b≤100000) (hbk:b*x.n^k≤6561000)
  (hQ:∀ h',h<+:h'→(∀ n,mixB x k b=some n→Q (.tuple #[I64 n,.bool true]) h')∧(mixB x k b=none→∀ n,Q (.tuple #[I64 n,.bool false]) h')):WF S 238 [schV x v,I64 k,I64 b] h Q:=by
 refine WF_fn (fn:=c238) rfl rfl ?_
 dsimp only[c238,oO,oM,oS,oG,oK,oE,oL,oF,oX,oN]
 try simp (maxSteps:=3000000) (disch:=first|omega|simp only[lnx];omega) only[↓xpre,xpost,↓reduceIte,reduceEqDiff,reduceAdd,reduceSub,reduceLeDiff,zz0,schV,hv.one]
 generalize hH1:AH.new h _=H1
 obtain⟨hb1,p1,n1⟩:=new_facts hH1
 try simp (maxSteps:=3000000) (disch:=first|omega|simp only[lnx];omega) only[↓xpre,xpost,↓reduceIte,reduceEqDiff,reduceAdd,reduceSub,reduceLeDiff,zz0,rdn_of hb1]
 refine s_l06Repeated (hv.pre p1) hx hk hb hbk fun H2 p2=>?_
 obtain⟨q1,q2⟩:=hQ _ (p1.trans p2)
 unfold mixB at q1 q2
 rw[if_pos hb.2] at q1 q2
 cases hr:repX x k b with
 | none=>
  rw[hr] at q2
  try simp (maxSteps:=3000000) (disch:=first|omega|simp only[lnx];omega) only[↓xpre,xpost,↓reduceIte,reduceEqDiff,reduceAdd,reduceSub,reduceLeDiff,zz0,repV,WG_un]
  exact q2 rfl 0
 | some q=>
  obtain⟨t,s⟩:=q
  have bb:=repX_in hx hv.1.widL hb hr
  rw[hr] at q1 q2
  simp only at q1 q2
  by_cases c1:1000000000000000<t+s
  ·rw[if_pos c1] at q2
   try simp (maxSteps:=3000000) (disch:=first|omega|simp only[lnx];omega) only[↓xpre,xpost,↓reduceIte,reduceEqDiff,reduceAdd,reduceSub,reduceLeDiff,zz0,repV,wrap64_in,decide_eq_true c1]
   exact q2 rfl 0
  ·rw[if_neg c1] at q1
   try simp (maxSteps:=3000000) (disch:=first|omega|simp only[lnx];omega) only[↓xpre,xpost,↓reduceIte,reduceEqDiff,reduceAdd,reduceSub,reduceLeDiff,zz0,repV,wrap64_in,decide_eq_false c1]
   exact q1 _ rfl
theorem i_mixed {v:Value} {x:Sch} {k:Nat} {b:Int} {h:AH} {Q:Value→AH→Prop} (hv:Prods h v x.ps) (hx:isX x=true) (hk:k≤8) (hb:1≤b∧b≤6561000) (hb0:b≤100000∨k=0) (hbk:b*x.n^k≤6561000)
  (hQ:∀ h',h<+:h'→(∀ n,mixB x k b=some n→Q (.tuple #[I64 n,.bool true]) h')∧(mixB x k b=none→∀ n,Q (.tuple #[I64 n,.bool false]) h')):WF S 236 [schV x v,I64 k,I64 b] h Q:=by
 refine WF_fn (fn:=c236) rfl rfl ?_
 dsimp only[c236,oO,oM,oS,oG,oK,oE,oL,oF,oX,oN]
 try simp (maxSteps:=3000000) (disch:=first|omega|simp only[lnx];omega) only[↓xpre,xpost,↓reduceIte,reduceEqDiff,reduceAdd,reduceSub,reduceLeDiff,zz0,schV,hv.one]
 generalize hH1:AH.new h _=H1
 obtain⟨hb1,p1,n1⟩:=new_facts hH1
 try simp (maxSteps:=3000000) (disch:=first|omega|simp only[lnx];omega) only[↓xpre,xpost,↓reduceIte,reduceEqDiff,reduceAdd,reduceSub,reduceLeDiff,zz0,rdn_of hb1]
 refine i_repeated (hv.pre p1) hx hk hb hb0 hbk fun H2 p2=>⟨fun h5=>?_,fun hbig t s ht hs=>?_⟩
 ·obtain⟨q1,q2⟩:=hQ _ (p1.trans p2)
  unfold mixB at q1 q2
  rw[if_pos h5] at q1 q2
  cases hr:repX x k b with
  | none=>
   rw[hr] at q2
   try simp (maxSteps:=3000000) (disch:=first|omega|simp only[lnx];omega) only[↓xpre,xpost,↓reduceIte,reduceEqDiff,reduceAdd,reduceSub,reduceLeDiff,zz0,repV,WG_un,wrap64_in]
   exact q2 rfl _
  | some q=>
   obtain⟨t,s⟩:=q
   have bb:=repX_in hx hv.1.widL ⟨hb.1,h5⟩ hr
   rw[hr] at q1 q2
   simp only at q1 q2
   by_cases c1:t+s≤1000000000000000
   ·rw[if_neg (by omega)] at q1
    try simp (maxSteps:=3000000) (disch:=first|omega|simp only[lnx];omega) only[↓xpre,xpost,↓reduceIte,reduceEqDiff,reduceAdd,reduceSub,reduceLeDiff,zz0,repV,wrap64_in,decide_eq_true c1]
    exact q1 _ rfl
   ·rw[if_pos (by omega)] at q2
    try simp (maxSteps:=3000000) (disch:=first|omega|simp only[lnx];omega) only[↓xpre,xpost,↓reduceIte,reduceEqDiff,reduceAdd,reduceSub,reduceLeDiff,zz0,repV,wrap64_in,decide_eq_false c1]
    exact q2 rfl _
 ·obtain⟨q1,q2⟩:=hQ _ (p1.trans p2)
  unfold mixB at q2
  rw[if_neg (by omega)] at q2
  try simp (maxSteps:=3000000) (disch:=first|omega|simp only[lnx];omega) only[↓xpre,xpost,↓reduceIte,reduceEqDiff,reduceAdd,reduceSub,reduceLeDiff,zz0,WG_un,wrap64_in]
  exact q2 rfl _
def mcR (x:Sch) (l b:Int):Int×Int:=if sqC x (isL l&&isB b)=0 then (match mixB x l.toNat b with|none=>(0,3)|some n=>(n,0)) else (0,sqC x (isL l&&isB b))
theorem base_in {x:Sch} {k:Nat} {b:Int} (z:SZ x) (hk:k≤8) (hb:1≤b∧b≤1000):b*x.n^k≤6561000:=by
 have h1:=pow_in (n:=x.n) (N:=3) ⟨z.n.1,z.n.2⟩ k
 have h2:=pow_up (N:=3) (by omega) hk
 have h3:(3:Int)^8=6561:=by decide
 exact (mul_in1 (A:=1000) (B:=6561) hb (by omega)).2
theorem s_MixedCost {v:Value} {x:Sch} {l b:Int} {h:AH} {Q:Value→AH→Prop} (hv:Prods h v x.ps) (hl:SmallX x.ps)
  (hQ:∀ h',h<+:h'→Q (.tuple #[I64 (mcR x l b).1,I64 (mcR x l b).2]) h'):WF S 97 [schV x v,I64 l,I64 b] h Q:=by
 refine WF_fn (fn:=c97) rfl rfl ?_
 dsimp only[c97,oO,oM,oS,oG,oK,oE,oL,oF,oX,oN]
 try simp (maxSteps:=3000000) (disch:=first|omega|simp only[lnx];omega) only[↓xpre,xpost,↓reduceIte,reduceEqDiff,reduceAdd,reduceSub,reduceLeDiff,zz0,schV,hv.one]
 generalize hH1:AH.new h _=H1
 obtain⟨hb1,p1,n1⟩:=new_facts hH1
 try simp (maxSteps:=3000000) (disch:=first|omega|simp only[lnx];omega) only[↓xpre,xpost,↓reduceIte,reduceEqDiff,reduceAdd,reduceSub,reduceLeDiff,zz0,rdn_of hb1]
 refine s_l06Code (hv.pre p1) hl fun H2 p2=>?_
 have hb1:=pre_get p2 hb1
 unfold mcR at hQ
 by_cases c0:sqC x (isL l&&isB b)=0
 case neg=>
  have hQ2:=hQ _ (p1.trans p2)
  rw[if_neg c0] at hQ2
  try simp (maxSteps:=3000000) (disch:=first|omega|simp only[lnx];omega) only[↓xpre,xpost,↓reduceIte,reduceEqDiff,reduceAdd,reduceSub,reduceLeDiff,zz0,decide_eq_true (show sqC x (isL l&&isB b)≠0 from c0)]
  exact hQ2
 rw[if_pos c0] at hQ
 obtain⟨x1,x2,x3⟩:=sqC_0 c0
 simp only[Bool.and_eq_true] at x3
 have l1:0≤l∧l≤8:=by have:=x3.1;unfold isL at this;exact of_decide_eq_true this
 have b1:1≤b∧b≤1000:=by have:=x3.2;unfold isB at this;exact of_decide_eq_true this
 obtain⟨k,rfl⟩:∃ k:Nat,l=k:=⟨l.toNat,by omega⟩
 rw[Int.toNat_natCast] at hQ
 try simp (maxSteps:=3000000) (disch:=first|omega|simp only[lnx];omega) only[↓xpre,xpost,↓reduceIte,reduceEqDiff,reduceAdd,reduceSub,reduceLeDiff,zz0,decide_eq_false (show ¬ (sqC x (isL k&&isB b)≠0) from fun e=>e c0),rdn_of hb1]
 refine s_l06Mixed (hv.pre (p1.trans p2)) x1 (by omega) (by omega) (base_in (isX_sz x1).1 (by omega) b1) fun H3 p3=>⟨fun n hn=>?_,fun hn n=>?_⟩
 ·try simp (maxSteps:=3000000) (disch:=first|omega|simp only[lnx];omega) only[↓xpre,xpost,↓reduceIte,reduceEqDiff,reduceAdd,reduceSub,reduceLeDiff,zz0]
  have:=hQ _ ((p1.trans p2).trans p3)
  rw[hn] at this
  exact this
 ·try simp (maxSteps:=3000000) (disch:=first|omega|simp only[lnx];omega) only[↓xpre,xpost,↓reduceIte,reduceEqDiff,reduceAdd,reduceSub,reduceLeDiff,zz0]
  have:=hQ _ ((p1.trans p2).trans p3)
  rw[hn] at this
  exact this
theorem i_MixedCost {v:Value} {x:Sch} {l b:Int} {h:AH} {Q:Value→AH→Prop} (hv:Prods h v x.ps) (hl:SmallX x.ps)
  (hQ:∀ h',h<+:h'→Q (.tuple #[I64 (mcR x l b).1,I64 (mcR x l b).2]) h'):WF S 96 [schV x v,I64 l,I64 b] h Q:=by
 refine WF_fn (fn:=c96) rfl rfl ?_
 dsimp only[c96,oO,oM,oS,oG,oK,oE,oL,oF,oX,oN]
 try simp (maxSteps:=3000000) (disch:=first|omega|simp only[lnx];omega) only[↓xpre,xpost,↓reduceIte,reduceEqDiff,reduceAdd,reduceSub,reduceLeDiff,zz0,schV,hv.one]
 generalize hH1:AH.new h _=H1
 obtain⟨hb1,p1,n1⟩:=new_facts hH1
 unfold mcR at hQ
 have main:∀ f:Bool,f=(isL l&&isB b)→∀ (H2:AH),H1<+:H2→True:=fun _ _ _ _=>trivial
 try simp (maxSteps:=3000000) (disch:=first|omega|simp only[lnx];omega) only[↓xpre,xpost,↓reduceIte,reduceEqDiff,reduceAdd,reduceSub,reduceLeDiff,zz0,rdn_of hb1]
 refine i_isLevels ?_
 have stop:sqC x (isL l&&isB b)≠0→∀ H2,H1<+:H2→Q (.tuple #[I64 0,I64 (sqC x (isL l&&isB b))]) H2:=fun e H2 p=>by
  have:=hQ _ (p1.trans p)
  rw[if_neg e] at this
  exact this
 cases c1:isL l with
 | false=>
  rw[c1,Bool.false_and] at stop
  try simp (maxSteps:=3000000) (disch:=first|omega|simp only[lnx];omega) only[↓xpre,xpost,↓reduceIte,reduceEqDiff,reduceAdd,reduceSub,reduceLeDiff,zz0,WG_un]
  refine⟨List.prefix_refl _,?_⟩
  refine i_squareCode (hv.pre p1) hl fun H2 p2=>?_
  try simp (maxSteps:=3000000) (disch:=first|omega|simp only[lnx];omega) only[↓xpre,xpost,↓reduceIte,reduceEqDiff,reduceAdd,reduceSub,reduceLeDiff,zz0,decide_eq_true (show sqC x false≠0 from sqC_f)]
  exact stop sqC_f _ p2
 | true=>
  rw[c1,Bool.true_and] at stop hQ
  try simp (maxSteps:=3000000) (disch:=first|omega|simp only[lnx];omega) only[↓xpre,xpost,↓reduceIte,reduceEqDiff,reduceAdd,reduceSub,reduceLeDiff,zz0]
  refine⟨List.prefix_refl _,?_⟩
  refine i_isBase ?_
  try simp (maxSteps:=3000000) (disch:=first|omega|simp only[lnx];omega) only[↓xpre,xpost,↓reduceIte,reduceEqDiff,reduceAdd,reduceSub,reduceLeDiff,zz0]
  refine⟨List.prefix_refl _,?_⟩
  refine i_squareCode (hv.pre p1) hl fun H2 p2=>?_
  have hb1:=pre_get p2 hb1
  by_cases c0:sqC x (isB b)=0
  case neg=>
   try simp (maxSteps:=3000000) (disch:=first|omega|simp only[lnx];omega) only[↓xpre,xpost,↓reduceIte,reduceEqDiff,reduceAdd,reduceSub,reduceLeDiff,zz0,decide_eq_true (show sqC x (isB b)≠0 from c0)]
   exact stop c0 _ p2
  rw[if_pos c0] at hQ
  obtain⟨x1,x2,x3⟩:=sqC_0 c0
  have l1:0≤l∧l≤8:=by unfold isL at c1;exact of_decide_eq_true c1
  have b1:1≤b∧b≤1000:=by unfold isB at x3;exact of_decide_eq_true x3
  obtain⟨k,rfl⟩:∃ k:Nat,l=k:=⟨l.toNat,by omega⟩
  rw[Int.toNat_natCast] at hQ
  try simp (maxSteps:=3000000) (disch:=first|omega|simp only[lnx];omega) only[↓xpre,xpost,↓reduceIte,reduceEqDiff,reduceAdd,reduceSub,reduceLeDiff,zz0,decide_eq_false (show ¬ (sqC x (isB b)≠0) from fun e=>e c0),rdn_of hb1]
  refine i_mixed (hv.pre (p1.trans p2)) x1 (by omega) (by omega) (by omega) (base_in (isX_sz x1).1 (by omega) b1) fun H3 p3=>⟨fun n hn=>?_,fun hn n=>?_⟩
  ·try simp (maxSteps:=3000000) (disch:=first|omega|simp only[lnx];omega) only[↓xpre,xpost,↓reduceIte,reduceEqDiff,reduceAdd,reduceSub,reduceLeDiff,zz0]
   have:=hQ _ ((p1.trans p2).trans p3)
   rw[hn] at this
   exact this
  ·try simp (maxSteps:=3000000) (disch:=first|omega|simp only[lnx];omega) only[↓xpre,xpost,↓reduceIte,reduceEqDiff,reduceAdd,reduceSub,reduceLeDiff,zz0]
   have:=hQ _ ((p1.trans p2).trans p3)
   rw[hn] at this
   exact this
def rcR (x:Sch) (l:Int):List Int×Int:=if sqC x (isL l)=0 then (match repX x l.toNat 1 with|none=>([],3)|some (t,s)=>([t,s],0)) else ([],sqC x (isL l))
theorem rcR_small (x:Sch) (l:Int):SmallS (rcR x l).1:=by
 unfold rcR SmallS
 split
 ·split<;>simp
 ·simp
theorem s_RepeatedCost {v:Value} {x:Sch} {l:Int} {h:AH} {Q:Value→AH→Prop} (hv:Prods h v x.ps) (hl:SmallX x.ps)
  (hQ:∀ v' h',h<+:h'→OwnR h h' v' (rcR x l).1→Q (.tuple #[v',I64 (rcR x l).2]) h'):WF S 91 [schV x v,I64 l] h Q:=by
 refine WF_fn (fn:=c91) rfl rfl ?_
 dsimp only[c91,oO,oM,oS,oG,oK,oE,oL,oF,oX,oN]
 try simp (maxSteps:=3000000) (disch:=first|omega|simp only[lnx];omega) only[↓xpre,xpost,↓reduceIte,reduceEqDiff,reduceAdd,reduceSub,reduceLeDiff,zz0,schV,hv.one]
 generalize hH1:AH.new h _=H1
 obtain⟨hb1,p1,n1⟩:=new_facts hH1
 try simp (maxSteps:=3000000) (disch:=first|omega|simp only[lnx];omega) only[↓xpre,xpost,↓reduceIte,reduceEqDiff,reduceAdd,reduceSub,reduceLeDiff,zz0,rdn_of hb1]
 refine s_l06Square (hv.pre p1) hl fun H2 p2=>?_
 have hb1:=pre_get p2 hb1
 have ph:=p1.trans p2
 unfold rcR at hQ
 by_cases c0:sqC x true=0
 case neg=>
  have e:=sqC_same (b:=isL l) c0
  rw[e,if_neg c0] at hQ
  try simp (maxSteps:=3000000) (disch:=first|omega|simp only[lnx];omega) only[↓xpre,xpost,↓reduceIte,reduceEqDiff,reduceAdd,reduceSub,reduceLeDiff,zz0,decide_eq_false c0,WG_un,decide_eq_true (show sqC x true≠0 from c0)]
  exact hQ _ _ ph (.inl ⟨rfl,rfl⟩)
 try simp (maxSteps:=3000000) (disch:=first|omega|simp only[lnx];omega) only[↓xpre,xpost,↓reduceIte,reduceEqDiff,reduceAdd,reduceSub,reduceLeDiff,zz0,decide_eq_true c0,c0]
 refine s_l01In ?_
 have e1:decide (0≤l∧l≤8)=isL l:=rfl
 rw[e1]
 cases c1:isL l with
 | false=>
  rw[c1,if_neg sqC_f,sqC_2 c0] at hQ
  try simp (maxSteps:=3000000) (disch:=first|omega|simp only[lnx];omega) only[↓xpre,xpost,↓reduceIte,reduceEqDiff,reduceAdd,reduceSub,reduceLeDiff,zz0,decide_eq_true (show (2:Int)≠0 by decide)]
  exact hQ _ _ ph (.inl ⟨rfl,rfl⟩)
 | true=>
  rw[c1,if_pos c0] at hQ
  have x1:=(sqC_0 c0).1
  have l1:0≤l∧l≤8:=by unfold isL at c1;exact of_decide_eq_true c1
  obtain⟨k,rfl⟩:∃ k:Nat,l=k:=⟨l.toNat,by omega⟩
  rw[Int.toNat_natCast] at hQ
  try simp (maxSteps:=3000000) (disch:=first|omega|simp only[lnx];omega) only[↓xpre,xpost,↓reduceIte,reduceEqDiff,reduceAdd,reduceSub,reduceLeDiff,zz0,decide_eq_false (show ¬ ((0:Int)≠0) by decide),rdn_of hb1]
  refine s_l06Repeated (hv.pre ph) x1 (by omega) (by omega) (base_in (isX_sz x1).1 (by omega) (by omega)) fun H3 p3=>?_
  cases hr:repX x k 1 with
  | none=>
   rw[hr] at hQ
   try simp (maxSteps:=3000000) (disch:=first|omega|simp only[lnx];omega) only[↓xpre,xpost,↓reduceIte,reduceEqDiff,reduceAdd,reduceSub,reduceLeDiff,zz0,repV]
   exact hQ _ _ (ph.trans p3) (.inl ⟨rfl,rfl⟩)
  | some q=>
   obtain⟨t,s⟩:=q
   rw[hr] at hQ
   try simp (maxSteps:=3000000) (disch:=first|omega|simp only[lnx];omega) only[↓xpre,xpost,↓reduceIte,reduceEqDiff,reduceAdd,reduceSub,reduceLeDiff,zz0,repV,fillL,zrep]
   exact hQ _ _ ((ph.trans p3).trans (pre_new (List.prefix_refl _))) (.inr ⟨H3.length,_,true,pre_len (ph.trans p3),rfl,get_new_same⟩)
theorem i_RepeatedCost {v:Value} {x:Sch} {l:Int} {h:AH} {Q:Value→AH→Prop} (hv:Prods h v x.ps) (hl:SmallX x.ps)
  (hQ:∀ v' h',h<+:h'→OwnR h h' v' (rcR x l).1→Q (.tuple #[v',I64 (rcR x l).2]) h'):WF S 90 [schV x v,I64 l] h Q:=by
 refine WF_fn (fn:=c90) rfl rfl ?_
 dsimp only[c90,oO,oM,oS,oG,oK,oE,oL,oF,oX,oN]
 try simp (maxSteps:=3000000) (disch:=first|omega|simp only[lnx];omega) only[↓xpre,xpost,↓reduceIte,reduceEqDiff,reduceAdd,reduceSub,reduceLeDiff,zz0,schV,hv.one]
 generalize hH1:AH.new h _=H1
 obtain⟨hb1,p1,n1⟩:=new_facts hH1
 unfold rcR at hQ
 try simp (maxSteps:=3000000) (disch:=first|omega|simp only[lnx];omega) only[↓xpre,xpost,↓reduceIte,reduceEqDiff,reduceAdd,reduceSub,reduceLeDiff,zz0,rdn_of hb1]
 refine i_isLevels ?_
 try simp (maxSteps:=3000000) (disch:=first|omega|simp only[lnx];omega) only[↓xpre,xpost,↓reduceIte,reduceEqDiff,reduceAdd,reduceSub,reduceLeDiff,zz0]
 refine⟨List.prefix_refl _,?_⟩
 refine i_squareCode (hv.pre p1) hl fun H2 p2=>?_
 have hb1:=pre_get p2 hb1
 have ph:=p1.trans p2
 by_cases c0:sqC x (isL l)=0
 case neg=>
  rw[if_neg c0] at hQ
  try simp (maxSteps:=3000000) (disch:=first|omega|simp only[lnx];omega) only[↓xpre,xpost,↓reduceIte,reduceEqDiff,reduceAdd,reduceSub,reduceLeDiff,zz0,decide_eq_true (show sqC x (isL l)≠0 from c0)]
  exact hQ _ _ ph (.inl ⟨rfl,rfl⟩)
 rw[if_pos c0] at hQ
 obtain⟨x1,x2,x3⟩:=sqC_0 c0
 have l1:0≤l∧l≤8:=by unfold isL at x3;exact of_decide_eq_true x3
 obtain⟨k,rfl⟩:∃ k:Nat,l=k:=⟨l.toNat,by omega⟩
 rw[Int.toNat_natCast] at hQ
 try simp (maxSteps:=3000000) (disch:=first|omega|simp only[lnx];omega) only[↓xpre,xpost,↓reduceIte,reduceEqDiff,reduceAdd,reduceSub,reduceLeDiff,zz0,decide_eq_false (show ¬ (sqC x (isL k)≠0) from fun e=>e c0),rdn_of hb1]
 refine i_repeated (hv.pre ph) x1 (by omega) (by omega) (by omega) (base_in (isX_sz x1).1 (by omega) (by omega)) fun H3 p3=>⟨fun _=>?_,fun hbig=>by omega⟩
 cases hr:repX x k 1 with
 | none=>
  rw[hr] at hQ
  try simp (maxSteps:=3000000) (disch:=first|omega|simp only[lnx];omega) only[↓xpre,xpost,↓reduceIte,reduceEqDiff,reduceAdd,reduceSub,reduceLeDiff,zz0,repV]
  exact hQ _ _ (ph.trans p3) (.inl ⟨rfl,rfl⟩)
 | some q=>
  obtain⟨t,s⟩:=q
  rw[hr] at hQ
  try simp (maxSteps:=3000000) (disch:=first|omega|simp only[lnx];omega) only[↓xpre,xpost,↓reduceIte,reduceEqDiff,reduceAdd,reduceSub,reduceLeDiff,zz0,repV,fillL,zrep]
  exact hQ _ _ ((ph.trans p3).trans (pre_new (List.prefix_refl _))) (.inr ⟨H3.length,_,true,pre_len (ph.trans p3),rfl,get_new_same⟩)
end Go.Proofs.Ytapafdpnmakekaa.X

set_option linter.unusedVariables false
set_option linter.unusedSimpArgs false
set_option maxRecDepth 20000
set_option maxHeartbeats 4000000
namespace Go.Proofs.Ytapafdpnmakekaa.X
open Go Go.RowKit
def gain (n z:Int):Prop:=80000<z∨n<2*z*z*z-z*z
instance {n z:Int}:Decidable (gain n z):=by unfold gain;infer_instance
theorem cube_in {z A:Int} (hz:1≤z∧z≤A):(0≤2*z∧2*z≤2*A)∧(0≤2*z*z∧2*z*z≤2*A*A)∧(0≤2*z*z*z∧2*z*z*z≤2*A*A*A)∧(1≤z*z∧z*z≤A*A):=by
 have h1:=mul_in (a:=2*z) (b:=z) (A:=2*A) (B:=A) (by omega) (by omega)
 have h2:=mul_in (a:=2*z*z) (b:=z) (A:=2*A*A) (B:=A) h1 (by omega)
 exact⟨by omega,h1,h2,mul_in1 hz hz⟩
theorem smW_congr {g g':Nat→Int}:∀ {n:Nat},(∀ j,j<n→g j=g' j)→smW g n=smW g' n
 | 0,_=>rfl
 | n+1,h=>by
  simp only[smW]
  rw[smW_congr (n:=n) fun j hj=>h j (by omega),h n (by omega)]
theorem sum_turn {g g':Nat→Int} {N M:Nat} (hN:1≤N∧N≤3) (hM:1≤M∧M≤3) (h1:∀ c,c<9→g' c=if c<N*M then g (c%N*M+c / N) else 0) (h0:∀ c,c<9→N*M≤c→g c=0):smW g' 9=smW g 9:=by
 have e:∀ f:Nat→Int,smW f 9=0+f 0+f 1+f 2+f 3+f 4+f 5+f 6+f 7+f 8:=fun f=>rfl
 rw[e,e,h1 0 (by omega),h1 1 (by omega),h1 2 (by omega),h1 3 (by omega),h1 4 (by omega),h1 5 (by omega),h1 6 (by omega),h1 7 (by omega),h1 8 (by omega)]
 have cN:N=1∨N=2∨N=3:=by omega
 have cM:M=1∨M=2∨M=3:=by omega
 rcases cN with rfl|rfl|rfl<;>rcases cM with rfl|rfl|rfl
 ·have y1:=h0 1 (by omega) (by omega)
  have y2:=h0 2 (by omega) (by omega)
  have y3:=h0 3 (by omega) (by omega)
  have y4:=h0 4 (by omega) (by omega)
  have y5:=h0 5 (by omega) (by omega)
  have y6:=h0 6 (by omega) (by omega)
  have y7:=h0 7 (by omega) (by omega)
  have y8:=h0 8 (by omega) (by omega)
  show 0+g 0+(0:Int)+(0:Int)+(0:Int)+(0:Int)+(0:Int)+(0:Int)+(0:Int)+(0:Int)=_
  omega
 ·have y2:=h0 2 (by omega) (by omega)
  have y3:=h0 3 (by omega) (by omega)
  have y4:=h0 4 (by omega) (by omega)
  have y5:=h0 5 (by omega) (by omega)
  have y6:=h0 6 (by omega) (by omega)
  have y7:=h0 7 (by omega) (by omega)
  have y8:=h0 8 (by omega) (by omega)
  show 0+g 0+g 1+(0:Int)+(0:Int)+(0:Int)+(0:Int)+(0:Int)+(0:Int)+(0:Int)=_
  omega
 ·have y3:=h0 3 (by omega) (by omega)
  have y4:=h0 4 (by omega) (by omega)
  have y5:=h0 5 (by omega) (by omega)
  have y6:=h0 6 (by omega) (by omega)
  have y7:=h0 7 (by omega) (by omega)
  have y8:=h0 8 (by omega) (by omega)
  show 0+g 0+g 1+g 2+(0:Int)+(0:Int)+(0:Int)+(0:Int)+(0:Int)+(0:Int)=_
  omega
 ·have y2:=h0 2 (by omega) (by omega)
  have y3:=h0 3 (by omega) (by omega)
  have y4:=h0 4 (by omega) (by omega)
  have y5:=h0 5 (by omega) (by omega)
  have y6:=h0 6 (by omega) (by omega)
  have y7:=h0 7 (by omega) (by omega)
  have y8:=h0 8 (by omega) (by omega)
  show 0+g 0+g 1+(0:Int)+(0:Int)+(0:Int)+(0:Int)+(0:Int)+(0:Int)+(0:Int)=_
  omega
 ·have y4:=h0 4 (by omega) (by omega)
  have y5:=h0 5 (by omega) (by omega)
  have y6:=h0 6 (by omega) (by omega)
  have y7:=h0 7 (by omega) (by omega)
  have y8:=h0 8 (by omega) (by omega)
  show 0+g 0+g 2+g 1+g 3+(0:Int)+(0:Int)+(0:Int)+(0:Int)+(0:Int)=_
  omega
 ·have y6:=h0 6 (by omega) (by omega)
  have y7:=h0 7 (by omega) (by omega)
  have y8:=h0 8 (by omega) (by omega)
  show 0+g 0+g 3+g 1+g 4+g 2+g 5+(0:Int)+(0:Int)+(0:Int)=_
  omega
 ·have y3:=h0 3 (by omega) (by omega)
  have y4:=h0 4 (by omega) (by omega)
  have y5:=h0 5 (by omega) (by omega)
  have y6:=h0 6 (by omega) (by omega)
  have y7:=h0 7 (by omega) (by omega)
  have y8:=h0 8 (by omega) (by omega)
  show 0+g 0+g 1+g 2+(0:Int)+(0:Int)+(0:Int)+(0:Int)+(0:Int)+(0:Int)=_
  omega
 ·have y6:=h0 6 (by omega) (by omega)
  have y7:=h0 7 (by omega) (by omega)
  have y8:=h0 8 (by omega) (by omega)
  show 0+g 0+g 2+g 4+g 1+g 3+g 5+(0:Int)+(0:Int)+(0:Int)=_
  omega
 ·show 0+g 0+g 3+g 6+g 1+g 4+g 7+g 2+g 5+g 8=_
  omega
theorem wt_turn {q:List Int} {p:Int} {N M:Nat} (hN:1≤N∧N≤3) (hM:1≤M∧M≤3) (ok:okForm p ((N*M:Nat):Int) q=true):wt (tuF q N M) 9=wt q 9:=by
 unfold wt
 refine sum_turn hN hM (fun c hc=>?_) fun c hc h=>?_
 ·unfold tuF
  rw[gen_get hc]
  split<;>rfl
 ·rw[(okForm_at ok hc).2 (by omega)]
  rfl
theorem nz_nn (a:Int):0≤nz a:=(nz_in a).1
theorem wt_zero {q:List Int} (hq:q.length=9) (h:wt q 9=0):q=z9:=by
 have e:wt q 9=0+nz (q.getD 0 0)+nz (q.getD 1 0)+nz (q.getD 2 0)+nz (q.getD 3 0)+nz (q.getD 4 0)+nz (q.getD 5 0)+nz (q.getD 6 0)+nz (q.getD 7 0)+nz (q.getD 8 0):=rfl
 have n0:=nz_nn (q.getD 0 0)
 have n1:=nz_nn (q.getD 1 0)
 have n2:=nz_nn (q.getD 2 0)
 have n3:=nz_nn (q.getD 3 0)
 have n4:=nz_nn (q.getD 4 0)
 have n5:=nz_nn (q.getD 5 0)
 have n6:=nz_nn (q.getD 6 0)
 have n7:=nz_nn (q.getD 7 0)
 have n8:=nz_nn (q.getD 8 0)
 have zz:∀ a,nz a=0→a=0:=fun a h=>by unfold nz at h;split at h<;>simp_all
 refine getD_extI (by rw[hq];rfl) fun i hi=>?_
 have z0:z9.getD i 0=0:=by
  show (List.replicate 9 (0:Int)).getD i 0=0
  rw[List.getD_eq_getElem?_getD,List.getElem?_replicate]
  split<;>rfl
 rw[z0]
 have:i=0∨i=1∨i=2∨i=3∨i=4∨i=5∨i=6∨i=7∨i=8:=by omega
 rcases this with rfl|rfl|rfl|rfl|rfl|rfl|rfl|rfl|rfl<;>exact zz _ (by omega)
theorem isZ_turn {q:List Int} {p:Int} {N M:Nat} (hq:q.length=9) (hN:1≤N∧N≤3) (hM:1≤M∧M≤3) (ok:okForm p ((N*M:Nat):Int) q=true) (hz:isZ q=false):isZ (tuF q N M)=false:=by
 cases e:isZ (tuF q N M) with
 | false=>rfl
 | true=>
  exfalso
  have h1:tuF q N M=z9:=by simpa [isZ] using e
  have h2:=wt_turn hN hM ok
  rw[h1,show wt z9 9=0 from rfl] at h2
  rw[wt_zero hq h2.symm] at hz
  exact absurd hz (by decide)
theorem ok_turn {q:List Int} {p:Int} {N M:Nat} (hp:1≤p) (hN:1≤N∧N≤3) (hM:1≤M∧M≤3) (ok:okForm p ((N*M:Nat):Int) q=true):okForm p ((M*N:Nat):Int) (tuF q N M)=true:=by
 refine okForm_t fun j hj=>decide_eq_true ?_
 unfold tuF
 rw[gen_get hj,Nat.mul_comm M N]
 split
 ·rename_i h
  have h1:j%N<N:=Nat.mod_lt _ (by omega)
  have h2:j / N<M:=Nat.div_lt_of_lt_mul h
  have h3:j%N*M+M≤N*M:=by rw[←Nat.succ_mul];exact Nat.mul_le_mul_right M h1
  have h4:N*M≤9:=Nat.mul_le_mul hN.2 hM.2
  exact⟨(okForm_at ok (by omega)).1,fun h=>by omega⟩
 ·exact⟨by omega,fun _=>rfl⟩
theorem seg_9 {q:List Int} (hq:q.length=27) {i:Nat} (hi:i<3):(seg q i).length=9:=by
 unfold seg
 rw[List.length_take,List.length_drop]
 omega
theorem seg_at {q:List Int} {c:Nat} (hc:c<9):(seg q 2).getD c 0=q.getD (18+c) 0:=by
 unfold seg
 rw[List.getD_eq_getElem?_getD,List.getElem?_take_of_lt hc,List.getElem?_drop,←List.getD_eq_getElem?_getD]
theorem seg_tr {N M K:Nat} {q:List Int}:seg (trP N M K q) 0=tuF (seg q 1) M K∧seg (trP N M K q) 1=tuF (seg q 0) N M∧seg (trP N M K q) 2=tuF (seg q 2) N K:=
 ⟨seg_0 tuF_len,seg_1 tuF_len tuF_len,seg_2 tuF_len tuF_len tuF_len⟩
theorem okProd_turn {x:Sch} {q:List Int} {N M K:Nat} (z:SZ x) (en:x.n=N) (em:x.m=M) (ek:x.k=K) (hq:q.length=27) (ok:okProd x q=true):okProd (trX N M K x) (trP N M K q)=true:=by
 have zn:=z.n
 have zm:=z.m
 have zk:=z.k
 have zp:=z.p
 rw[en] at zn
 rw[em] at zm
 rw[ek] at zk
 have bN:1≤N∧N≤3:=by omega
 have bM:1≤M∧M≤3:=by omega
 have bK:1≤K∧K≤3:=by omega
 simp only[okProd,hasZ,pl,Bool.and_eq_true,Bool.not_eq_true',Bool.or_eq_false_iff] at ok ⊢
 obtain⟨⟨⟨h0,h1⟩,h2⟩,⟨z0,z1⟩,z2⟩:=ok
 simp only[reduceIte,Nat.one_ne_zero,Nat.reduceEqDiff] at h0 h1 h2 ⊢
 obtain⟨s0,s1,s2⟩:=seg_tr (N:=N) (M:=M) (K:=K) (q:=q)
 rw[s0,s1,s2]
 have c0:x.n*x.m=((N*M:Nat):Int):=by rw[en,em];push_cast;rfl
 have c1:x.m*x.k=((M*K:Nat):Int):=by rw[em,ek];push_cast;rfl
 have c2:x.n*x.k=((N*K:Nat):Int):=by rw[en,ek];push_cast;rfl
 have d0:x.k*x.m=((K*M:Nat):Int):=by rw[em,ek];push_cast;rfl
 have d1:x.m*x.n=((M*N:Nat):Int):=by rw[em,en];push_cast;rfl
 have d2:x.k*x.n=((K*N:Nat):Int):=by rw[ek,en];push_cast;rfl
 rw[c0] at h0
 rw[c1] at h1
 rw[c2] at h2
 have p1:(1:Int)≤x.p:=by omega
 refine⟨⟨⟨?_,?_⟩,?_⟩,⟨?_,?_⟩,?_⟩
 ·show okForm x.p (x.k*x.m) _=true
  rw[d0]
  exact ok_turn p1 bM bK h1
 ·show okForm x.p (x.m*x.n) _=true
  rw[d1]
  exact ok_turn p1 bN bM h0
 ·show okForm x.p (x.k*x.n) _=true
  rw[d2]
  exact ok_turn p1 bN bK h2
 ·exact isZ_turn (seg_9 hq (by omega)) bM bK h1 z1
 ·exact isZ_turn (seg_9 hq (by omega)) bN bM h0 z0
 ·exact isZ_turn (seg_9 hq (by omega)) bN bK h2 z2
theorem isX_turn {x:Sch} {N M K:Nat} (hx:isX x=true) (hw:Wid 27 x.ps) (en:x.n=N) (em:x.m=M) (ek:x.k=K):isX (trX N M K x)=true:=by
 have z:=(isX_sz hx).1
 unfold isX at hx ⊢
 simp only[Bool.and_eq_true,decide_eq_true_eq,List.all_eq_true] at hx ⊢
 obtain⟨⟨h1,h2⟩,h3⟩:=hx
 refine⟨⟨?_,by show (x.ps.map _).length≤30;rw[List.length_map];exact h2⟩,fun q hq=>?_⟩
 ·unfold szX at h1 ⊢
  show (isP x.p&&sz x.k&&sz x.m&&sz x.n)=true
  simp only[Bool.and_eq_true] at h1 ⊢
  exact⟨⟨⟨h1.1.1.1,h1.2⟩,h1.1.2⟩,h1.1.1.2⟩
 ·obtain⟨r,hr,rfl⟩:=List.mem_map.1 hq
  exact okProd_turn z en em ek (hw r hr) (h3 r hr)
theorem cost_turn {x:Sch} {N M K:Nat} (hx:isX x=true) (hw:Wid 27 x.ps) (en:x.n=N) (em:x.m=M) (ek:x.k=K) :
  costL (trX N M K x)=[(x.ps.length:Int),cw x.ps 1 x.ps.length,cw x.ps 0 x.ps.length,cq x.ps x.ps.length 9]:=by
 have z:=(isX_sz hx).1
 have zn:=z.n
 have zm:=z.m
 have zk:=z.k
 rw[en] at zn
 rw[em] at zm
 rw[ek] at zk
 have bN:1≤N∧N≤3:=by omega
 have bM:1≤M∧M≤3:=by omega
 have bK:1≤K∧K≤3:=by omega
 have okp:∀ j,j<x.ps.length→okForm x.p ((N*M:Nat):Int) (seg (x.ps.getD j []) 0)=true∧okForm x.p ((M*K:Nat):Int) (seg (x.ps.getD j []) 1)=true∧okForm x.p ((N*K:Nat):Int) (seg (x.ps.getD j []) 2)=true:=fun j hj=>by
  unfold isX at hx
  simp only[Bool.and_eq_true,List.all_eq_true] at hx
  have:=hx.2 (x.ps.getD j []) (by rw[List.getD_eq_getElem?_getD,List.getElem?_eq_getElem hj];exact List.getElem_mem _)
  simp only[okProd,pl,Bool.and_eq_true] at this
  obtain⟨⟨⟨h0,h1⟩,h2⟩,-⟩:=this
  simp only[reduceIte,Nat.one_ne_zero,Nat.reduceEqDiff] at h0 h1 h2
  rw[en,em] at h0
  rw[em,ek] at h1
  rw[en,ek] at h2
  push_cast
  exact⟨h0,h1,h2⟩
 have gt:∀ j,j<x.ps.length→(x.ps.map (trP N M K)).getD j []=trP N M K (x.ps.getD j []):=fun j hj=>by
  rw[List.getD_eq_getElem?_getD,List.getElem?_map,List.getD_eq_getElem?_getD,List.getElem?_eq_getElem hj]
  rfl
 have lm:(x.ps.map (trP N M K)).length=x.ps.length:=List.length_map _
 have w0:cw (x.ps.map (trP N M K)) 0 x.ps.length=cw x.ps 1 x.ps.length:=smW_congr fun j hj=>by
  rw[gt j hj,(seg_tr (q:=x.ps.getD j [])).1,wt_turn bM bK (okp j hj).2.1]
 have w1:cw (x.ps.map (trP N M K)) 1 x.ps.length=cw x.ps 0 x.ps.length:=smW_congr fun j hj=>by
  rw[gt j hj,(seg_tr (q:=x.ps.getD j [])).2.1,wt_turn bN bM (okp j hj).1]
 have tc:∀ j,j<x.ps.length→∀ c,c<9→((x.ps.map (trP N M K)).getD j []).getD (18+c) 0=if c<N*K then (x.ps.getD j []).getD (18+(c%N*K+c / N)) 0 else 0:=fun j hj c hc=>by
  rw[gt j hj,←seg_at hc,(seg_tr (q:=x.ps.getD j [])).2.2]
  unfold tuF
  rw[gen_get hc]
  split
  ·rename_i h
   have h1:c%N<N:=Nat.mod_lt _ (by omega)
   have h2:c / N<K:=Nat.div_lt_of_lt_mul h
   have h3:c%N*K+K≤N*K:=by rw[←Nat.succ_mul];exact Nat.mul_le_mul_right K h1
   have h4:N*K≤9:=Nat.mul_le_mul bN.2 bK.2
   rw[seg_at (by omega)]
  ·rfl
 have zc:∀ j,j<x.ps.length→∀ c,c<9→N*K≤c→(x.ps.getD j []).getD (18+c) 0=0:=fun j hj c hc h=>by
  rw[←seg_at hc]
  exact (okForm_at (okp j hj).2.2 hc).2 (by omega)
 have z0:∀ n,smW (fun _=>nz 0) n=0:=fun n=>by
  induction n with
  | zero=>rfl
  | succ n ih=>simp only[smW,ih];rfl
 have cqe:cq (x.ps.map (trP N M K)) x.ps.length 9=cq x.ps x.ps.length 9:=by
  unfold cq
  refine sum_turn bN bK (fun c hc=>?_) fun c hc h=>?_
  ·by_cases h:c<N*K
   ·rw[if_pos h]
    have:cc (x.ps.map (trP N M K)) c x.ps.length=cc x.ps (c%N*K+c / N) x.ps.length:=smW_congr fun j hj=>by rw[tc j hj c hc,if_pos h]
    rw[this]
   ·rw[if_neg h]
    have:cc (x.ps.map (trP N M K)) c x.ps.length=0:=by
     unfold cc
     rw[smW_congr (g':=fun _=>nz 0) fun j hj=>by rw[tc j hj c hc,if_neg h]]
     exact z0 _
    rw[this]
    rfl
  ·have:cc x.ps c x.ps.length=0:=by
    unfold cc
    rw[smW_congr (g':=fun _=>nz 0) fun j hj=>by rw[zc j hj c hc h]]
    exact z0 _
   rw[this]
   rfl
 show [(((x.ps.map (trP N M K)).length:Nat):Int),cw (x.ps.map (trP N M K)) 0 (x.ps.map (trP N M K)).length,cw (x.ps.map (trP N M K)) 1 (x.ps.map (trP N M K)).length,cq (x.ps.map (trP N M K)) (x.ps.map (trP N M K)).length 9]=_
 rw[lm,w0,w1,cqe]
end Go.Proofs.Ytapafdpnmakekaa.X

set_option linter.unusedVariables false
set_option linter.unusedSimpArgs false
set_option maxRecDepth 20000
set_option maxHeartbeats 4000000
namespace Go.Proofs.Ytapafdpnmakekaa.X
open Go Go.RowKit
open Nat (reduceEqDiff reduceAdd reduceSub reduceLeDiff)
def pcR (n:Int):Int×Int:=if 1≤n∧n≤50000 then (2*n*n*n-n*n,0) else (0,2)
theorem pc_in {n:Int} (h:1≤n∧n≤50000):(IntKind.i64.wrap (2*n)=2*n)∧(IntKind.i64.wrap (2*n*n)=2*n*n)∧(IntKind.i64.wrap (2*n*n*n)=2*n*n*n)∧IntKind.i64.wrap (n*n)=n*n∧IntKind.i64.wrap (2*n*n*n-n*n)=2*n*n*n-n*n:=by
 obtain⟨a,b,c,d⟩:=cube_in h
 exact⟨wrap64_in (by omega) (by omega),wrap64_in (by omega) (by omega),wrap64_in (by omega) (by omega),wrap64_in (by omega) (by omega),wrap64_in (by omega) (by omega)⟩
theorem i_PlainCost {n:Int} {h:AH} {Q:Value→AH→Prop} (hQ:Q (.tuple #[I64 (pcR n).1,I64 (pcR n).2]) h):WF S 93 [I64 n] h Q:=by
 refine WF_fn (fn:=c93) rfl rfl ?_
 dsimp only[c93,oO,oM,oS,oG,oK,oE,oL,oF,oX,oN]
 unfold pcR at hQ
 by_cases h1:n<1
 ·rw[if_neg (by omega)] at hQ
  ((try simp (maxSteps:=3000000) (dsimp:=false) (disch:=first|omega|simp only[lnx];omega) only[↓ypre,ypost,↓reduceIte,reduceEqDiff,reduceAdd,reduceSub,reduceLeDiff,zz0,ynew,decide_eq_true h1]);try simp only[yback])
  exact hQ
 by_cases h2:n>50000
 ·rw[if_neg (by omega)] at hQ
  ((try simp (maxSteps:=3000000) (dsimp:=false) (disch:=first|omega|simp only[lnx];omega) only[↓ypre,ypost,↓reduceIte,reduceEqDiff,reduceAdd,reduceSub,reduceLeDiff,zz0,ynew,decide_eq_false h1,decide_eq_true h2]);try simp only[yback])
  exact hQ
 rw[if_pos (by omega)] at hQ
 obtain⟨a,b,c,d,e⟩:=pc_in (n:=n) (by omega)
 ((try simp (maxSteps:=3000000) (dsimp:=false) (disch:=first|omega|simp only[lnx];omega) only[↓ypre,ypost,↓reduceIte,reduceEqDiff,reduceAdd,reduceSub,reduceLeDiff,zz0,ynew,decide_eq_false h1,decide_eq_false h2,a,b,c,d,e]);try simp only[yback])
 exact hQ
theorem s_PlainCost {n:Int} {h:AH} {Q:Value→AH→Prop} (hQ:Q (.tuple #[I64 (pcR n).1,I64 (pcR n).2]) h):WF S 94 [I64 n] h Q:=by
 refine WF_fn (fn:=c94) rfl rfl ?_
 dsimp only[c94,oO,oM,oS,oG,oK,oE,oL,oF,oX,oN]
 unfold pcR at hQ
 ((try simp (maxSteps:=3000000) (dsimp:=false) (disch:=first|omega|simp only[lnx];omega) only[↓ypre,ypost,↓reduceIte,reduceEqDiff,reduceAdd,reduceSub,reduceLeDiff,zz0,ynew]);try simp only[yback])
 refine s_l01In ?_
 by_cases h1:1≤n∧n≤50000
 ·rw[if_pos h1] at hQ
  obtain⟨a,b,c,d,e⟩:=pc_in h1
  ((try simp (maxSteps:=3000000) (dsimp:=false) (disch:=first|omega|simp only[lnx];omega) only[↓ypre,ypost,↓reduceIte,reduceEqDiff,reduceAdd,reduceSub,reduceLeDiff,zz0,ynew,decide_eq_true h1,a,b,c,d,e]);try simp only[yback])
  exact hQ
 ·rw[if_neg h1] at hQ
  ((try simp (maxSteps:=3000000) (dsimp:=false) (disch:=first|omega|simp only[lnx];omega) only[↓ypre,ypost,↓reduceIte,reduceEqDiff,reduceAdd,reduceSub,reduceLeDiff,zz0,ynew,decide_eq_false h1]);try simp only[yback])
  exact hQ
theorem s_DrawPlainCost {h:AH} {cv:Value} {code:List (List Int)} {Q:Value→AH→Prop} (c:Cod h cv code)
  (hQ:∀ (n:Int) (h':AH),h<+:h'→Q (I64 n) h'):WF S 92 [cv] h Q:=by
 refine WF_fn (fn:=c92) rfl rfl ?_
 dsimp only[c92,oO,oM,oS,oG,oK,oE,oL,oF,oX,oN]
 ((try simp (maxSteps:=3000000) (dsimp:=false) (disch:=first|omega|simp only[lnx];omega) only[↓ypre,ypost,↓reduceIte,reduceEqDiff,reduceAdd,reduceSub,reduceLeDiff,zz0,ynew]);try simp only[yback])
 refine s_l01From c.els c.byt c.len fun H2 p2 l2 s2=>?_
 ((try simp (maxSteps:=3000000) (dsimp:=false) (disch:=first|omega|simp only[lnx];omega) only[↓ypre,ypost,↓reduceIte,reduceEqDiff,reduceAdd,reduceSub,reduceLeDiff,zz0,ynew]);try simp only[yback])
 refine s_l01Next s2 fun r3 H3 k3 l3 s3 hr _=>?_
 ((try simp (maxSteps:=3000000) (dsimp:=false) (disch:=first|omega|simp only[lnx];omega) only[↓ypre,ypost,↓reduceIte,reduceEqDiff,reduceAdd,reduceSub,reduceLeDiff,zz0,ynew]);try simp only[yback])
 refine s_l01Near s3 (by omega) fun r4 H4 k4 s4 hr4=>?_
 have sl:=s4.lt
 ((try simp (maxSteps:=3000000) (dsimp:=false) (disch:=first|omega|simp only[lnx];omega) only[↓ypre,ypost,↓reduceIte,reduceEqDiff,reduceAdd,reduceSub,reduceLeDiff,zz0,ynew,fillL,zrep]);try simp only[yback])
 generalize hH5:AH.new H4 _=H5
 obtain⟨hb5,p5,n5⟩:=new_facts hH5
 have kv:=kp_new (n:=h.length) (ns:=[r3,r4]) hH5 sl
 refine s_l01Pick (s4.kp p5) kv (by simp) (by simp) fun j6 H6 k6 l6 s6 hj6=>?_
 ((try simp (maxSteps:=3000000) (dsimp:=false) (disch:=first|omega|simp only[lnx];omega) only[↓ypre,ypost,↓reduceIte,reduceEqDiff,reduceAdd,reduceSub,reduceLeDiff,zz0,ynew]);try simp only[yback])
 exact hQ _ _ s6.p
theorem s_DrawCostOf {h:AH} {cv:Value} {code:List (List Int)} {Q:Value→AH→Prop} (c:Cod h cv code)
  (hQ:∀ (x:Sch) (v:Value) (h':AH),h<+:h'→SchD h.length h' v x→SchB x→Q (schV x v) h'):WF S 86 [cv] h Q:=by
 refine WF_fn (fn:=c86) rfl rfl ?_
 dsimp only[c86,oO,oM,oS,oG,oK,oE,oL,oF,oX,oN]
 ((try simp (maxSteps:=3000000) (dsimp:=false) (disch:=first|omega|simp only[lnx];omega) only[↓ypre,ypost,↓reduceIte,reduceEqDiff,reduceAdd,reduceSub,reduceLeDiff,zz0,ynew]);try simp only[yback])
 generalize hH1:AH.new h _=H1
 obtain⟨hb1,p1,n1⟩:=new_facts hH1
 refine s_l01From (c.els.pre p1) c.byt c.len fun H2 p2 l2 s2=>?_
 ((try simp (maxSteps:=3000000) (dsimp:=false) (disch:=first|omega|simp only[lnx];omega) only[↓ypre,ypost,↓reduceIte,reduceEqDiff,reduceAdd,reduceSub,reduceLeDiff,zz0,ynew]);try simp only[yback])
 refine s_l01Next s2 fun r3 H3 k3 l3 s3 hr _=>?_
 have g1:=k3.get (by omega) (pre_get p2 hb1)
 have k3l:=k3.len
 have sl:=s3.lt
 by_cases r0:r3=0
 ·((try simp (maxSteps:=3000000) (dsimp:=false) (disch:=first|omega|simp only[lnx];omega) only[↓ypre,ypost,↓reduceIte,reduceEqDiff,reduceAdd,reduceSub,reduceLeDiff,zz0,ynew,decide_eq_true r0]);try simp only[yback])
  refine s_l06Draw s3 fun x v H4 k4 s4 sd xb=>?_
  have g1:=k4.get (by omega) g1
  have lg:=get_lt g1
  ((try simp (maxSteps:=3000000) (dsimp:=false) (disch:=first|omega|simp only[lnx];omega) only[↓ypre,ypost,↓reduceIte,reduceEqDiff,reduceAdd,reduceSub,reduceLeDiff,zz0,ynew,schV,sd.now.one,wr_of g1,splice_eq,rdn_put_same]);try simp only[yback])
  exact hQ x v _ (pre_put (p1.trans s4.p) (Nat.le_refl _)) (KN.mono (KN.put sd (by omega)) (by omega)) xb
 ·((try simp (maxSteps:=3000000) (dsimp:=false) (disch:=first|omega|simp only[lnx];omega) only[↓ypre,ypost,↓reduceIte,reduceEqDiff,reduceAdd,reduceSub,reduceLeDiff,zz0,ynew,decide_eq_false r0]);try simp only[yback])
  refine s_l01Spoil s3 fun x v H4 k4 s4 sd xb=>?_
  have g1:=k4.get (by omega) g1
  have lg:=get_lt g1
  ((try simp (maxSteps:=3000000) (dsimp:=false) (disch:=first|omega|simp only[lnx];omega) only[↓ypre,ypost,↓reduceIte,reduceEqDiff,reduceAdd,reduceSub,reduceLeDiff,zz0,ynew,schV,sd.now.one,wr_of g1,splice_eq,rdn_put_same]);try simp only[yback])
  exact hQ x v _ (pre_put (p1.trans s4.p) (Nat.le_refl _)) (KN.mono (KN.put sd (by omega)) (by omega)) xb
theorem mc_rc {x:Sch} {l:Int} (hw:Wid 27 x.ps) (h:(rcR x l).2=0) (h2:(mcR x l 1).2=0):∃ t s:Int,(rcR x l).1=[t,s]∧(mcR x l 1).1=t+s∧IntKind.i64.wrap (t+s)=t+s:=by
 unfold rcR at h ⊢
 by_cases hc:sqC x (isL l)=0
 ·rw[if_pos hc] at h ⊢
  obtain⟨hx,hs,hb⟩:=sqC_0 hc
  cases e:repX x l.toNat 1 with
  | none=>rw[e] at h;simp at h
  | some ts=>
   obtain⟨t,s⟩:=ts
   have bd:=repX_in hx hw (b:=1) (by omega) e
   refine⟨t,s,rfl,?_,wrap64_in (by omega) (by omega)⟩
   unfold mcR at h2 ⊢
   have e1:(isL l&&isB 1)=true:=by rw[hb];decide
   rw[hb] at hc
   rw[e1,if_pos hc] at h2 ⊢
   unfold mixB at h2 ⊢
   rw[if_pos (by omega),e] at h2 ⊢
   simp only at h2 ⊢
   by_cases hl:1000000000000000<t+s
   ·rw[if_pos hl] at h2;simp at h2
   ·rw[if_neg hl]
 ·rw[if_neg hc] at h;exact absurd h hc
theorem mc_pc {x:Sch} {b:Int} (h:(mcR x 0 b).2=0):pcR b=((mcR x 0 b).1,0):=by
 unfold mcR at h ⊢
 by_cases hc:sqC x (isL 0&&isB b)=0
 ·rw[if_pos hc] at h ⊢
  obtain⟨hx,hs,hb⟩:=sqC_0 hc
  simp only[Bool.and_eq_true] at hb
  have hb:=of_decide_eq_true hb.2
  unfold mixB at h ⊢
  rw[if_pos (by omega)] at h ⊢
  have e:repX x (0:Int).toNat b=some (b*b*b,b*b*b-b*b):=rfl
  rw[e] at h ⊢
  simp only at h ⊢
  by_cases hl:1000000000000000<b*b*b+(b*b*b-b*b)
  ·rw[if_pos hl] at h;simp at h
  ·rw[if_neg hl]
   unfold pcR
   rw[if_pos (by omega)]
   have:2*b*b*b=2*(b*b*b):=by rw[Int.mul_assoc 2 b b,Int.mul_assoc 2 (b*b) b]
   rw[this]
   refine Prod.ext ?_ rfl
   show 2*(b*b*b)-b*b=b*b*b+(b*b*b-b*b)
   omega
 ·rw[if_neg hc] at h;exact absurd h hc
end Go.Proofs.Ytapafdpnmakekaa.X

set_option linter.unusedVariables false
set_option linter.unusedSimpArgs false
set_option maxRecDepth 20000
set_option maxHeartbeats 4000000
namespace Go.Proofs.Ytapafdpnmakekaa.X
open Go Go.RowKit
theorem TenB.l {t:Ten} (b:TenB t):(t.ns.length:Int)≤1048576:=by
 have:=b.ns
 omega
theorem WO_mono' {S:XS} {A REST:IR} {f:Fr} {h:AH} {R:XE→Fr→AH→Prop} (I:Fr→AH→Prop) (w:WC S A f h (JnQ I)) (hr:∀ f h,I f h→WC S REST f h R):WC S A f h (SeqQ S REST R):=
 WC.mono w fun e f2 h2 q2=>by
  cases e with
  | normal=>exact hr f2 h2 q2
  | exit id=>exact q2.elim
  | ret=>exact q2.elim
def coOK (t:Ten) (s:Int) (ns:List Int):Prop:=(0≤s∧s≤2)∧allIn t.p ns=true∧(ns.length:Int)=sideN t s.toNat
instance {t:Ten} {s:Int} {ns:List Int}:Decidable (coOK t s ns):=by unfold coOK;infer_instance
theorem WO_join2 {S:XS} {ops:List XI} {a b REST:IR} {f:Fr} {h:AH} {R:XE→Fr→AH→Prop} (I:Fr→AH→Prop) (w:WO S ops f h (RegQ (SeqQ S a (SeqQ S b (JnQ I))))) (hr:∀ f h,I f h→WC S REST f h R) :
  WO S ops f h (RegQ (SeqQ S a (SeqQ S (.seq b REST) R))):=by
 refine w.mono fun f1 h1 q=>?_
 refine WC.mono q fun e f2 h2 q2=>?_
 cases e with
 | normal=>
  show WC S (.seq b REST) f2 h2 R
  rw[WC_seq]
  exact WO_mono' I q2 hr
 | exit id=>exact q2.elim
 | ret=>exact q2.elim
theorem WC_joinB {S:XS} {b REST:IR} {f:Fr} {h:AH} {R:XE→Fr→AH→Prop} (I:Fr→AH→Prop) (w:WC S b f h (JnQ I)) (hr:∀ f h,I f h→WC S REST f h R):WC S (.seq b REST) f h R:=by
 rw[WC_seq]
 exact WO_mono' I w hr
end Go.Proofs.Ytapafdpnmakekaa.X

set_option linter.unusedVariables false
set_option linter.unusedSimpArgs false
set_option maxRecDepth 20000
set_option maxHeartbeats 4000000
namespace Go.Proofs.Ytapafdpnmakekaa.X
open Go Go.RowKit
open Nat (reduceEqDiff reduceAdd reduceSub reduceLeDiff)
theorem coS_n {x:Sch} (h:(coS x).2≠0):(coS x).1=[]:=by
 unfold coS at h ⊢
 split
 ·rename_i hx;rw[if_pos hx] at h;exact absurd rfl h
 ·rfl
theorem coS_0 {x:Sch} (h:¬ (coS x).2≠0):isX x=true∧(coS x).1=costL x:=by
 unfold coS at h ⊢
 split
 ·rename_i hx;exact⟨hx,rfl⟩
 ·rename_i hx;rw[if_neg hx] at h;exact absurd (by decide) h
theorem rcS_small (x:Sch) (l:Int):SmallS (rcR x l).1:=rcR_small x l
theorem trX_nat {x:Sch} (hx:isX x=true):∃ N M K:Nat,x.n=N∧x.m=M∧x.k=K:=by
 have z:=(isX_sz hx).1
 have:=z.n;have:=z.m;have:=z.k
 exact⟨x.n.toNat,x.m.toNat,x.k.toNat,by omega,by omega,by omega⟩
theorem law_Costs {h:AH} {cv:Value} {code:List (List Int)} (c:Els .u8 1 h cv code) (b:Byt 1 code):WF S 8 [cv] h (fun v _=>v=.bool true):=by
 refine WF_fn (fn:=c8) rfl rfl ?_
 dsimp only[c8,oO,oM,oS,oG,oK,oE,oL,oF,oX,oN]
 ((try simp (maxSteps:=3000000) (dsimp:=false) (disch:=first|omega|simp only[lnx];omega) only[↓ypre,ypost,↓reduceIte,reduceEqDiff,reduceAdd,reduceSub,reduceLeDiff,zz0,ynew]);try simp only[yback])
 refine l_big c ?_
 by_cases hbig:(code.length:Int)>4096
 ·((try simp (maxSteps:=3000000) (dsimp:=false) (disch:=first|omega|simp only[lnx];omega) only[↓ypre,ypost,↓reduceIte,reduceEqDiff,reduceAdd,reduceSub,reduceLeDiff,zz0,ynew,decide_eq_true hbig]);try simp only[yback])
 ((try simp (maxSteps:=3000000) (dsimp:=false) (disch:=first|omega|simp only[lnx];omega) only[↓ypre,ypost,↓reduceIte,reduceEqDiff,reduceAdd,reduceSub,reduceLeDiff,zz0,ynew,decide_eq_false hbig]);try simp only[yback])
 have c:Cod h cv code:=⟨c,b,by omega⟩
 refine s_DrawCostOf c fun x v1 H1 p1 sd xx=>?_
 have hv1:=sd.now
 have o1:isOne v1=true:=hv1.one
 refine WO_cut (fun f:Fr=>f 0=cv∧f 37=schV x v1∧True) ⟨(by first|rfl|simp[upd_apply]),(by first|rfl|simp[upd_apply]),trivial⟩ ?_
 rintro f ⟨f0,f37,-⟩
 ((try simp (maxSteps:=3000000) (dsimp:=false) (disch:=first|omega|simp only[lnx];omega) only[↓ypre,ypost,↓reduceIte,reduceEqDiff,reduceAdd,reduceSub,reduceLeDiff,zz0,ynew,f0,f37,schV,o1]);try simp only[yback])
 generalize hH2:AH.new H1 _=H2
 obtain⟨g2,p2,n2⟩:=new_facts hH2
 ((try simp (maxSteps:=3000000) (dsimp:=false) (disch:=first|omega|simp only[lnx];omega) only[↓ypre,ypost,↓reduceIte,reduceEqDiff,reduceAdd,reduceSub,reduceLeDiff,zz0,ynew,f0,f37,rdn_of g2]);try simp only[yback])
 refine i_CostOf (x:=x) (hv1.pre p2) xx.l fun w1 H3 p3 q1=>?_
 have hsR:=coS_small x
 generalize hR:coS x=R at q1 hsR
 have q1:=q1.ints
 refine WO_cut (fun f:Fr=>f 0=cv∧f 3=.pointer (some ⟨H1.length,0,none⟩)∧f 40=.tuple #[w1,I64 R.2]∧True) ⟨(by first|rfl|exact f0|simp[upd_apply,f0]),(by first|rfl|simp[upd_apply]),(by first|rfl|simp[upd_apply]),trivial⟩ ?_
 rintro f ⟨f0,f3,f40,-⟩
 have g2:=pre_get p3 g2
 ((try simp (maxSteps:=3000000) (dsimp:=false) (disch:=first|omega|simp only[lnx];omega) only[↓ypre,ypost,↓reduceIte,reduceEqDiff,reduceAdd,reduceSub,reduceLeDiff,zz0,ynew,f0,f3,f40,rdn_of g2]);try simp only[yback])
 refine s_CostOf (x:=x) (hv1.pre (p2.trans p3)) xx.l fun w2 H4 p4 q2=>?_
 rw[hR] at q2 ⊢
 have q2:=q2.ints
 refine WO_cut (fun f:Fr=>f 0=cv∧f 3=.pointer (some ⟨H1.length,0,none⟩)∧f 4=w1∧f 5=I64 R.2∧f 45=.tuple #[w2,I64 R.2]∧True) ⟨(by first|rfl|exact f0|simp[upd_apply,f0]),(by first|rfl|exact f3|simp[upd_apply,f3]),(by first|rfl|simp[upd_apply]),(by first|rfl|simp[upd_apply]),(by first|rfl|simp[upd_apply]),trivial⟩ ?_
 rintro f ⟨f0,f3,f4,f5,f45,-⟩
 ((try simp (maxSteps:=3000000) (dsimp:=false) (disch:=first|omega|simp only[lnx];omega) only[↓ypre,ypost,↓reduceIte,reduceEqDiff,reduceAdd,reduceSub,reduceLeDiff,zz0,ynew,f0,f3,f4,f5,f45,decide_eq_false (show ¬ (R.2)≠(R.2) from fun h=>h rfl)]);try simp only[yback])
 refine l_like (q1.pre p4) q2 hsR ?_
 refine WO_cut (fun f:Fr=>f 0=cv∧f 3=.pointer (some ⟨H1.length,0,none⟩)∧f 4=w1∧f 5=I64 R.2∧f 51=.bool false∧f 54=.bool true∧True) ⟨(by first|rfl|exact f0|simp[upd_apply,f0]),(by first|rfl|exact f3|simp[upd_apply,f3]),(by first|rfl|exact f4|simp[upd_apply,f4]),(by first|rfl|exact f5|simp[upd_apply,f5]),(by first|rfl|simp[upd_apply]),(by first|rfl|simp[upd_apply]),trivial⟩ ?_
 rintro f ⟨f0,f3,f4,f5,f51,f54,-⟩
 ((try simp (maxSteps:=3000000) (dsimp:=false) (disch:=first|omega|simp only[lnx];omega) only[↓ypre,ypost,↓reduceIte,reduceEqDiff,reduceAdd,reduceSub,reduceLeDiff,zz0,ynew,f0,f3,f4,f5,f51,f54]);try simp only[yback])
 refine s_DrawRepeatedCost (c.pre ((p1.trans p2).trans (p3.trans p4))) fun y v2 l H5 p5 sd xy=>?_
 have hv2:=sd.now
 have o2:isOne v2=true:=hv2.one
 refine WO_cut (fun f:Fr=>f 0=cv∧f 3=.pointer (some ⟨H1.length,0,none⟩)∧f 4=w1∧f 5=I64 R.2∧f 59=.tuple #[schV y v2,I64 l]∧True) ⟨(by first|rfl|exact f0|simp[upd_apply,f0]),(by first|rfl|exact f3|simp[upd_apply,f3]),(by first|rfl|exact f4|simp[upd_apply,f4]),(by first|rfl|exact f5|simp[upd_apply,f5]),(by first|rfl|simp[upd_apply]),trivial⟩ ?_
 rintro f ⟨f0,f3,f4,f5,f59,-⟩
 ((try simp (maxSteps:=3000000) (dsimp:=false) (disch:=first|omega|simp only[lnx];omega) only[↓ypre,ypost,↓reduceIte,reduceEqDiff,reduceAdd,reduceSub,reduceLeDiff,zz0,ynew,f0,f3,f4,f5,f59,schV,o2]);try simp only[yback])
 generalize hH6:AH.new H5 _=H6
 obtain⟨g6,p6,n6⟩:=new_facts hH6
 ((try simp (maxSteps:=3000000) (dsimp:=false) (disch:=first|omega|simp only[lnx];omega) only[↓ypre,ypost,↓reduceIte,reduceEqDiff,reduceAdd,reduceSub,reduceLeDiff,zz0,ynew,f0,f3,f4,f5,f59,rdn_of g6]);try simp only[yback])
 refine i_RepeatedCost (x:=y) (l:=l) (hv2.pre p6) xy.l fun w3 H7 p7 q3=>?_
 have hsS:=rcS_small y l
 generalize hS:rcR y l=S at q3 hsS
 have q3:=q3.ints
 refine WO_cut (fun f:Fr=>f 0=cv∧f 3=.pointer (some ⟨H1.length,0,none⟩)∧f 4=w1∧f 5=I64 R.2∧f 8=.pointer (some ⟨H5.length,0,none⟩)∧f 9=I64 l∧f 65=.tuple #[w3,I64 S.2]∧True) ⟨(by first|rfl|exact f0|simp[upd_apply,f0]),(by first|rfl|exact f3|simp[upd_apply,f3]),(by first|rfl|exact f4|simp[upd_apply,f4]),(by first|rfl|exact f5|simp[upd_apply,f5]),(by first|rfl|simp[upd_apply]),(by first|rfl|simp[upd_apply]),(by first|rfl|simp[upd_apply]),trivial⟩ ?_
 rintro f ⟨f0,f3,f4,f5,f8,f9,f65,-⟩
 have g6:=pre_get p7 g6
 ((try simp (maxSteps:=3000000) (dsimp:=false) (disch:=first|omega|simp only[lnx];omega) only[↓ypre,ypost,↓reduceIte,reduceEqDiff,reduceAdd,reduceSub,reduceLeDiff,zz0,ynew,f0,f3,f4,f5,f8,f9,f65,rdn_of g6]);try simp only[yback])
 refine s_RepeatedCost (x:=y) (l:=l) (hv2.pre (p6.trans p7)) xy.l fun w4 H8 p8 q4=>?_
 rw[hS] at q4 ⊢
 have q4:=q4.ints
 refine WO_cut (fun f:Fr=>f 0=cv∧f 3=.pointer (some ⟨H1.length,0,none⟩)∧f 4=w1∧f 5=I64 R.2∧f 8=.pointer (some ⟨H5.length,0,none⟩)∧f 9=I64 l∧f 10=w3∧f 11=I64 S.2∧f 71=.tuple #[w4,I64 S.2]∧True) ⟨(by first|rfl|exact f0|simp[upd_apply,f0]),(by first|rfl|exact f3|simp[upd_apply,f3]),(by first|rfl|exact f4|simp[upd_apply,f4]),(by first|rfl|exact f5|simp[upd_apply,f5]),(by first|rfl|exact f8|simp[upd_apply,f8]),(by first|rfl|exact f9|simp[upd_apply,f9]),(by first|rfl|simp[upd_apply]),(by first|rfl|simp[upd_apply]),(by first|rfl|simp[upd_apply]),trivial⟩ ?_
 rintro f ⟨f0,f3,f4,f5,f8,f9,f10,f11,f71,-⟩
 ((try simp (maxSteps:=3000000) (dsimp:=false) (disch:=first|omega|simp only[lnx];omega) only[↓ypre,ypost,↓reduceIte,reduceEqDiff,reduceAdd,reduceSub,reduceLeDiff,zz0,ynew,f0,f3,f4,f5,f8,f9,f10,f11,f71,decide_eq_false (show ¬ (S.2)≠(S.2) from fun h=>h rfl)]);try simp only[yback])
 refine l_like (q3.pre p8) q4 hsS ?_
 refine WO_cut (fun f:Fr=>f 0=cv∧f 3=.pointer (some ⟨H1.length,0,none⟩)∧f 4=w1∧f 5=I64 R.2∧f 8=.pointer (some ⟨H5.length,0,none⟩)∧f 9=I64 l∧f 10=w3∧f 11=I64 S.2∧f 77=.bool false∧f 80=.bool true∧True) ⟨(by first|rfl|exact f0|simp[upd_apply,f0]),(by first|rfl|exact f3|simp[upd_apply,f3]),(by first|rfl|exact f4|simp[upd_apply,f4]),(by first|rfl|exact f5|simp[upd_apply,f5]),(by first|rfl|exact f8|simp[upd_apply,f8]),(by first|rfl|exact f9|simp[upd_apply,f9]),(by first|rfl|exact f10|simp[upd_apply,f10]),(by first|rfl|exact f11|simp[upd_apply,f11]),(by first|rfl|simp[upd_apply]),(by first|rfl|simp[upd_apply]),trivial⟩ ?_
 rintro f ⟨f0,f3,f4,f5,f8,f9,f10,f11,f77,f80,-⟩
 ((try simp (maxSteps:=3000000) (dsimp:=false) (disch:=first|omega|simp only[lnx];omega) only[↓ypre,ypost,↓reduceIte,reduceEqDiff,reduceAdd,reduceSub,reduceLeDiff,zz0,ynew,f0,f3,f4,f5,f8,f9,f10,f11,f77,f80]);try simp only[yback])
 refine s_DrawPlainCost (c.pre (((p1.trans p2).trans (p3.trans p4)).trans ((p5.trans p6).trans (p7.trans p8)))) fun n H9 p9=>?_
 refine WO_cut (fun f:Fr=>f 0=cv∧f 3=.pointer (some ⟨H1.length,0,none⟩)∧f 4=w1∧f 5=I64 R.2∧f 8=.pointer (some ⟨H5.length,0,none⟩)∧f 9=I64 l∧f 10=w3∧f 11=I64 S.2∧f 84=I64 n∧True) ⟨(by first|rfl|exact f0|simp[upd_apply,f0]),(by first|rfl|exact f3|simp[upd_apply,f3]),(by first|rfl|exact f4|simp[upd_apply,f4]),(by first|rfl|exact f5|simp[upd_apply,f5]),(by first|rfl|exact f8|simp[upd_apply,f8]),(by first|rfl|exact f9|simp[upd_apply,f9]),(by first|rfl|exact f10|simp[upd_apply,f10]),(by first|rfl|exact f11|simp[upd_apply,f11]),(by first|rfl|simp[upd_apply]),trivial⟩ ?_
 rintro f ⟨f0,f3,f4,f5,f8,f9,f10,f11,f84,-⟩
 ((try simp (maxSteps:=3000000) (dsimp:=false) (disch:=first|omega|simp only[lnx];omega) only[↓ypre,ypost,↓reduceIte,reduceEqDiff,reduceAdd,reduceSub,reduceLeDiff,zz0,ynew,f0,f3,f4,f5,f8,f9,f10,f11,f84]);try simp only[yback])
 refine i_PlainCost (n:=n) ?_
 generalize hP:pcR n=P
 refine WO_cut (fun f:Fr=>f 0=cv∧f 3=.pointer (some ⟨H1.length,0,none⟩)∧f 4=w1∧f 5=I64 R.2∧f 8=.pointer (some ⟨H5.length,0,none⟩)∧f 9=I64 l∧f 10=w3∧f 11=I64 S.2∧f 14=I64 n∧f 87=.tuple #[I64 P.1,I64 P.2]∧True) ⟨(by first|rfl|exact f0|simp[upd_apply,f0]),(by first|rfl|exact f3|simp[upd_apply,f3]),(by first|rfl|exact f4|simp[upd_apply,f4]),(by first|rfl|exact f5|simp[upd_apply,f5]),(by first|rfl|exact f8|simp[upd_apply,f8]),(by first|rfl|exact f9|simp[upd_apply,f9]),(by first|rfl|exact f10|simp[upd_apply,f10]),(by first|rfl|exact f11|simp[upd_apply,f11]),(by first|rfl|simp[upd_apply]),(by first|rfl|simp[upd_apply]),trivial⟩ ?_
 rintro f ⟨f0,f3,f4,f5,f8,f9,f10,f11,f14,f87,-⟩
 ((try simp (maxSteps:=3000000) (dsimp:=false) (disch:=first|omega|simp only[lnx];omega) only[↓ypre,ypost,↓reduceIte,reduceEqDiff,reduceAdd,reduceSub,reduceLeDiff,zz0,ynew,f0,f3,f4,f5,f8,f9,f10,f11,f14,f87]);try simp only[yback])
 refine s_PlainCost (n:=n) ?_
 rw[hP]
 refine WO_cut (fun f:Fr=>f 0=cv∧f 3=.pointer (some ⟨H1.length,0,none⟩)∧f 4=w1∧f 5=I64 R.2∧f 8=.pointer (some ⟨H5.length,0,none⟩)∧f 9=I64 l∧f 10=w3∧f 11=I64 S.2∧f 15=I64 P.1∧f 16=I64 P.2∧f 92=.tuple #[I64 P.1,I64 P.2]∧True) ⟨(by first|rfl|exact f0|simp[upd_apply,f0]),(by first|rfl|exact f3|simp[upd_apply,f3]),(by first|rfl|exact f4|simp[upd_apply,f4]),(by first|rfl|exact f5|simp[upd_apply,f5]),(by first|rfl|exact f8|simp[upd_apply,f8]),(by first|rfl|exact f9|simp[upd_apply,f9]),(by first|rfl|exact f10|simp[upd_apply,f10]),(by first|rfl|exact f11|simp[upd_apply,f11]),(by first|rfl|simp[upd_apply]),(by first|rfl|simp[upd_apply]),(by first|rfl|simp[upd_apply]),trivial⟩ ?_
 rintro f ⟨f0,f3,f4,f5,f8,f9,f10,f11,f15,f16,f92,-⟩
 ((try simp (maxSteps:=3000000) (dsimp:=false) (disch:=first|omega|simp only[lnx];omega) only[↓ypre,ypost,↓reduceIte,reduceEqDiff,reduceAdd,reduceSub,reduceLeDiff,zz0,ynew,f0,f3,f4,f5,f8,f9,f10,f11,f15,f16,f92,decide_eq_false (show ¬ (P.2)≠(P.2) from fun h=>h rfl),decide_eq_false (show ¬ (P.1)≠(P.1) from fun h=>h rfl)]);try simp only[yback])
 refine s_DrawMixedCost (c.pre (((p1.trans p2).trans (p3.trans p4)).trans ((p5.trans p6).trans (p7.trans (p8.trans p9))))) fun z v3 l2 b2 H10 p10 sd xz=>?_
 have hv3:=sd.now
 have o3:isOne v3=true:=hv3.one
 refine WO_cut (fun f:Fr=>f 3=.pointer (some ⟨H1.length,0,none⟩)∧f 4=w1∧f 5=I64 R.2∧f 8=.pointer (some ⟨H5.length,0,none⟩)∧f 9=I64 l∧f 10=w3∧f 11=I64 S.2∧f 105=.tuple #[schV z v3,I64 l2,I64 b2]∧True) ⟨(by first|rfl|exact f3|simp[upd_apply,f3]),(by first|rfl|exact f4|simp[upd_apply,f4]),(by first|rfl|exact f5|simp[upd_apply,f5]),(by first|rfl|exact f8|simp[upd_apply,f8]),(by first|rfl|exact f9|simp[upd_apply,f9]),(by first|rfl|exact f10|simp[upd_apply,f10]),(by first|rfl|exact f11|simp[upd_apply,f11]),(by first|rfl|simp[upd_apply]),trivial⟩ ?_
 rintro f ⟨f3,f4,f5,f8,f9,f10,f11,f105,-⟩
 ((try simp (maxSteps:=3000000) (dsimp:=false) (disch:=first|omega|simp only[lnx];omega) only[↓ypre,ypost,↓reduceIte,reduceEqDiff,reduceAdd,reduceSub,reduceLeDiff,zz0,ynew,f3,f4,f5,f8,f9,f10,f11,f105,schV,o3]);try simp only[yback])
 generalize hH11:AH.new H10 _=H11
 obtain⟨g11,p11,n11⟩:=new_facts hH11
 ((try simp (maxSteps:=3000000) (dsimp:=false) (disch:=first|omega|simp only[lnx];omega) only[↓ypre,ypost,↓reduceIte,reduceEqDiff,reduceAdd,reduceSub,reduceLeDiff,zz0,ynew,f3,f4,f5,f8,f9,f10,f11,f105,rdn_of g11]);try simp only[yback])
 refine i_MixedCost (x:=z) (l:=l2) (b:=b2) (hv3.pre p11) xz.l fun H12 p12=>?_
 generalize hM:mcR z l2 b2=M
 refine WO_cut (fun f:Fr=>f 3=.pointer (some ⟨H1.length,0,none⟩)∧f 4=w1∧f 5=I64 R.2∧f 8=.pointer (some ⟨H5.length,0,none⟩)∧f 9=I64 l∧f 10=w3∧f 11=I64 S.2∧f 19=.pointer (some ⟨H10.length,0,none⟩)∧f 20=I64 l2∧f 21=I64 b2∧f 113=.tuple #[I64 M.1,I64 M.2]∧True) ⟨(by first|rfl|exact f3|simp[upd_apply,f3]),(by first|rfl|exact f4|simp[upd_apply,f4]),(by first|rfl|exact f5|simp[upd_apply,f5]),(by first|rfl|exact f8|simp[upd_apply,f8]),(by first|rfl|exact f9|simp[upd_apply,f9]),(by first|rfl|exact f10|simp[upd_apply,f10]),(by first|rfl|exact f11|simp[upd_apply,f11]),(by first|rfl|simp[upd_apply]),(by first|rfl|simp[upd_apply]),(by first|rfl|simp[upd_apply]),(by first|rfl|simp[upd_apply]),trivial⟩ ?_
 rintro f ⟨f3,f4,f5,f8,f9,f10,f11,f19,f20,f21,f113,-⟩
 have g11:=pre_get p12 g11
 ((try simp (maxSteps:=3000000) (dsimp:=false) (disch:=first|omega|simp only[lnx];omega) only[↓ypre,ypost,↓reduceIte,reduceEqDiff,reduceAdd,reduceSub,reduceLeDiff,zz0,ynew,f3,f4,f5,f8,f9,f10,f11,f19,f20,f21,f113,rdn_of g11]);try simp only[yback])
 refine s_MixedCost (x:=z) (l:=l2) (b:=b2) (hv3.pre (p11.trans p12)) xz.l fun H13 p13=>?_
 rw[hM]
 refine WO_cut (fun f:Fr=>f 3=.pointer (some ⟨H1.length,0,none⟩)∧f 4=w1∧f 5=I64 R.2∧f 8=.pointer (some ⟨H5.length,0,none⟩)∧f 9=I64 l∧f 10=w3∧f 11=I64 S.2∧f 20=I64 l2∧f 21=I64 b2∧f 22=I64 M.1∧f 23=I64 M.2∧f 120=.tuple #[I64 M.1,I64 M.2]∧True) ⟨(by first|rfl|exact f3|simp[upd_apply,f3]),(by first|rfl|exact f4|simp[upd_apply,f4]),(by first|rfl|exact f5|simp[upd_apply,f5]),(by first|rfl|exact f8|simp[upd_apply,f8]),(by first|rfl|exact f9|simp[upd_apply,f9]),(by first|rfl|exact f10|simp[upd_apply,f10]),(by first|rfl|exact f11|simp[upd_apply,f11]),(by first|rfl|exact f20|simp[upd_apply,f20]),(by first|rfl|exact f21|simp[upd_apply,f21]),(by first|rfl|simp[upd_apply]),(by first|rfl|simp[upd_apply]),(by first|rfl|simp[upd_apply]),trivial⟩ ?_
 rintro f ⟨f3,f4,f5,f8,f9,f10,f11,f20,f21,f22,f23,f120,-⟩
 refine WO_join2 (fun f h'=>(f 3=.pointer (some ⟨H1.length,0,none⟩)∧f 4=w1∧f 5=I64 R.2∧f 20=I64 l2∧f 21=I64 b2∧f 22=I64 M.1∧f 23=I64 M.2)∧H13<+:h') ?_ ?_
 ·skip
  by_cases zs:S.2=0
  case neg=>
   ((try simp (maxSteps:=3000000) (dsimp:=false) (disch:=first|omega|simp only[lnx];omega) only[↓ypre,ypost,↓reduceIte,reduceEqDiff,reduceAdd,reduceSub,reduceLeDiff,zz0,ynew,f3,f4,f5,f8,f9,f10,f11,f20,f21,f22,f23,f120,decide_eq_false (show ¬ (M.2)≠(M.2) from fun h=>h rfl),decide_eq_false (show ¬ (M.1)≠(M.1) from fun h=>h rfl),decide_eq_false zs]);try simp only[yback])
   rw[JnQ_n]
   exact⟨⟨(by first|rfl|exact f3|(simp[upd_apply,f3];done)),(by first|rfl|exact f4|(simp[upd_apply,f4];done)),(by first|rfl|exact f5|(simp[upd_apply,f5];done)),(by first|rfl|exact f20|(simp[upd_apply,f20];done)),(by first|rfl|exact f21|(simp[upd_apply,f21];done)),(by first|rfl|exact f22|(simp[upd_apply,f22];done)),(by first|rfl|exact f23|(simp[upd_apply,f23];done))⟩,List.prefix_refl _⟩
  have g6:=pre_get ((p8.trans (p9.trans p10)).trans (p11.trans (p12.trans p13))) g6
  ((try simp (maxSteps:=3000000) (dsimp:=false) (disch:=first|omega|simp only[lnx];omega) only[↓ypre,ypost,↓reduceIte,reduceEqDiff,reduceAdd,reduceSub,reduceLeDiff,zz0,ynew,f3,f4,f5,f8,f9,f10,f11,f20,f21,f22,f23,f120,decide_eq_false (show ¬ (M.2)≠(M.2) from fun h=>h rfl),decide_eq_false (show ¬ (M.1)≠(M.1) from fun h=>h rfl),decide_eq_true zs,rdn_of g6]);try simp only[yback])
  refine i_MixedCost (x:=y) (l:=l) (b:=1) (hv2.pre (((p6.trans p7).trans (p8.trans p9)).trans ((p10.trans p11).trans (p12.trans p13)))) xy.l fun H14 p14=>?_
  generalize hD:mcR y l 1=D
  refine WO_cut (fun f:Fr=>f 3=.pointer (some ⟨H1.length,0,none⟩)∧f 4=w1∧f 5=I64 R.2∧f 10=w3∧f 20=I64 l2∧f 21=I64 b2∧f 22=I64 M.1∧f 23=I64 M.2∧f 136=.tuple #[I64 D.1,I64 D.2]∧True) ⟨(by first|rfl|exact f3|simp[upd_apply,f3]),(by first|rfl|exact f4|simp[upd_apply,f4]),(by first|rfl|exact f5|simp[upd_apply,f5]),(by first|rfl|exact f10|simp[upd_apply,f10]),(by first|rfl|exact f20|simp[upd_apply,f20]),(by first|rfl|exact f21|simp[upd_apply,f21]),(by first|rfl|exact f22|simp[upd_apply,f22]),(by first|rfl|exact f23|simp[upd_apply,f23]),(by first|rfl|simp[upd_apply]),trivial⟩ ?_
  rintro f ⟨f3,f4,f5,f10,f20,f21,f22,f23,f136,-⟩
  by_cases zd:D.2=0
  case neg=>
   ((try simp (maxSteps:=3000000) (dsimp:=false) (disch:=first|omega|simp only[lnx];omega) only[↓ypre,ypost,↓reduceIte,reduceEqDiff,reduceAdd,reduceSub,reduceLeDiff,zz0,ynew,f3,f4,f5,f10,f20,f21,f22,f23,f136,decide_eq_false zd]);try simp only[yback])
   rw[JnQ_n]
   exact⟨⟨(by first|rfl|exact f3|(simp[upd_apply,f3];done)),(by first|rfl|exact f4|(simp[upd_apply,f4];done)),(by first|rfl|exact f5|(simp[upd_apply,f5];done)),(by first|rfl|exact f20|(simp[upd_apply,f20];done)),(by first|rfl|exact f21|(simp[upd_apply,f21];done)),(by first|rfl|exact f22|(simp[upd_apply,f22];done)),(by first|rfl|exact f23|(simp[upd_apply,f23];done))⟩,p14⟩
  obtain⟨t,s,e1,e2,e3⟩:=mc_rc (x:=y) (l:=l) hv2.1.widL (by rw[hS];exact zs) (by rw[hD];exact zd)
  rw[hS] at e1
  rw[hD] at e2
  have iS:=(q3.pre ((p8.trans (p9.trans p10)).trans ((p11.trans p12).trans (p13.trans p14))))
  rw[e1] at iS
  obtain⟨mS0,qS0,ixS0,rdS0⟩:=iS.cell (j:=0) (by simp)
  have ixS0:ixsV 1 w3 (I64 0)=some (.pointer (some ⟨mS0,qS0,none⟩)):=ixS0 .i64
  have rdS0:AH.rd1 H14 mS0 qS0=some (I64 t):=rdS0
  obtain⟨mS1,qS1,ixS1,rdS1⟩:=iS.cell (j:=1) (by simp)
  have ixS1:ixsV 1 w3 (I64 1)=some (.pointer (some ⟨mS1,qS1,none⟩)):=ixS1 .i64
  have rdS1:AH.rd1 H14 mS1 qS1=some (I64 s):=rdS1
  ((try simp (maxSteps:=3000000) (dsimp:=false) (disch:=first|omega|simp only[lnx];omega) only[↓ypre,ypost,↓reduceIte,reduceEqDiff,reduceAdd,reduceSub,reduceLeDiff,zz0,ynew,f3,f4,f5,f10,f20,f21,f22,f23,f136,decide_eq_true zd,ixS0,rdS0,ixS1,rdS1,e3,e2,decide_eq_false (show ¬ t+s≠t+s from fun h=>h rfl)]);try simp only[yback])
  rw[JnQ_n]
  exact⟨⟨(by first|rfl|exact f3|(simp[upd_apply,f3];done)),(by first|rfl|exact f4|(simp[upd_apply,f4];done)),(by first|rfl|exact f5|(simp[upd_apply,f5];done)),(by first|rfl|exact f20|(simp[upd_apply,f20];done)),(by first|rfl|exact f21|(simp[upd_apply,f21];done)),(by first|rfl|exact f22|(simp[upd_apply,f22];done)),(by first|rfl|exact f23|(simp[upd_apply,f23];done))⟩,p14⟩
 rintro f HX15 ⟨⟨f3,f4,f5,f20,f21,f22,f23⟩,pX15⟩
 refine WC_joinB (fun f h'=>(f 3=.pointer (some ⟨H1.length,0,none⟩)∧f 4=w1∧f 5=I64 R.2)∧HX15<+:h') ?_ ?_
 ·skip
  by_cases zm:M.2=0
  case neg=>
   ((try simp (maxSteps:=3000000) (dsimp:=false) (disch:=first|omega|simp only[lnx];omega) only[↓ypre,ypost,↓reduceIte,reduceEqDiff,reduceAdd,reduceSub,reduceLeDiff,zz0,ynew,f3,f4,f5,f20,f21,f22,f23,decide_eq_false zm]);try simp only[yback])
   rw[JnQ_n]
   exact⟨⟨(by first|rfl|exact f3|(simp[upd_apply,f3];done)),(by first|rfl|exact f4|(simp[upd_apply,f4];done)),(by first|rfl|exact f5|(simp[upd_apply,f5];done))⟩,List.prefix_refl _⟩
  by_cases zl:l2=0
  case neg=>
   ((try simp (maxSteps:=3000000) (dsimp:=false) (disch:=first|omega|simp only[lnx];omega) only[↓ypre,ypost,↓reduceIte,reduceEqDiff,reduceAdd,reduceSub,reduceLeDiff,zz0,ynew,f3,f4,f5,f20,f21,f22,f23,decide_eq_true zm,decide_eq_false zl]);try simp only[yback])
   rw[JnQ_n]
   exact⟨⟨(by first|rfl|exact f3|(simp[upd_apply,f3];done)),(by first|rfl|exact f4|(simp[upd_apply,f4];done)),(by first|rfl|exact f5|(simp[upd_apply,f5];done))⟩,List.prefix_refl _⟩
  have pc:pcR b2=(M.1,0):=by
   have:=mc_pc (x:=z) (b:=b2)
   rw[show mcR z 0 b2=M from by rw[←hM,zl]] at this
   exact this zm
  ((try simp (maxSteps:=3000000) (dsimp:=false) (disch:=first|omega|simp only[lnx];omega) only[↓ypre,ypost,↓reduceIte,reduceEqDiff,reduceAdd,reduceSub,reduceLeDiff,zz0,ynew,f3,f4,f5,f20,f21,f22,f23,decide_eq_true zm,decide_eq_true zl]);try simp only[yback])
  refine i_PlainCost (n:=b2) ?_
  rw[pc]
  refine WO_cut (fun f:Fr=>f 3=.pointer (some ⟨H1.length,0,none⟩)∧f 4=w1∧f 5=I64 R.2∧f 22=I64 M.1∧f 160=.tuple #[I64 M.1,I64 0]∧True) ⟨(by first|rfl|exact f3|simp[upd_apply,f3]),(by first|rfl|exact f4|simp[upd_apply,f4]),(by first|rfl|exact f5|simp[upd_apply,f5]),(by first|rfl|exact f22|simp[upd_apply,f22]),(by first|rfl|simp[upd_apply]),trivial⟩ ?_
  rintro f ⟨f3,f4,f5,f22,f160,-⟩
  ((try simp (maxSteps:=3000000) (dsimp:=false) (disch:=first|omega|simp only[lnx];omega) only[↓ypre,ypost,↓reduceIte,reduceEqDiff,reduceAdd,reduceSub,reduceLeDiff,zz0,ynew,f3,f4,f5,f22,f160,decide_eq_false (show ¬ (0:Int)≠(0:Int) from fun h=>h rfl),decide_eq_false (show ¬ (M.1)≠(M.1) from fun h=>h rfl)]);try simp only[yback])
  rw[JnQ_n]
  exact⟨⟨(by first|rfl|exact f3|(simp[upd_apply,f3];done)),(by first|rfl|exact f4|(simp[upd_apply,f4];done)),(by first|rfl|exact f5|(simp[upd_apply,f5];done))⟩,List.prefix_refl _⟩
 rintro f HX16 ⟨⟨f3,f4,f5⟩,pX16⟩
 by_cases z1:R.2≠0
 case pos=>
  have e0:R.1=[]:=by have:=coS_n (x:=x);rw[hR] at this;exact this z1
  have i0:=(q1.pre (((p4.trans (p5.trans p6)).trans (p7.trans (p8.trans p9))).trans ((p10.trans (p11.trans p12)).trans (p13.trans (pX15.trans pX16)))))
  rw[e0] at i0
  have il:=i0.len
  have z_1:=show decide (((([]:List Int).length:Nat):Int)=0)=true from rfl
  ((try simp (maxSteps:=3000000) (dsimp:=false) (disch:=first|omega|simp only[lnx];omega) only[↓ypre,ypost,↓reduceIte,reduceEqDiff,reduceAdd,reduceSub,reduceLeDiff,zz0,ynew,f3,f4,f5,decide_eq_true z1,il,z_1]);try simp only[yback])
 obtain⟨hx,eR⟩:=coS_0 (x:=x) (by rw[hR];exact z1)
 rw[hR] at eR
 obtain⟨N,M',K,en,em,ek⟩:=trX_nat hx
 have hxt:=isX_turn hx hv1.1.widL en em ek
 obtain⟨a0,a1,a2,a3,eA,eB⟩:∃ a0 a1 a2 a3:Int,costL x=[a0,a1,a2,a3]∧costL (trX N M' K x)=[a0,a2,a1,a3]:=⟨_,_,_,_,rfl,cost_turn hx hv1.1.widL en em ek⟩
 have ec:coS (trX N M' K x)=([a0,a2,a1,a3],0):=by unfold coS;rw[if_pos hxt,eB]
 rw[eA] at eR
 have xtl:SmallX (trX N M' K x).ps:=by
  have:=xx.l
  unfold SmallX at this ⊢
  show (((x.ps.map _).length:Nat):Int)≤1048576
  rw[List.length_map]
  exact this
 have g2:=pre_get (((p4.trans (p5.trans p6)).trans (p7.trans (p8.trans p9))).trans ((p10.trans (p11.trans p12)).trans (p13.trans (pX15.trans pX16)))) g2
 ((try simp (maxSteps:=3000000) (dsimp:=false) (disch:=first|omega|simp only[lnx];omega) only[↓ypre,ypost,↓reduceIte,reduceEqDiff,reduceAdd,reduceSub,reduceLeDiff,zz0,ynew,f3,f4,f5,decide_eq_false z1,rdn_of g2]);try simp only[yback])
 refine i_TransposeScheme (x:=x) (hv1.pre (((p2.trans (p3.trans p4)).trans ((p5.trans p6).trans (p7.trans p8))).trans ((p9.trans (p10.trans p11)).trans ((p12.trans p13).trans (pX15.trans pX16))))) hx en em ek fun v5 H17 p17 hv5=>?_
 have o5:isOne v5=true:=hv5.one
 generalize hT:trX N M' K x=T at *
 refine WO_cut (fun f:Fr=>f 4=w1∧f 177=.tuple #[schV T v5,I64 0]∧True) ⟨(by first|rfl|exact f4|simp[upd_apply,f4]),(by first|rfl|simp[upd_apply]),trivial⟩ ?_
 rintro f ⟨f4,f177,-⟩
 ((try simp (maxSteps:=3000000) (dsimp:=false) (disch:=first|omega|simp only[lnx];omega) only[↓ypre,ypost,↓reduceIte,reduceEqDiff,reduceAdd,reduceSub,reduceLeDiff,zz0,ynew,f4,f177,schV,o5]);try simp only[yback])
 generalize hH18:AH.new H17 _=H18
 obtain⟨g18,p18,n18⟩:=new_facts hH18
 ((try simp (maxSteps:=3000000) (dsimp:=false) (disch:=first|omega|simp only[lnx];omega) only[↓ypre,ypost,↓reduceIte,reduceEqDiff,reduceAdd,reduceSub,reduceLeDiff,zz0,ynew,f4,f177,rdn_of g18]);try simp only[yback])
 refine i_CostOf (x:=T) (hv5.pre p18) xtl fun w6 H19 p19 q6=>?_
 rw[ec] at q6 ⊢
 have q6:=q6.ints
 refine WO_cut (fun f:Fr=>f 4=w1∧f 31=I64 0∧f 182=.tuple #[w6,I64 0]∧True) ⟨(by first|rfl|exact f4|simp[upd_apply,f4]),(by first|rfl|simp[upd_apply]),(by first|rfl|simp[upd_apply]),trivial⟩ ?_
 rintro f ⟨f4,f31,f182,-⟩
 have iA:=(q1.pre (((p4.trans (p5.trans p6)).trans ((p7.trans p8).trans (p9.trans p10))).trans (((p11.trans p12).trans (p13.trans pX15)).trans ((pX16.trans p17).trans (p18.trans p19)))))
 rw[eR] at iA
 obtain⟨mA0,qA0,ixA0,rdA0⟩:=iA.cell (j:=0) (by simp)
 have ixA0:ixsV 1 w1 (I64 0)=some (.pointer (some ⟨mA0,qA0,none⟩)):=ixA0 .i64
 have rdA0:AH.rd1 H19 mA0 qA0=some (I64 a0):=rdA0
 obtain⟨mA1,qA1,ixA1,rdA1⟩:=iA.cell (j:=1) (by simp)
 have ixA1:ixsV 1 w1 (I64 1)=some (.pointer (some ⟨mA1,qA1,none⟩)):=ixA1 .i64
 have rdA1:AH.rd1 H19 mA1 qA1=some (I64 a1):=rdA1
 obtain⟨mA2,qA2,ixA2,rdA2⟩:=iA.cell (j:=2) (by simp)
 have ixA2:ixsV 1 w1 (I64 2)=some (.pointer (some ⟨mA2,qA2,none⟩)):=ixA2 .i64
 have rdA2:AH.rd1 H19 mA2 qA2=some (I64 a2):=rdA2
 obtain⟨mA3,qA3,ixA3,rdA3⟩:=iA.cell (j:=3) (by simp)
 have ixA3:ixsV 1 w1 (I64 3)=some (.pointer (some ⟨mA3,qA3,none⟩)):=ixA3 .i64
 have rdA3:AH.rd1 H19 mA3 qA3=some (I64 a3):=rdA3
 have iB:=q6
 obtain⟨mB0,qB0,ixB0,rdB0⟩:=iB.cell (j:=0) (by simp)
 have ixB0:ixsV 1 w6 (I64 0)=some (.pointer (some ⟨mB0,qB0,none⟩)):=ixB0 .i64
 have rdB0:AH.rd1 H19 mB0 qB0=some (I64 a0):=rdB0
 obtain⟨mB1,qB1,ixB1,rdB1⟩:=iB.cell (j:=1) (by simp)
 have ixB1:ixsV 1 w6 (I64 1)=some (.pointer (some ⟨mB1,qB1,none⟩)):=ixB1 .i64
 have rdB1:AH.rd1 H19 mB1 qB1=some (I64 a2):=rdB1
 obtain⟨mB2,qB2,ixB2,rdB2⟩:=iB.cell (j:=2) (by simp)
 have ixB2:ixsV 1 w6 (I64 2)=some (.pointer (some ⟨mB2,qB2,none⟩)):=ixB2 .i64
 have rdB2:AH.rd1 H19 mB2 qB2=some (I64 a1):=rdB2
 obtain⟨mB3,qB3,ixB3,rdB3⟩:=iB.cell (j:=3) (by simp)
 have ixB3:ixsV 1 w6 (I64 3)=some (.pointer (some ⟨mB3,qB3,none⟩)):=ixB3 .i64
 have rdB3:AH.rd1 H19 mB3 qB3=some (I64 a3):=rdB3
 ((try simp (maxSteps:=3000000) (dsimp:=false) (disch:=first|omega|simp only[lnx];omega) only[↓ypre,ypost,↓reduceIte,reduceEqDiff,reduceAdd,reduceSub,reduceLeDiff,zz0,ynew,f4,f31,f182,decide_eq_true (show (0:Int)=(0:Int) from rfl),ixA0,rdA0,ixB0,rdB0,decide_eq_true (show (a0)=(a0) from rfl),ixA1,rdA1,ixB2,rdB2,decide_eq_true (show (a1)=(a1) from rfl),ixA2,rdA2,ixB1,rdB1,decide_eq_true (show (a2)=(a2) from rfl),ixA3,rdA3,ixB3,rdB3,decide_eq_true (show (a3)=(a3) from rfl)]);try simp only[yback])
end Go.Proofs.Ytapafdpnmakekaa.X

set_option linter.unusedVariables false
set_option linter.unusedSimpArgs false
namespace Go.Proofs.Ytapafdpnmakekaa.X
open Go Go.RowKit Go.ChangeShapes Go.WideShapes Go.Deep
structure Adm (P:Program) (W:World) (γ:List G) (h:AH):Prop where
 rel:Rel P W.heap.size γ h W
 ro:∀ n b,h.get n=some b→b.ro=true
theorem Adm.nil (P:Program) (W:World):Adm P W [] [] where
 rel:={
  len:=rfl
  cell:=fun n b g h=>by simp[AH.get] at h
  rw:=fun n b g h=>by simp[AH.get] at h
  ro:=fun n b g h=>by simp[AH.get] at h
  inj:=fun n m bn bm g g' h=>by simp[AH.get] at h
  base:=Nat.le_refl _ }
 ro:=fun n b h=>by simp[AH.get] at h
theorem Adm.new {P:Program} {W:World} {γ:List G} {h:AH} (A:Adm P W γ h) {g:G} {cs:List Value} {e:TypeId} (hb:g.b<W.heap.size)
  (hc:∀ j v,cs[j]?=some v→isOne v=true∧∃ v',W.cell? ⟨g.b,g.o+j,none⟩=some v'∧VR γ v v'):Adm P W (γ++[g]) (h.new ⟨cs,e,true,false⟩):=by
 have hl:=A.rel.len
 have hp:γ<+:γ++[g]:=List.prefix_append _ _
 have old:∀ {n:Nat} {g':G},n<h.length→(γ++[g])[n]?=some g'→γ[n]?=some g':=fun hn hg=>by
  rw[List.getElem?_append_left (by omega)] at hg
  exact hg
 have new:∀ {g':G},(γ++[g])[h.length]?=some g'→g'=g:=fun hg=>by
  rw[←hl] at hg
  simpa using hg.symm
 refine⟨⟨by simp[len_new,hl],?_,?_,?_,?_,Nat.le_refl _⟩,?_⟩
 ·intro n b g' hb' hg' j v hv
  rcases get_new_cases hb' with hb'|⟨rfl,rfl⟩
  ·obtain⟨q1,v',q2,q3⟩:=A.rel.cell n b g' hb' (old (get_lt hb') hg') j v hv
   exact⟨q1,v',q2,q3.mono hp⟩
  ·obtain rfl:=new hg'
   obtain⟨q1,v',q2,q3⟩:=hc j v hv
   exact⟨q1,v',q2,q3.mono hp⟩
 ·intro n b g' hb' hg' hro
  rcases get_new_cases hb' with hb'|⟨rfl,rfl⟩
  ·rw[A.ro n b hb'] at hro
   cases hro
  ·cases hro
 ·intro n b g' hb' hg' hro
  rcases get_new_cases hb' with hb'|⟨rfl,rfl⟩
  ·exact A.rel.ro n b g' hb' (old (get_lt hb') hg') hro
  ·obtain rfl:=new hg'
   exact hb
 ·intro n m bn bm g1 g2 h1 h2 h3 h4 hro
  rcases get_new_cases h1 with hb'|⟨rfl,rfl⟩
  ·rw[A.ro n bn hb'] at hro
   cases hro
  ·cases hro
 ·intro n b hb'
  rcases get_new_cases hb' with hb'|⟨rfl,rfl⟩
  ·exact A.ro n b hb'
  ·rfl
section
variable {H:Type} {enc:TypeId×Value→H} {P:Program} {W:World}
theorem add_off (a:Addr) (ha:a.spot=none) (i:Nat):a.add i=⟨a.block,a.off+i,none⟩:=by
 unfold Addr.add
 split
 ·rename_i h0
  subst h0
  obtain⟨b,o,s⟩:=a
  simp at ha
  subst ha
  rfl
 ·rfl
theorem adm_ints {γ:List G} {h:AH} (A:Adm P W γ h) {t e:TypeId} {n:Nat} {cs:List Value} {x:DataW H×List MemPlace} (ht:P.underlying t=some (.slice e)) (he:P.underlying e=some (.int .i64))
  (hc:P.cellsOf e=1) (hx:DataW.trod enc P W 0 (fun _=>true) true n t cs=some x) :
  ∃ v' v ns γ' h',cs=[v']∧γ<+:γ'∧h<+:h'∧Adm P W γ' h'∧VR γ' v v'∧Ints h' v ns∧ns.length≤maxLen:=by
 rcases open_slice1 ht hc hx with⟨rfl,_⟩|⟨a,len,cap,m,n',V,D,Pl,rfl,hb,hl,hm,hmm,_,hcell⟩
 ·exact⟨_,.slice none 0 0,[],γ,h,rfl,List.prefix_refl _,List.prefix_refl _,A,.nils,.inl ⟨rfl,0,by omega,rfl⟩,Nat.zero_le _⟩
 ·by_cases h0:len=0
  ·subst h0
   exact⟨_,.slice none 0 1,[],γ,h,rfl,List.prefix_refl _,List.prefix_refl _,A,.emp _ _,.inl ⟨rfl,1,by omega,rfl⟩,Nat.zero_le _⟩
  ·have hcell:∀ i,i<cap→W.cell? (a.add i)=some (V i)∧DataW.trod enc P W 0 (fun _=>true) true n' e [V i]=some (D i,Pl i):=fun i hi=>hcell i (by rw[show m=cap from hmm];exact hi)
   have hz:=(hcell 0 (by omega)).1
   have hsp:a.spot=none:=by
    simp only[Addr.add,if_true] at hz
    unfold World.cell? at hz
    split at hz
    ·split at hz
     ·cases hz
     ·rename_i hs
      simpa using hs
    ·cases hz
   have hbl:a.block<W.heap.size:=by
    have:=World.block_lt_of_cell? W _ hz
    simpa [Addr.add] using this
   have hV:∀ i,i<len→∃ k,V i=.int .i64 k:=fun i hi=>by
    obtain⟨k,hk,_⟩:=DataW.trod_int he (hcell i (by omega)).2
    exact⟨k,by simpa using hk⟩
   let ns:List Int:=(List.range len).map fun i=>match V i with
    | .int _ k=>k
    | _=>0
   have hns:ns.length=len:=by simp[ns]
   have hget:∀ i,i<len→ns.getD i 0=(match V i with
    | .int _ k=>k
    | _=>0):=fun i hi=>by simp[ns,List.getD_eq_getElem?_getD,List.getElem?_map,List.getElem?_range hi]
   refine⟨_,.slice (some ⟨h.length,0,none⟩) ns.length 1,ns,γ++[⟨a.block,a.off,cap⟩],h.new ⟨ns.map (Value.int .i64),e,true,false⟩,rfl,List.prefix_append _ _,pre_new (List.prefix_refl _),?_,?_,
    Ints.own get_new_same rfl,by rw[hns];omega⟩
   ·refine A.new hbl fun j v hv=>?_
    rw[List.getElem?_map] at hv
    obtain⟨k,hk,rfl⟩:=Option.map_eq_some_iff.1 hv
    have hj:j<len:=by rw[←hns];exact (List.getElem?_eq_some_iff.1 hk).1
    obtain⟨k',hk'⟩:=hV j hj
    have hg:=hget j hj
    rw[List.getD_eq_getElem?_getD,hk,hk'] at hg
    simp only[Option.getD_some] at hg
    subst hg
    refine⟨rfl,_,?_,.int _ _⟩
    have:=(hcell j (by omega)).1
    rw[add_off a hsp,hk'] at this
    exact this
   ·have:=VR.slc (γ:=γ++[⟨a.block,a.off,cap⟩]) h.length 0 ns.length 1 ⟨a.block,a.off,cap⟩ (by rw[←A.rel.len];simp) (by omega) (by simp only;omega)
    have e1:(some a:Option Addr)=some ⟨a.block,a.off+0,none⟩:=by
     obtain⟨b,o,s⟩:=a
     simp at hsp
     subst hsp
     rfl
    rw[e1]
    have e2:(cap-0) / 1=cap:=by simp
    rw[←hns,show (Value.slice (some ⟨a.block,a.off+0,none⟩) ns.length cap)=Value.slice (some ⟨a.block,a.off+0,none⟩) ns.length ((cap-0) / 1) by rw[e2]]
    exact this
theorem trod_field {t:TypeId} {fs:Array Field} {n:Nat} {cs:List Value} {x:DataW H×List MemPlace} (hs:P.underlying t=some (.struct fs)) (hx:DataW.trod enc P W 0 (fun _=>true) true n t cs=some x)
  {i:Nat} {f:Field} (hf:fs[i]?=some f):∃ m y,DataW.trod enc P W 0 (fun _=>true) true m f.type ((cs.drop f.offset).take (P.cellsOf f.type))=some y:=by
 obtain⟨xs,m,_,_,_,hl,hall⟩:=DataW.trod_struct hs hx
 have hi:i<xs.length:=by
  rw[hl]
  exact (Array.getElem?_eq_some_iff.1 hf).1
 exact⟨m,xs[i],by rw[hall i f hf,List.getElem?_eq_getElem hi]⟩
theorem trod_cells {t:TypeId} {fs:Array Field} {n:Nat} {cs:List Value} {x:DataW H×List MemPlace} (hs:P.underlying t=some (.struct fs)) (hx:DataW.trod enc P W 0 (fun _=>true) true n t cs=some x):cs.length=P.cellsOf t:=by
 obtain⟨xs,m,_,_,hl,_,_⟩:=DataW.trod_struct hs hx
 exact hl
theorem trod_field_int {t:TypeId} {fs:Array Field} {n:Nat} {cs:List Value} {x:DataW H×List MemPlace} (hs:P.underlying t=some (.struct fs)) (hx:DataW.trod enc P W 0 (fun _=>true) true n t cs=some x)
  {i:Nat} {f:Field} (hf:fs[i]?=some f) (ht:P.underlying f.type=some (.int .i64)):∃ k,(cs.drop f.offset).take (P.cellsOf f.type)=[I64 k]∧(Lit.int .i64 k).wf=true:=by
 obtain⟨m,y,hy⟩:=trod_field hs hx hf
 obtain⟨k,h1,_,h2⟩:=DataW.trod_int ht hy
 exact⟨k,h1,h2⟩
theorem agg_of_cells {v:Value} {l:List Value} (h:v.cells.toList=l) (h2:2≤l.length):v=.agg l.toArray:=by
 cases v with
 | agg cs=>
  simp only[Value.cells] at h
  rw[←h]
 | _=>
  simp only[Value.cells] at h
  rw[←h] at h2
  simp at h2
theorem adm_ints4 {γ:List G} {h:AH} (A:Adm P W γ h) {t e:TypeId} {f0 f1 f2 f3 f4:Field} {v:Value} {d:DataW H} {ps:List MemPlace} (hs:P.underlying t=some (.struct #[f0,f1,f2,f3,f4]))
  (hct:P.cellsOf t=5) (ho:f0.offset=0∧f1.offset=1∧f2.offset=2∧f3.offset=3∧f4.offset=4)
  (hi:P.underlying f0.type=some (.int .i64)∧P.underlying f1.type=some (.int .i64)∧P.underlying f2.type=some (.int .i64)∧P.underlying f3.type=some (.int .i64))
  (hc:P.cellsOf f0.type=1∧P.cellsOf f1.type=1∧P.cellsOf f2.type=1∧P.cellsOf f3.type=1∧P.cellsOf f4.type=1)
  (ht:P.underlying f4.type=some (.slice e)) (he:P.underlying e=some (.int .i64)) (hce:P.cellsOf e=1) (hx:DataW.Trod enc P W 0 (fun _=>true) true t v d ps) :
  ∃ a b c d ns v' γ' h',γ<+:γ'∧h<+:h'∧Adm P W γ' h'∧VR γ' (.agg #[I64 a,I64 b,I64 c,I64 d,v']) v∧Ints h' v' ns∧ns.length≤maxLen:=by
 obtain⟨n,hx⟩:=hx
 have hl:=trod_cells hs hx
 rw[hct] at hl
 obtain⟨a,ha,_⟩:=trod_field_int hs hx (i:=0) (f:=f0) rfl hi.1
 obtain⟨b,hb,_⟩:=trod_field_int hs hx (i:=1) (f:=f1) rfl hi.2.1
 obtain⟨c,hcc,_⟩:=trod_field_int hs hx (i:=2) (f:=f2) rfl hi.2.2.1
 obtain⟨d,hd,_⟩:=trod_field_int hs hx (i:=3) (f:=f3) rfl hi.2.2.2
 obtain⟨m,y,hy⟩:=trod_field hs hx (i:=4) (f:=f4) rfl
 obtain⟨v',u,ns,γ',h',e1,q1,q2,q3,q4,q5,q6⟩:=adm_ints A ht he hce hy
 generalize hcs:v.cells.toList=cs at *
 rw[ho.1,hc.1] at ha
 rw[ho.2.1,hc.2.1] at hb
 rw[ho.2.2.1,hc.2.2.1] at hcc
 rw[ho.2.2.2.1,hc.2.2.2.1] at hd
 rw[ho.2.2.2.2,hc.2.2.2.2] at e1
 obtain⟨c0,c1,c2,c3,c4,rfl⟩:∃ c0 c1 c2 c3 c4,cs=[c0,c1,c2,c3,c4]:=by
  match cs,hl with
  | [c0,c1,c2,c3,c4],_=>exact⟨_,_,_,_,_,rfl⟩
 simp at ha hb hcc hd e1
 subst ha hb hcc hd e1
 refine⟨a,b,c,d,ns,u,γ',h',q1,q2,q3,?_,q5,q6⟩
 rw[agg_of_cells hcs (by simp)]
 exact VR.aggL (VRL.cons (.int _ _) (VRL.cons (.int _ _) (VRL.cons (.int _ _) (VRL.cons (.int _ _) (VRL.cons q4 (VRL.nil _))))))
def tyInt (P:Program) (t:TypeId):Bool:=match P.underlying t with
 | some (.int .i64)=>true
 | _=>false
def tySlice (P:Program) (t e:TypeId):Bool:=match P.underlying t with
 | some (.slice e')=>e'==e
 | _=>false
theorem tyInt_eq {t:TypeId} (h:tyInt P t=true):P.underlying t=some (.int .i64):=by
 unfold tyInt at h
 split at h
 ·assumption
 ·cases h
theorem tySlice_eq {t e:TypeId} (h:tySlice P t e=true):P.underlying t=some (.slice e):=by
 unfold tySlice at h
 split at h
 ·rename_i e' he
  have:e'=e:=by simpa using h
  rw[he,this]
 ·cases h
def isInts4 (P:Program) (t e:TypeId):Bool:=match P.underlying t with
 | some (.struct fs)=>match fs.toList with
  | [f0,f1,f2,f3,f4]=>P.cellsOf t==5&&f0.offset==0&&f1.offset==1&&f2.offset==2&&f3.offset==3&&f4.offset==4 &&
    [f0,f1,f2,f3].all (fun f=>tyInt P f.type&&P.cellsOf f.type==1)&&P.cellsOf f4.type==1&&tySlice P f4.type e &&
    tyInt P e&&P.cellsOf e==1
  | _=>false
 | _=>false
theorem adm_tensor {γ:List G} {h:AH} (A:Adm P W γ h) {t:TypeId} (e:TypeId) (hk:isInts4 P t e=true) {v:Value} {d:DataW H} {ps:List MemPlace} (hx:DataW.Trod enc P W 0 (fun _=>true) true t v d ps) :
  ∃ a b c d ns v' γ' h',γ<+:γ'∧h<+:h'∧Adm P W γ' h'∧VR γ' (.agg #[I64 a,I64 b,I64 c,I64 d,v']) v∧Ints h' v' ns∧ns.length≤maxLen:=by
 unfold isInts4 at hk
 split at hk
 ·rename_i fs hs
  split at hk
  ·rename_i f0 f1 f2 f3 f4 hf
   have hfs:fs=#[f0,f1,f2,f3,f4]:=by
    rw[←hf]
   subst hfs
   simp only[List.all_cons,List.all_nil,Bool.and_true,Bool.and_eq_true,beq_iff_eq] at hk
   obtain⟨⟨⟨⟨⟨⟨⟨⟨⟨⟨k0,k1⟩,k2⟩,k3⟩,k4⟩,k5⟩,⟨i0,c0⟩,⟨i1,c1⟩,⟨i2,c2⟩,⟨i3,c3⟩⟩,c4⟩,s4⟩,ie⟩,ce⟩:=hk
   exact adm_ints4 A hs k0 ⟨k1,k2,k3,k4,k5⟩ ⟨tyInt_eq i0,tyInt_eq i1,tyInt_eq i2,tyInt_eq i3⟩ ⟨c0,c1,c2,c3,c4⟩ (tySlice_eq s4) (tyInt_eq ie) ce hx
  ·cases hk
 ·cases hk
theorem stays_all (hl:laidOutB P=true) {W W':World} (bel:Below W.heap.size W W'):∀ {ts:List TypeId} {vs:List Value} {ds:List (DataW H)} {ps:List MemPlace},
  (∀ t∈ts,P.readableRec t=true∧t<P.types.size)→DataW.TrodAll enc P W 0 (fun _=>true) true ts vs ds ps→DataW.TrodAll enc P W' 0 (fun b=>decide (b<W.heap.size)) true ts vs ds ps
 | [],[],[],_,_,h=>h
 | _::_,_::_,_::_,_,ht,⟨p,q,h1,h2,e⟩=>by
  have hlt:∀ r∈p,r.block<W.heap.size:=by
   have hall:DataW.TrodAll enc P W 0 (fun _=>true) true [_] [_] [_] p:=trodAll_mk1 h1
   exact hall.lt
  refine⟨p,q,Go.WideElems.Trod_stays hl (ht _ (List.mem_cons.2 (.inl rfl))).1 (ht _ (List.mem_cons.2 (.inl rfl))).2 h1 (fun r hr=>bel.same (hlt r hr)) (fun r hr=>by simpa using hlt r hr),?_,e⟩
  exact stays_all hl bel (fun t ht'=>ht t (List.mem_cons.2 (.inr ht'))) h2
theorem calls_of_WF {S:XS} (hm:P.follows .mixedOrders=true) (hE:ESound P S.E) (hT:TSound P S.T) {g:FuncId} {args args':List Value} {γ:List G} {h:AH} {W:World} {Q:Value→AH→Prop}
  (A:Adm P W γ h) (hv:VRL γ args args') (hw:WF S g args h Q) :
  Calls P g args'.toArray W (fun e W'=>∃ v v' γ' h',e=.returned v'∧VR γ' v v'∧Q v h'∧Below W.heap.size W W'):=by
 obtain⟨k,v,h',h1,h2⟩:=hw
 have:=(xcall_sound hm hE hT k g args h v h' h1).2 W.heap.size γ W args' A.rel hv
 refine this.mono fun e W' ⟨γ',v',q1,q2,q3⟩=>⟨v,v',γ',h',q1,q2,h2,?_⟩
 refine⟨q3.os,q3.tape,q3.output,q3.size,fun b hb=>q3.frame b hb fun ⟨n,blk,g,o1,o2,o3,o4⟩=>?_⟩
 rw[A.ro n blk o1] at o3
 cases o3
end
section
variable {H:Type} {enc:TypeId×Value→H} {P:Program} {W:World}
theorem cells_of_slice {t e:TypeId} {v:Value} {r:Reach} {base:Nat} (ht:P.underlying t=some (.slice e)) (hval:Value.okWide P W r base t v):v.cells.toList=[v]:=by
 cases v with
 | agg cs=>simp[Value.okWide,ht,Cell.okWide,Cell.ok] at hval
 | _=>rfl
end
theorem u8_in {n:Int} (h:(Lit.int .u8 n).wf=true):0≤n∧n≤255:=by
 simp[Lit.wf,IntKind.min,IntKind.max,IntKind.signed,IntKind.bits] at h
 omega
def sideBy (P:Program):List Field→Nat→Nat→Bool
 | [],o,m=>o==m
 | f::fs,o,m=>f.offset==o&&sideBy P fs (o+P.cellsOf f.type) m
def flatK (P:Program) (k:IntKind):Nat→TypeId→Bool
 | 0,_=>false
 | f+1,t=>match P.underlying t with
  | some (.int k')=>decide (k'=k)&&P.cellsOf t==1
  | some (.array n e)=>flatK P k f e&&P.cellsOf t==n*P.cellsOf e
  | some (.struct fs)=>sideBy P fs.toList 0 (P.cellsOf t)&&fs.toList.all fun x=>flatK P k f x.type
  | _=>false
theorem sideBy_at {P:Program}:∀ {fs:List Field} {o m j:Nat},sideBy P fs o m=true→o≤j→j<m→∃ (i:Nat) (f:Field),fs[i]?=some f∧f.offset≤j∧j<f.offset+P.cellsOf f.type
 | [],o,m,j,h,h1,h2=>by
  simp only[sideBy,beq_iff_eq] at h
  omega
 | f::fs,o,m,j,h,h1,h2=>by
  simp only[sideBy,Bool.and_eq_true,beq_iff_eq] at h
  by_cases hj:j<o+P.cellsOf f.type
  ·exact⟨0,f,rfl,by omega,by omega⟩
  ·obtain⟨i,g,q1,q2,q3⟩:=sideBy_at h.2 (by omega) h2
   exact⟨i+1,g,by rw[List.getElem?_cons_succ];exact q1,q2,q3⟩
section
variable {H:Type} {enc:TypeId×Value→H} {P:Program} {W:World} {k:IntKind}
theorem flat_trod:∀ (f:Nat) (t:TypeId) (n:Nat) (cs:List Value) (x:DataW H×List MemPlace),flatK P k f t=true→DataW.trod enc P W 0 (fun _=>true) true n t cs=some x →
  cs.length=P.cellsOf t∧∀ (j:Nat) (v:Value),cs[j]?=some v→∃ m,v=.int k m∧(Lit.int k m).wf=true
 | 0,_,_,_,_,h,_=>by cases h
 | f+1,t,n,cs,x,h,hx=>by
  unfold flatK at h
  split at h
  ·rename_i k' ht
   simp only[Bool.and_eq_true,decide_eq_true_eq,beq_iff_eq] at h
   obtain⟨rfl,hc⟩:=h
   obtain⟨m,rfl,_,hw⟩:=DataW.trod_int ht hx
   refine⟨by simpa using hc.symm,fun j v hv=>?_⟩
   have:j=0:=by
    have:=(List.getElem?_eq_some_iff.1 hv).1
    simp at this
    exact this
   subst this
   simp at hv
   exact⟨m,hv.symm,hw⟩
  ·rename_i c e ht
   simp only[Bool.and_eq_true,beq_iff_eq] at h
   obtain⟨xs,m,_,_,hl,hxs,hall⟩:=DataW.trod_array ht hx
   refine⟨hl,fun j v hv=>?_⟩
   have hj:=(List.getElem?_eq_some_iff.1 hv).1
   rw[hl,h.2] at hj
   have hc:0<P.cellsOf e:=Nat.pos_of_ne_zero fun e0=>by rw[e0] at hj;simp at hj
   have hi:j / P.cellsOf e<c:=Nat.div_lt_of_lt_mul (by rw[Nat.mul_comm];exact hj)
   have hy:=hall _ hi
   rw[List.getElem?_eq_getElem (by omega)] at hy
   have hdm:=Nat.div_add_mod j (P.cellsOf e)
   rw[Nat.mul_comm] at hdm
   refine (flat_trod f e m _ _ h.1 hy).2 (j%P.cellsOf e) v ?_
   rw[List.getElem?_take,if_pos (Nat.mod_lt _ hc),List.getElem?_drop,hdm]
   exact hv
  ·rename_i fs ht
   simp only[Bool.and_eq_true] at h
   obtain⟨xs,m,_,_,hl,hxs,hall⟩:=DataW.trod_struct ht hx
   refine⟨hl,fun j v hv=>?_⟩
   have hj:=(List.getElem?_eq_some_iff.1 hv).1
   rw[hl] at hj
   obtain⟨i,g,q1,q2,q3⟩:=sideBy_at h.1 (Nat.zero_le _) hj
   have q1':fs[i]?=some g:=by simpa using q1
   have hy:=hall i g q1'
   have hi:i<xs.length:=by
    rw[hxs]
    exact (Array.getElem?_eq_some_iff.1 q1').1
   rw[List.getElem?_eq_getElem hi] at hy
   have hg:flatK P k f g.type=true:=List.all_eq_true.1 h.2 g (List.mem_of_getElem? q1)
   refine (flat_trod f g.type m _ _ hg hy).2 (j-g.offset) v ?_
   rw[List.getElem?_take,if_pos (by omega),List.getElem?_drop,show g.offset+(j-g.offset)=j by omega]
   exact hv
  ·cases h
theorem adm_elems2 {γ:List G} {h:AH} (A:Adm P W γ h) {t e:TypeId} {n w f:Nat} {cs:List Value} {x:DataW H×List MemPlace} (ht:P.underlying t=some (.slice e)) (hf:flatK P k f e=true)
  (hw:P.cellsOf e=w) (hw0:0<w) (hx:DataW.trod enc P W 0 (fun _=>true) true n t cs=some x) :
  ∃ v' v L γ' h',cs=[v']∧γ<+:γ'∧h<+:h'∧Adm P W γ' h'∧VR γ' v v'∧Els k w h' v L∧L.length≤maxLen∧(L=[]→∃ t,t≤2∧v=.slice none 0 t)∧∀ i,i<L.length→∀ j,j<w→(Lit.int k ((L.getD i []).getD j 0)).wf=true:=by
 rcases open_slice ht hx with⟨rfl,_⟩|⟨a,len,cap,m,n',D,Pl,rfl,hb,hl,hm,hmm,_,hcell⟩
 ·exact⟨_,.slice none 0 0,[],γ,h,rfl,List.prefix_refl _,List.prefix_refl _,A,.nils,.inl ⟨rfl,0,by omega,rfl⟩,Nat.zero_le _,fun _=>⟨0,by omega,rfl⟩,fun i hi=>by simp at hi⟩
 ·by_cases h0:len=0
  ·subst h0
   exact⟨_,.slice none 0 1,[],γ,h,rfl,List.prefix_refl _,List.prefix_refl _,A,.emp _ _,.inl ⟨rfl,1,by omega,rfl⟩,Nat.zero_le _,fun _=>⟨1,by omega,rfl⟩,fun i hi=>by simp at hi⟩
  ·have hmc:m=cap:=hmm
   have cell:∀ i,i<cap→∀ r,r<w→∃ z,W.cell? ((a.add (i*w)).add r)=some (.int k z)∧(Lit.int k z).wf=true:=fun i hi r hr=>by
    obtain⟨cs',h1,h2⟩:=hcell i (by omega)
    rw[hw] at h1
    obtain⟨_,hlen,hc⟩:=World.cells?_some h1
    obtain⟨_,hall⟩:=flat_trod f e n' cs' _ hf h2
    have hr':r<cs'.length:=by omega
    obtain⟨z,hz,hwf⟩:=hall r _ (List.getElem?_eq_getElem hr')
    refine⟨z,?_,hwf⟩
    rw[hc r hr,List.getElem?_eq_getElem hr',hz]
   obtain⟨z0,hz,_⟩:=cell 0 (by omega) 0 hw0
   rw[Nat.zero_mul] at hz
   have a0:a.add 0=a:=by simp[Addr.add]
   rw[a0,a0] at hz
   have hsp:a.spot=none:=by
    unfold World.cell? at hz
    split at hz
    ·split at hz
     ·cases hz
     ·rename_i hs
      simpa using hs
    ·cases hz
   have hbl:a.block<W.heap.size:=World.block_lt_of_cell? W _ hz
   have cell':∀ j,j<len*w→∃ z,W.cell? ⟨a.block,a.off+j,none⟩=some (.int k z)∧(Lit.int k z).wf=true:=fun j hj=>by
    have hi:j / w<len:=Nat.div_lt_of_lt_mul (by rw[Nat.mul_comm];exact hj)
    obtain⟨z,q1,q2⟩:=cell (j / w) (by omega) (j%w) (Nat.mod_lt _ hw0)
    refine⟨z,?_,q2⟩
    rw[add_off a hsp,add_off _ rfl] at q1
    have hdm:=Nat.div_add_mod j w
    rw[Nat.mul_comm] at hdm
    rw[show a.off+j=a.off+j / w*w+j%w by omega]
    exact q1
   obtain⟨N,hN⟩:∃ N:Nat→Int,∀ j,j<len*w→W.cell? ⟨a.block,a.off+j,none⟩=some (.int k (N j))∧(Lit.int k (N j)).wf=true:=by
    refine⟨fun j=>if hj:j<len*w then (cell' j hj).choose else 0,fun j hj=>?_⟩
    simp only[dif_pos hj]
    exact (cell' j hj).choose_spec
   let L:List (List Int):=(List.range len).map fun i=>(List.range w).map fun r=>N (i*w+r)
   have hLl:L.length=len:=by simp[L]
   have hLg:∀ i,i<len→L.getD i []=(List.range w).map fun r=>N (i*w+r):=fun i hi=>by simp[L,List.getD_eq_getElem?_getD,List.getElem?_map,List.getElem?_range hi]
   let C:List Value:=cel k ((List.range (len*w)).map N)
   have hCl:C.length=len*w:=by simp[C,cel_len]
   refine⟨_,.slice (some ⟨h.length,0,none⟩) L.length w,L,γ++[⟨a.block,a.off,cap*w⟩],h.new ⟨C,e,true,false⟩,rfl,List.prefix_append _ _,pre_new (List.prefix_refl _),?_,?_,
    .inr ⟨h.length,0,_,rfl,get_new_same,fun i hi=>?_⟩,by rw[hLl];omega,fun hL=>absurd hLl (by rw[hL];exact fun e=>h0 (by simpa using e.symm)),fun i hi j hj=>?_⟩
   ·refine A.new hbl fun j v hv=>?_
    have hj:j<len*w:=by rw[←hCl];exact (List.getElem?_eq_some_iff.1 hv).1
    have hv':C[j]?=some (.int k (N j)):=by simp[C,cel,hj]
    rw[hv'] at hv
    obtain rfl:=Option.some.inj hv
    exact⟨rfl,_,(hN j hj).1,.int _ _⟩
   ·have hcw:len*w≤cap*w:=Nat.mul_le_mul_right _ hl
    have:=VR.slc (γ:=γ++[⟨a.block,a.off,cap*w⟩]) h.length 0 L.length w ⟨a.block,a.off,cap*w⟩ (by rw[←A.rel.len];simp) hw0 (by rw[hLl];simp only;omega)
    have e1:(some a:Option Addr)=some ⟨a.block,a.off+0,none⟩:=by
     obtain⟨b,o,s⟩:=a
     simp at hsp
     subst hsp
     rfl
    rw[e1]
    have e2:(cap*w-0) / w=cap:=by rw[Nat.sub_zero];exact Nat.mul_div_cancel _ hw0
    simp only[e2,hLl] at this
    rw[hLl]
    exact this
   ·rw[hLl] at hi
    have hr:i*w+w≤len*w:=mul_row hi
    refine⟨by simp only[hCl];omega,?_⟩
    rw[hLg i hi]
    simp only[C,cel_drop,cel_take,Nat.zero_add]
    congr 1
    refine List.ext_getElem? fun r=>?_
    rw[List.getElem?_take,List.getElem?_drop,List.getElem?_map,List.getElem?_map]
    by_cases hr':r<w
    ·rw[if_pos hr',List.getElem?_range hr',List.getElem?_range (by omega)]
     rfl
    ·rw[if_neg hr',List.getElem?_eq_none (by simp;omega)]
     rfl
   ·rw[hLl] at hi
    have hr:i*w+w≤len*w:=mul_row hi
    rw[hLg i hi]
    have:((List.range w).map fun r=>N (i*w+r)).getD j 0=N (i*w+j):=by simp[List.getD_eq_getElem?_getD,List.getElem?_map,List.getElem?_range hj]
    rw[this]
    exact (hN _ (by omega)).2
theorem adm_elems {γ:List G} {h:AH} (A:Adm P W γ h) {t e:TypeId} {n w f:Nat} {cs:List Value} {x:DataW H×List MemPlace} (ht:P.underlying t=some (.slice e)) (hf:flatK P k f e=true)
  (hw:P.cellsOf e=w) (hw0:0<w) (hx:DataW.trod enc P W 0 (fun _=>true) true n t cs=some x) :
  ∃ v' v L γ' h',cs=[v']∧γ<+:γ'∧h<+:h'∧Adm P W γ' h'∧VR γ' v v'∧Els k w h' v L∧L.length≤maxLen∧∀ i,i<L.length→∀ j,j<w→(Lit.int k ((L.getD i []).getD j 0)).wf=true:=by
 obtain⟨v',v,L,γ',h',e1,q1,q2,q3,q4,q5,q6,_,q7⟩:=adm_elems2 A ht hf hw hw0 hx
 exact⟨v',v,L,γ',h',e1,q1,q2,q3,q4,q5,q6,q7⟩
end
section
variable {H:Type} {enc:TypeId×Value→H} {P:Program} {W:World}
def isByteS (P:Program) (t e:TypeId):Bool:=tySlice P t e&&flatK P .u8 1 e&&P.cellsOf e==1
theorem adm_code {γ:List G} {h:AH} (A:Adm P W γ h) {t:TypeId} (e:TypeId) (hk:isByteS P t e=true) {v:Value} {d:DataW H} {ps:List MemPlace} {r:Reach} {base:Nat} (hval:Value.okWide P W r base t v)
  (hx:DataW.Trod enc P W 0 (fun _=>true) true t v d ps) :
  ∃ L u γ' h',γ<+:γ'∧h<+:h'∧Adm P W γ' h'∧VR γ' u v∧Els .u8 1 h' u L∧Byt 1 L:=by
 simp only[isByteS,Bool.and_eq_true,beq_iff_eq] at hk
 obtain⟨⟨k1,k2⟩,k3⟩:=hk
 obtain⟨n,hx⟩:=hx
 obtain⟨v',u,L,γ',h',e1,q1,q2,q3,q4,q5,q6,q7⟩:=adm_elems A (tySlice_eq k1) k2 k3 (by decide) hx
 rw[cells_of_slice (tySlice_eq k1) hval] at e1
 have e1:v=v':=by simpa using e1
 subst e1
 exact⟨L,u,γ',h',q1,q2,q3,q4,q5,fun i hi j hj=>u8_in (q7 i hi j hj)⟩
end
end Go.Proofs.Ytapafdpnmakekaa.X

namespace Go.Proofs.Ytapafdpnmakekaa.fnCosts
open Go Go.ChangeShapes Go.WideShapes Go.ChangeAt Go.RowKit Go.Proofs.Ytapafdpnmakekaa.X
set_option linter.unusedVariables false
theorem own:ownKnob Try.prog.godebug=none:=by kernel_rfl
theorem laid:laidOutB Try.prog=true:=by kernel_rfl
theorem shapeY:isByteS Try.prog 22 5=true:=by kernel_rfl
theorem readable0:Try.prog.readableRec 22=true:=by kernel_rfl
theorem intable0:22<Try.prog.types.size:=of_decide_eq_true (by kernel_rfl)
theorem isbool:Try.prog.underlying 4=some .bool:=by kernel_rfl
theorem isint:Try.prog.underlying 2=some (.int .i64):=by kernel_rfl
set_option maxRecDepth 100000 in
theorem lifted (os:Os) (started:os.Started) (H:Type) (enc:TypeId×Value→H) :
  ReturnsInHanded {} Try.checked os 8 .any (Rows.fnCostsSpec.pre6 enc Try.prog Try.f8 Rows.fnCostsRow.domain false) (Rows.fnCostsSpec.post enc Try.prog Try.f8 false true false false):=by
 refine returnsInHanded_of_change_sized (C:=Try.checked) own started (by kernel_rfl) Try.func8
  (ChangeSpec.witness6 (enc:=enc) (C:=Try.checked) false ⟨#[],#[.slice none 0 0],[]⟩ 8 (by kernel_rfl) (by kernel_rfl) (by kernel_rfl) (by kernel_rfl)) ?_
 intro W base args ds gs before hval0 hW hcnd hsz0 _
 have hval:∀ (j:Nat) t v,Try.f8.params[j]?=some t→args[j]?=some v→Value.okWide Try.prog W .any base t v:=hval0
 have hW':=hW
 obtain⟨p,q,hA0,hV,rfl,hfz,hnd⟩:=hW
 have hA:DataW.TrodAll enc Try.prog W 0 (fun _=>true) true Try.f8.params.toList args.toList ds p:=hA0
 rw[Try.params8] at hA hval
 obtain⟨v0,vs0,d0,ds0,p0,q0,hargs0,rfl,rfl,h0,r0⟩:=trodAll_cons hA
 obtain⟨rfl,rfl,rfl⟩:=trodAll_nil r0
 obtain rfl:args=#[v0]:=by cases args;simp_all
 obtain⟨rfl,rfl⟩:=trodVars_none hV
 obtain⟨ns0,u0,γ0,g0,pg0,ph0,A0,hv0,hi0,hl0⟩:=adm_code (Adm.nil Try.prog W) 5 shapeY (hval 0 _ v0 rfl rfl) h0
 have hi0':=hi0
 have key:=law_Costs hi0' hl0
 refine (calls_of_WF (S:=S) orders esound tsound A0 (VRL.cons hv0 (VRL.nil _)) key).mono fun e W' ⟨v,u,γ1,h1,he,hvr,hb,bel⟩=>?_
 subst hb
 obtain rfl:=hvr.bool_inv
 subst he
 have st:=stays_all laid bel (ts:=[22]) (fun t ht=>by
  simp only[List.mem_cons,List.not_mem_nil,or_false] at ht
  rw[ht]
  exact⟨readable0,intable0⟩) hA
 exact⟨_,rfl,_,_,_,[],_,[],hW',trodAll_mk1 (shut_bool isbool _),st,rfl,bel.frame _,fun h=>by cases h⟩
theorem j0:Program.unfollowed Try.pinned.checked.prog 8=false:=by kernel_rfl
theorem j1:(Rows.fnCostsRow.inPlace==Program.inPlace Try.pinned.checked.prog 8)=true:=by kernel_rfl
theorem j2:(Rows.fnCostsRow.unfollowed==Program.unfollowed Try.pinned.checked.prog 8)=true:=by
 rw[j0]
 rfl
theorem j3:(Rows.fnCostsRow.recurses==Program.recurses Try.pinned.checked.prog 8)=true:=by kernel_rfl
theorem j4:(Rows.fnCostsRow.named==Program.varsNamed Try.pinned.checked.prog 8)=true:=by kernel_rfl
theorem closed:joinedFacts Try.pinned.checked.prog 8 Try.f8 Rows.fnCostsSpec Rows.fnCostsRow=true:=by
 unfold joinedFacts
 rw[j1,j2,j3,j4]
 kernel_rfl
theorem over:Rows.fnCostsRow.holds Try.pinned (OpenSpec.ofChange Rows.fnCostsSpec):=
 OpenClaim.holds_of_wide 8 Try.f8 rfl rfl rfl rfl rfl rfl rfl ⟨rfl,rfl,rfl,rfl,rfl⟩ rfl rfl rfl rfl rfl (by kernel_rfl) Try.func8 closed
  (of_decide_eq_true (by kernel_rfl)) (by unfold Func.isWrapper;first|(rw[if_pos (by decide +kernel)];kernel_rfl)|(rw[if_neg (by decide +kernel)];exact⟨rfl,rfl⟩))
  (fun os started H enc _=>lifted os started H enc)
end Go.Proofs.Ytapafdpnmakekaa.fnCosts
namespace Go.Proofs.Ytapafdpnmakekaa
theorem fnCosts_holds:Rows.FnCostsSaid:=fnCosts.over
end Go.Proofs.Ytapafdpnmakekaa
