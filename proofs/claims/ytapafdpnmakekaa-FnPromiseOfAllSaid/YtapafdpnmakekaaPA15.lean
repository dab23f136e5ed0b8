/- Texts of one claim, put together by merge.py: XA2, XHPA. -/
import Derived.Test.YtapafdpnmakekaaPA14
import Derived.Test.YtapafdpnmakekaaPA8
import Derived.Test.YtapafdpnmakekaaRows
import Derived.ProofKit
import Derived.OpenShut
import Derived.ShutString
import Derived.ChangeOld
import Derived.Below
import Derived.SizedLaws
set_option linter.unusedVariables false
set_option linter.unusedSimpArgs false
namespace Go.Proofs.Ytapafdpnmakekaa.X
open Go Go.RowKit Go.ChangeShapes Go.WideShapes Go.Deep
section
variable {H:Type} {enc:TypeId×Value→H} {P:Program} {W:World}
theorem cells_of_slice {t e:TypeId} {v:Value} {r:Reach} {base:Nat} (ht:P.underlying t=some (.slice e)) (hval:Value.okWide P W r base t v):v.cells.toList=[v]:=by
 cases v with
 | agg cs=>simp[Value.okWide,ht,Cell.okWide,Cell.ok] at hval
 | _=>rfl
def isIntS (P:Program) (t e:TypeId):Bool:=tySlice P t e&&tyInt P e&&P.cellsOf e==1
def isIntSS (P:Program) (t s e:TypeId):Bool:=tySlice P t s&&P.cellsOf s==1&&isIntS P s e
theorem adm_list {γ:List G} {h:AH} (A:Adm P W γ h) {t:TypeId} (e:TypeId) (hk:isIntS P t e=true) {v:Value} {d:DataW H} {ps:List MemPlace} {r:Reach} {base:Nat} (hval:Value.okWide P W r base t v)
  (hx:DataW.Trod enc P W 0 (fun _=>true) true t v d ps) :
  ∃ ns u γ' h',γ<+:γ'∧h<+:h'∧Adm P W γ' h'∧VR γ' u v∧Ints h' u ns∧ns.length≤maxLen:=by
 simp only[isIntS,Bool.and_eq_true,beq_iff_eq] at hk
 obtain⟨⟨k1,k2⟩,k3⟩:=hk
 obtain⟨n,hx⟩:=hx
 obtain⟨v',u,ns,γ',h',e1,q1,q2,q3,q4,q5,q6⟩:=adm_ints A (tySlice_eq k1) (tyInt_eq k2) k3 hx
 rw[cells_of_slice (tySlice_eq k1) hval] at e1
 have e1:v=v':=by simpa using e1
 subst e1
 exact⟨ns,u,γ',h',q1,q2,q3,q4,q5,q6⟩
theorem getD_snoc {α:Type} {l:List α} {x d:α} {j:Nat}:(l++[x]).getD j d=if j<l.length then l.getD j d else if j=l.length then x else d:=by
 rw[List.getD_eq_getElem?_getD,List.getD_eq_getElem?_getD]
 by_cases h:j<l.length
 ·rw[List.getElem?_append_left h,if_pos h]
 ·rw[List.getElem?_append_right (by omega),if_neg h]
  split
  ·rename_i e
   simp[e]
  ·rw[List.getElem?_eq_none (by simp;omega)]
   rfl
theorem adm_many {γ:List G} {h:AH} (A:Adm P W γ h) {e e':TypeId} (he:isIntS P e e'=true) {V:Nat→Value} {len n:Nat} (hr:∀ i,i<len→∃ x:DataW H×List MemPlace,DataW.trod enc P W 0 (fun _=>true) true n e [V i]=some x) :
  ∀ k,k≤len→∃ (γ':List G) (h':AH) (cs:List Value) (rows:List (List Int)),γ<+:γ'∧h<+:h'∧Adm P W γ' h'∧cs.length=k∧rows.length=k ∧
   ∀ j,j<k→VR γ' (cs.getD j undef) (V j)∧Ints h' (cs.getD j undef) (rows.getD j [])∧(rows.getD j []).length≤maxLen
 | 0,_=>⟨γ,h,[],[],List.prefix_refl _,List.prefix_refl _,A,rfl,rfl,fun j hj=>by omega⟩
 | k+1,hk=>by
  obtain⟨γ1,h1,cs,rows,q1,q2,q3,q4,q5,q6⟩:=adm_many A he hr k (by omega)
  have he':=he
  simp only[isIntS,Bool.and_eq_true,beq_iff_eq] at he'
  obtain⟨⟨k1,k2⟩,k3⟩:=he'
  obtain⟨x,hx⟩:=hr k (by omega)
  obtain⟨v',u,ns,γ2,h2,e1,r1,r2,r3,r4,r5,r6⟩:=adm_ints q3 (tySlice_eq k1) (tyInt_eq k2) k3 hx
  have e1:V k=v':=by simpa using e1
  subst e1
  refine⟨γ2,h2,cs++[u],rows++[ns],q1.trans r1,q2.trans r2,r3,by simp[q4],by simp[q5],fun j hj=>?_⟩
  rw[getD_snoc,getD_snoc,q4,q5]
  by_cases hjk:j<k
  ·rw[if_pos hjk,if_pos hjk]
   obtain⟨a1,a2,a3⟩:=q6 j hjk
   exact⟨a1.mono r1,a2.pre r2,a3⟩
  ·have:j=k:=by omega
   subst this
   rw[if_neg hjk,if_neg hjk,if_pos rfl,if_pos rfl]
   exact⟨r4,r5,r6⟩
theorem adm_rows {γ:List G} {h:AH} (A:Adm P W γ h) {t:TypeId} (s e:TypeId) (hk:isIntSS P t s e=true) {v:Value} {d:DataW H} {ps:List MemPlace} {r:Reach} {base:Nat} (hval:Value.okWide P W r base t v)
  (hx:DataW.Trod enc P W 0 (fun _=>true) true t v d ps) :
  ∃ (rows:List (List Int)) (u:Value) (γ':List G) (h':AH),γ<+:γ'∧h<+:h'∧Adm P W γ' h'∧VR γ' u v∧Rows h' u rows∧rows.length≤maxLen∧∀ i,i<rows.length→(rows.getD i []).length≤maxLen:=by
 simp only[isIntSS,Bool.and_eq_true,beq_iff_eq] at hk
 obtain⟨⟨k1,k2⟩,k3⟩:=hk
 obtain⟨n,hx⟩:=hx
 have hcl:=cells_of_slice (tySlice_eq k1) hval
 rcases open_slice1 (tySlice_eq k1) k2 hx with⟨hv,_⟩|⟨a,len,cap,m,n',V,D,Pl,hv,hb,hl,hm,hmm,_,hcell⟩
 ·rw[hcl] at hv
  have hv:v=.slice none 0 0:=by simpa using hv
  subst hv
  exact⟨[],.slice none 0 0,γ,h,List.prefix_refl _,List.prefix_refl _,A,.nils,⟨[],.inl ⟨rfl,0,by omega,rfl⟩,rfl,fun i hi=>by simp at hi⟩,Nat.zero_le _,fun i hi=>by simp at hi⟩
 ·rw[hcl] at hv
  have hv:v=.slice (some a) len cap:=by simpa using hv
  subst hv
  by_cases h0:len=0
  ·subst h0
   exact⟨[],.slice none 0 1,γ,h,List.prefix_refl _,List.prefix_refl _,A,.emp _ _,⟨[],.inl ⟨rfl,1,by omega,rfl⟩,rfl,fun i hi=>by simp at hi⟩,Nat.zero_le _,fun i hi=>by simp at hi⟩
  ·have hcell:∀ i,i<cap→W.cell? (a.add i)=some (V i)∧DataW.trod enc P W 0 (fun _=>true) true n' s [V i]=some (D i,Pl i):=fun i hi=>hcell i (by rw[show m=cap from hmm];exact hi)
   have hz:=(hcell 0 (by omega)).1
   have hsp:a.spot=none:=by
    simp only[Addr.add,if_true] at hz
    unfold World.cell? at hz
    split at hz
    ·split at hz
     ·cases hz
     ·rename_i hs
      simpa using hs
    ·cases hz
   have hbl:a.block<W.heap.size:=by
    have:=World.block_lt_of_cell? W _ hz
    simpa [Addr.add] using this
   obtain⟨γ1,h1,cs,rows,q1,q2,q3,q4,q5,q6⟩:=adm_many A k3 (V:=V) (len:=len) (n:=n') (fun i hi=>⟨_,(hcell i (by omega)).2⟩) len (Nat.le_refl _)
   have hget:∀ (j:Nat) (x:Value),cs[j]?=some x→j<len∧cs.getD j undef=x:=fun j x hx=>by
    refine⟨by rw[←q4];exact (List.getElem?_eq_some_iff.1 hx).1,?_⟩
    rw[List.getD_eq_getElem?_getD,hx]
    rfl
   refine⟨rows,.slice (some ⟨h1.length,0,none⟩) cs.length 1,γ1++[⟨a.block,a.off,cap⟩],h1.new ⟨cs,s,true,false⟩,q1.trans (List.prefix_append _ _),q2.trans (pre_new (List.prefix_refl _)),?_,?_,?_,by rw[q5];omega,fun i hi=>(q6 i (by omega)).2.2⟩
   ·refine q3.new hbl fun j x hx=>?_
    obtain⟨hj,hxx⟩:=hget j x hx
    obtain⟨a1,a2,_⟩:=q6 j hj
    rw[hxx] at a1 a2
    refine⟨a2.one,V j,?_,a1⟩
    have:=(hcell j (by omega)).1
    rw[add_off a hsp] at this
    exact this
   ·have:=VR.slc (γ:=γ1++[⟨a.block,a.off,cap⟩]) h1.length 0 cs.length 1 ⟨a.block,a.off,cap⟩ (by rw[←q3.rel.len];simp) (by omega) (by simp only;omega)
    have e1:(some a:Option Addr)=some ⟨a.block,a.off+0,none⟩:=by
     obtain⟨b,o,s⟩:=a
     simp at hsp
     subst hsp
     rfl
    rw[e1]
    have e2:(cap-0) / 1=cap:=by simp
    rw[show (Value.slice (some ⟨a.block,a.off+0,none⟩) len cap)=Value.slice (some ⟨a.block,a.off+0,none⟩) cs.length ((cap-0) / 1) by rw[e2,q4]]
    exact this
   ·refine⟨cs,.inr ⟨h1.length,0,_,rfl,get_new_same,by simp,fun i hi=>?_⟩,by omega,fun i hi=>((q6 i (by omega)).2.1).pre (pre_new (List.prefix_refl _))⟩
    rw[Nat.zero_add,List.getD_eq_getElem?_getD,List.getElem?_eq_getElem hi]
    rfl
end
end Go.Proofs.Ytapafdpnmakekaa.X

namespace Go.Proofs.Ytapafdpnmakekaa.fnPromiseOfAll
open Go Go.ChangeShapes Go.WideShapes Go.ChangeAt Go.RowKit Go.Proofs.Ytapafdpnmakekaa.X
set_option linter.unusedVariables false
theorem own:ownKnob Try.prog.godebug=none:=by kernel_rfl
theorem laid:laidOutB Try.prog=true:=by kernel_rfl
theorem shapeX:isSch Try.prog 26 138 .u8 4 27=true:=by kernel_rfl
theorem shapeS:isIntS Try.prog 27 2=true:=by kernel_rfl
theorem shapeM:isIntSS Try.prog 40 27 2=true:=by kernel_rfl
theorem readable0:Try.prog.readableRec 26=true:=by kernel_rfl
theorem intable0:26<Try.prog.types.size:=of_decide_eq_true (by kernel_rfl)
theorem readable1:Try.prog.readableRec 27=true:=by kernel_rfl
theorem intable1:27<Try.prog.types.size:=of_decide_eq_true (by kernel_rfl)
theorem readable2:Try.prog.readableRec 40=true:=by kernel_rfl
theorem intable2:40<Try.prog.types.size:=of_decide_eq_true (by kernel_rfl)
theorem isbool:Try.prog.underlying 4=some .bool:=by kernel_rfl
theorem isint:Try.prog.underlying 2=some (.int .i64):=by kernel_rfl
set_option maxRecDepth 100000 in
theorem lifted (os:Os) (started:os.Started) (H:Type) (enc:TypeId×Value→H) :
  ReturnsInHanded {} Try.checked os 11 .any (Rows.fnPromiseOfAllSpec.pre6 enc Try.prog Try.f11 Rows.fnPromiseOfAllRow.domain false) (Rows.fnPromiseOfAllSpec.post enc Try.prog Try.f11 false true false false):=by
 refine returnsInHanded_of_change_sized (C:=Try.checked) own started (by kernel_rfl) Try.func11
  (ChangeSpec.witness6 (enc:=enc) (C:=Try.checked) false ⟨#[],#[.agg #[.int .i64 0,.int .i64 0,.int .i64 0,.int .i64 0,.slice none 0 0],.slice none 0 0,.slice none 0 0,.slice none 0 0],[]⟩ 8 (by kernel_rfl) (by kernel_rfl) (by kernel_rfl) (by kernel_rfl)) ?_
 intro W base args ds gs before hval0 hW hcnd hsz0 _
 have hval:∀ (j:Nat) t v,Try.f11.params[j]?=some t→args[j]?=some v→Value.okWide Try.prog W .any base t v:=hval0
 have hW':=hW
 obtain⟨p,q,hA0,hV,rfl,hfz,hnd⟩:=hW
 have hA:DataW.TrodAll enc Try.prog W 0 (fun _=>true) true Try.f11.params.toList args.toList ds p:=hA0
 rw[Try.params11] at hA hval
 obtain⟨v0,vs0,d0,ds0,p0,q0,hargs0,rfl,rfl,h0,r0⟩:=trodAll_cons hA
 obtain⟨v1,vs1,d1,ds1,p1,q1,hargs1,rfl,rfl,h1,r1⟩:=trodAll_cons r0
 obtain⟨v2,vs2,d2,ds2,p2,q2,hargs2,rfl,rfl,h2,r2⟩:=trodAll_cons r1
 obtain⟨v3,vs3,d3,ds3,p3,q3,hargs3,rfl,rfl,h3,r3⟩:=trodAll_cons r2
 obtain⟨rfl,rfl,rfl⟩:=trodAll_nil r3
 obtain rfl:args=#[v0,v1,v2,v3]:=by cases args;simp_all
 obtain⟨rfl,rfl⟩:=trodVars_none hV
 obtain⟨a0,b0,c0,e0,ns0,u0,γ0,g0,pg0,ph0,A0,hv0,hy0,hl0,hn0,hw0⟩:=adm_schN (Adm.nil Try.prog W) 138 4 27 shapeX h0
 have hi0:Prods g0 u0 ns0:=⟨hy0,fun i hi j hj=>u8_in (hw0 i hi j hj)⟩
 have hl0':(ns0.length:Int)≤9223372036854775807:=by
  have:ns0.length≤2^63-1:=hl0
  omega
 obtain⟨ns1,u1,γ1,g1,pg1,ph1,A1,hv1,hi1,hl1⟩:=adm_list A0 2 shapeS (hval 1 _ v1 rfl rfl) h1
 have hl1':(ns1.length:Int)≤9223372036854775807:=by
  have:ns1.length≤2^63-1:=hl1
  omega
 obtain⟨ns2,u2,γ2,g2,pg2,ph2,A2,hv2,hi2,hl2,hm2⟩:=adm_rows A1 27 2 shapeM (hval 2 _ v2 rfl rfl) h2
 have hl2':(ns2.length:Int)≤9223372036854775807:=by
  have:ns2.length≤2^63-1:=hl2
  omega
 have hm2':∀ i,i<ns2.length→((ns2.getD i []).length:Int)≤9223372036854775807:=fun i hi=>by
  have:(ns2.getD i []).length≤2^63-1:=hm2 i hi
  omega
 obtain⟨ns3,u3,γ3,g3,pg3,ph3,A3,hv3,hi3,hl3,hm3⟩:=adm_rows A2 27 2 shapeM (hval 3 _ v3 rfl rfl) h3
 have hl3':(ns3.length:Int)≤9223372036854775807:=by
  have:ns3.length≤2^63-1:=hl3
  omega
 have hm3':∀ i,i<ns3.length→((ns3.getD i []).length:Int)≤9223372036854775807:=fun i hi=>by
  have:(ns3.getD i []).length≤2^63-1:=hm3 i hi
  omega
 have hi0':=hi0.pre (((ph1).trans ph2).trans ph3)
 have hi1':=hi1.pre ((ph2).trans ph3)
 have hi2':=hi2.pre (ph3)
 have hi3':=hi3
 have key:=law_PromiseOfAll (x:=⟨a0,b0,c0,e0,ns0⟩) hi0' hn0.nk hl0' hi1' hl1' hi2' hl2' hm2' hi3' hl3' hm3'
 refine (calls_of_WF (S:=S) orders esound tsound A3 (VRL.cons (hv0.mono (((pg1).trans pg2).trans pg3)) (VRL.cons (hv1.mono ((pg2).trans pg3)) (VRL.cons (hv2.mono (pg3)) (VRL.cons hv3 (VRL.nil _))))) key).mono fun e W' ⟨v,u,γ1,h1,he,hvr,hb,bel⟩=>?_
 subst hb
 obtain rfl:=hvr.bool_inv
 subst he
 have st:=stays_all laid bel (ts:=[26,27,40,40]) (fun t ht=>by
  simp only[List.mem_cons,List.not_mem_nil,or_false] at ht
  rcases ht with rfl|rfl|rfl|rfl
  ·exact⟨readable0,intable0⟩
  ·exact⟨readable1,intable1⟩
  ·exact⟨readable2,intable2⟩
  ·exact⟨readable2,intable2⟩) hA
 exact⟨_,rfl,_,_,_,[],_,[],hW',trodAll_mk1 (shut_bool isbool _),st,rfl,bel.frame _,fun h=>by cases h⟩
theorem j0:Program.unfollowed Try.pinned.checked.prog 11=true:=by kernel_rfl
theorem j1:(Rows.fnPromiseOfAllRow.inPlace==Program.inPlace Try.pinned.checked.prog 11)=true:=by kernel_rfl
theorem j2:(Rows.fnPromiseOfAllRow.unfollowed==Program.unfollowed Try.pinned.checked.prog 11)=true:=by
 rw[j0]
 rfl
theorem j3:(Rows.fnPromiseOfAllRow.recurses==Program.recurses Try.pinned.checked.prog 11)=true:=by
 unfold Program.recurses
 rw[j0]
 rfl
theorem j4:(Rows.fnPromiseOfAllRow.named==Program.varsNamed Try.pinned.checked.prog 11)=true:=by kernel_rfl
theorem closed:joinedFacts Try.pinned.checked.prog 11 Try.f11 Rows.fnPromiseOfAllSpec Rows.fnPromiseOfAllRow=true:=by
 unfold joinedFacts
 rw[j1,j2,j3,j4]
 kernel_rfl
theorem over:Rows.fnPromiseOfAllRow.holds Try.pinned (OpenSpec.ofChange Rows.fnPromiseOfAllSpec):=
 OpenClaim.holds_of_wide 11 Try.f11 rfl rfl rfl rfl rfl rfl rfl ⟨rfl,rfl,rfl,rfl,rfl⟩ rfl rfl rfl rfl rfl (by kernel_rfl) Try.func11 closed
  (of_decide_eq_true (by kernel_rfl)) (by unfold Func.isWrapper;first|(rw[if_pos (by decide +kernel)];kernel_rfl)|(rw[if_neg (by decide +kernel)];exact⟨rfl,rfl⟩))
  (fun os started H enc _=>lifted os started H enc)
end Go.Proofs.Ytapafdpnmakekaa.fnPromiseOfAll
namespace Go.Proofs.Ytapafdpnmakekaa
theorem fnPromiseOfAll_holds:Rows.FnPromiseOfAllSaid:=fnPromiseOfAll.over
end Go.Proofs.Ytapafdpnmakekaa
