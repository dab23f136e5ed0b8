/- Texts of one claim, put together by merge.py: XArgs, XA2, XA3, XA5, XHEQ. -/
import Derived.Test.YtapafdpnmakekaaEQ3
import Derived.Deep.Slices
import Derived.WideKeyArgs
import Derived.ChangeOld
import Derived.ChangeArms
import Derived.OpenShut
import Derived.Test.YtapafdpnmakekaaEQ7
import Derived.Test.YtapafdpnmakekaaEQ11
import Derived.Test.YtapafdpnmakekaaRows
import Derived.ProofKit
import Derived.ShutString
import Derived.Below
import Derived.SizedLaws
set_option linter.unusedVariables false
set_option linter.unusedSimpArgs false
namespace Go.Proofs.Ytapafdpnmakekaa.X
open Go Go.RowKit Go.ChangeShapes Go.WideShapes Go.Deep
structure Adm (P:Program) (W:World) (γ:List G) (h:AH):Prop where
 rel:Rel P W.heap.size γ h W
 ro:∀ n b,h.get n=some b→b.ro=true
theorem Adm.nil (P:Program) (W:World):Adm P W [] [] where
 rel:={
  len:=rfl
  cell:=fun n b g h=>by simp[AH.get] at h
  rw:=fun n b g h=>by simp[AH.get] at h
  ro:=fun n b g h=>by simp[AH.get] at h
  inj:=fun n m bn bm g g' h=>by simp[AH.get] at h
  base:=Nat.le_refl _ }
 ro:=fun n b h=>by simp[AH.get] at h
theorem Adm.new {P:Program} {W:World} {γ:List G} {h:AH} (A:Adm P W γ h) {g:G} {cs:List Value} {e:TypeId} (hb:g.b<W.heap.size)
  (hc:∀ j v,cs[j]?=some v→isOne v=true∧∃ v',W.cell? ⟨g.b,g.o+j,none⟩=some v'∧VR γ v v'):Adm P W (γ++[g]) (h.new ⟨cs,e,true,false⟩):=by
 have hl:=A.rel.len
 have hp:γ<+:γ++[g]:=List.prefix_append _ _
 have old:∀ {n:Nat} {g':G},n<h.length→(γ++[g])[n]?=some g'→γ[n]?=some g':=fun hn hg=>by
  rw[List.getElem?_append_left (by omega)] at hg
  exact hg
 have new:∀ {g':G},(γ++[g])[h.length]?=some g'→g'=g:=fun hg=>by
  rw[←hl] at hg
  simpa using hg.symm
 refine⟨⟨by simp[len_new,hl],?_,?_,?_,?_,Nat.le_refl _⟩,?_⟩
 ·intro n b g' hb' hg' j v hv
  rcases get_new_cases hb' with hb'|⟨rfl,rfl⟩
  ·obtain⟨q1,v',q2,q3⟩:=A.rel.cell n b g' hb' (old (get_lt hb') hg') j v hv
   exact⟨q1,v',q2,q3.mono hp⟩
  ·obtain rfl:=new hg'
   obtain⟨q1,v',q2,q3⟩:=hc j v hv
   exact⟨q1,v',q2,q3.mono hp⟩
 ·intro n b g' hb' hg' hro
  rcases get_new_cases hb' with hb'|⟨rfl,rfl⟩
  ·rw[A.ro n b hb'] at hro
   cases hro
  ·cases hro
 ·intro n b g' hb' hg' hro
  rcases get_new_cases hb' with hb'|⟨rfl,rfl⟩
  ·exact A.rel.ro n b g' hb' (old (get_lt hb') hg') hro
  ·obtain rfl:=new hg'
   exact hb
 ·intro n m bn bm g1 g2 h1 h2 h3 h4 hro
  rcases get_new_cases h1 with hb'|⟨rfl,rfl⟩
  ·rw[A.ro n bn hb'] at hro
   cases hro
  ·cases hro
 ·intro n b hb'
  rcases get_new_cases hb' with hb'|⟨rfl,rfl⟩
  ·exact A.ro n b hb'
  ·rfl
section
variable {H:Type} {enc:TypeId×Value→H} {P:Program} {W:World}
theorem add_off (a:Addr) (ha:a.spot=none) (i:Nat):a.add i=⟨a.block,a.off+i,none⟩:=by
 unfold Addr.add
 split
 ·rename_i h0
  subst h0
  obtain⟨b,o,s⟩:=a
  simp at ha
  subst ha
  rfl
 ·rfl
theorem adm_ints {γ:List G} {h:AH} (A:Adm P W γ h) {t e:TypeId} {n:Nat} {cs:List Value} {x:DataW H×List MemPlace} (ht:P.underlying t=some (.slice e)) (he:P.underlying e=some (.int .i64))
  (hc:P.cellsOf e=1) (hx:DataW.trod enc P W 0 (fun _=>true) true n t cs=some x) :
  ∃ v' v ns γ' h',cs=[v']∧γ<+:γ'∧h<+:h'∧Adm P W γ' h'∧VR γ' v v'∧Ints h' v ns∧ns.length≤maxLen:=by
 rcases open_slice1 ht hc hx with⟨rfl,_⟩|⟨a,len,cap,m,n',V,D,Pl,rfl,hb,hl,hm,hmm,_,hcell⟩
 ·exact⟨_,.slice none 0 0,[],γ,h,rfl,List.prefix_refl _,List.prefix_refl _,A,.nils,.inl ⟨rfl,0,by omega,rfl⟩,Nat.zero_le _⟩
 ·by_cases h0:len=0
  ·subst h0
   exact⟨_,.slice none 0 1,[],γ,h,rfl,List.prefix_refl _,List.prefix_refl _,A,.emp _ _,.inl ⟨rfl,1,by omega,rfl⟩,Nat.zero_le _⟩
  ·have hcell:∀ i,i<cap→W.cell? (a.add i)=some (V i)∧DataW.trod enc P W 0 (fun _=>true) true n' e [V i]=some (D i,Pl i):=fun i hi=>hcell i (by rw[show m=cap from hmm];exact hi)
   have hz:=(hcell 0 (by omega)).1
   have hsp:a.spot=none:=by
    simp only[Addr.add,if_true] at hz
    unfold World.cell? at hz
    split at hz
    ·split at hz
     ·cases hz
     ·rename_i hs
      simpa using hs
    ·cases hz
   have hbl:a.block<W.heap.size:=by
    have:=World.block_lt_of_cell? W _ hz
    simpa [Addr.add] using this
   have hV:∀ i,i<len→∃ k,V i=.int .i64 k:=fun i hi=>by
    obtain⟨k,hk,_⟩:=DataW.trod_int he (hcell i (by omega)).2
    exact⟨k,by simpa using hk⟩
   let ns:List Int:=(List.range len).map fun i=>match V i with
    | .int _ k=>k
    | _=>0
   have hns:ns.length=len:=by simp[ns]
   have hget:∀ i,i<len→ns.getD i 0=(match V i with
    | .int _ k=>k
    | _=>0):=fun i hi=>by simp[ns,List.getD_eq_getElem?_getD,List.getElem?_map,List.getElem?_range hi]
   refine⟨_,.slice (some ⟨h.length,0,none⟩) ns.length 1,ns,γ++[⟨a.block,a.off,cap⟩],h.new ⟨ns.map (Value.int .i64),e,true,false⟩,rfl,List.prefix_append _ _,pre_new (List.prefix_refl _),?_,?_,
    Ints.own get_new_same rfl,by rw[hns];omega⟩
   ·refine A.new hbl fun j v hv=>?_
    rw[List.getElem?_map] at hv
    obtain⟨k,hk,rfl⟩:=Option.map_eq_some_iff.1 hv
    have hj:j<len:=by rw[←hns];exact (List.getElem?_eq_some_iff.1 hk).1
    obtain⟨k',hk'⟩:=hV j hj
    have hg:=hget j hj
    rw[List.getD_eq_getElem?_getD,hk,hk'] at hg
    simp only[Option.getD_some] at hg
    subst hg
    refine⟨rfl,_,?_,.int _ _⟩
    have:=(hcell j (by omega)).1
    rw[add_off a hsp,hk'] at this
    exact this
   ·have:=VR.slc (γ:=γ++[⟨a.block,a.off,cap⟩]) h.length 0 ns.length 1 ⟨a.block,a.off,cap⟩ (by rw[←A.rel.len];simp) (by omega) (by simp only;omega)
    have e1:(some a:Option Addr)=some ⟨a.block,a.off+0,none⟩:=by
     obtain⟨b,o,s⟩:=a
     simp at hsp
     subst hsp
     rfl
    rw[e1]
    have e2:(cap-0) / 1=cap:=by simp
    rw[←hns,show (Value.slice (some ⟨a.block,a.off+0,none⟩) ns.length cap)=Value.slice (some ⟨a.block,a.off+0,none⟩) ns.length ((cap-0) / 1) by rw[e2]]
    exact this
theorem trod_field {t:TypeId} {fs:Array Field} {n:Nat} {cs:List Value} {x:DataW H×List MemPlace} (hs:P.underlying t=some (.struct fs)) (hx:DataW.trod enc P W 0 (fun _=>true) true n t cs=some x)
  {i:Nat} {f:Field} (hf:fs[i]?=some f):∃ m y,DataW.trod enc P W 0 (fun _=>true) true m f.type ((cs.drop f.offset).take (P.cellsOf f.type))=some y:=by
 obtain⟨xs,m,_,_,_,hl,hall⟩:=DataW.trod_struct hs hx
 have hi:i<xs.length:=by
  rw[hl]
  exact (Array.getElem?_eq_some_iff.1 hf).1
 exact⟨m,xs[i],by rw[hall i f hf,List.getElem?_eq_getElem hi]⟩
theorem trod_cells {t:TypeId} {fs:Array Field} {n:Nat} {cs:List Value} {x:DataW H×List MemPlace} (hs:P.underlying t=some (.struct fs)) (hx:DataW.trod enc P W 0 (fun _=>true) true n t cs=some x):cs.length=P.cellsOf t:=by
 obtain⟨xs,m,_,_,hl,_,_⟩:=DataW.trod_struct hs hx
 exact hl
theorem trod_field_int {t:TypeId} {fs:Array Field} {n:Nat} {cs:List Value} {x:DataW H×List MemPlace} (hs:P.underlying t=some (.struct fs)) (hx:DataW.trod enc P W 0 (fun _=>true) true n t cs=some x)
  {i:Nat} {f:Field} (hf:fs[i]?=some f) (ht:P.underlying f.type=some (.int .i64)):∃ k,(cs.drop f.offset).take (P.cellsOf f.type)=[I64 k]∧(Lit.int .i64 k).wf=true:=by
 obtain⟨m,y,hy⟩:=trod_field hs hx hf
 obtain⟨k,h1,_,h2⟩:=DataW.trod_int ht hy
 exact⟨k,h1,h2⟩
theorem agg_of_cells {v:Value} {l:List Value} (h:v.cells.toList=l) (h2:2≤l.length):v=.agg l.toArray:=by
 cases v with
 | agg cs=>
  simp only[Value.cells] at h
  rw[←h]
 | _=>
  simp only[Value.cells] at h
  rw[←h] at h2
  simp at h2
theorem adm_ints4 {γ:List G} {h:AH} (A:Adm P W γ h) {t e:TypeId} {f0 f1 f2 f3 f4:Field} {v:Value} {d:DataW H} {ps:List MemPlace} (hs:P.underlying t=some (.struct #[f0,f1,f2,f3,f4]))
  (hct:P.cellsOf t=5) (ho:f0.offset=0∧f1.offset=1∧f2.offset=2∧f3.offset=3∧f4.offset=4)
  (hi:P.underlying f0.type=some (.int .i64)∧P.underlying f1.type=some (.int .i64)∧P.underlying f2.type=some (.int .i64)∧P.underlying f3.type=some (.int .i64))
  (hc:P.cellsOf f0.type=1∧P.cellsOf f1.type=1∧P.cellsOf f2.type=1∧P.cellsOf f3.type=1∧P.cellsOf f4.type=1)
  (ht:P.underlying f4.type=some (.slice e)) (he:P.underlying e=some (.int .i64)) (hce:P.cellsOf e=1) (hx:DataW.Trod enc P W 0 (fun _=>true) true t v d ps) :
  ∃ a b c d ns v' γ' h',γ<+:γ'∧h<+:h'∧Adm P W γ' h'∧VR γ' (.agg #[I64 a,I64 b,I64 c,I64 d,v']) v∧Ints h' v' ns∧ns.length≤maxLen:=by
 obtain⟨n,hx⟩:=hx
 have hl:=trod_cells hs hx
 rw[hct] at hl
 obtain⟨a,ha,_⟩:=trod_field_int hs hx (i:=0) (f:=f0) rfl hi.1
 obtain⟨b,hb,_⟩:=trod_field_int hs hx (i:=1) (f:=f1) rfl hi.2.1
 obtain⟨c,hcc,_⟩:=trod_field_int hs hx (i:=2) (f:=f2) rfl hi.2.2.1
 obtain⟨d,hd,_⟩:=trod_field_int hs hx (i:=3) (f:=f3) rfl hi.2.2.2
 obtain⟨m,y,hy⟩:=trod_field hs hx (i:=4) (f:=f4) rfl
 obtain⟨v',u,ns,γ',h',e1,q1,q2,q3,q4,q5,q6⟩:=adm_ints A ht he hce hy
 generalize hcs:v.cells.toList=cs at *
 rw[ho.1,hc.1] at ha
 rw[ho.2.1,hc.2.1] at hb
 rw[ho.2.2.1,hc.2.2.1] at hcc
 rw[ho.2.2.2.1,hc.2.2.2.1] at hd
 rw[ho.2.2.2.2,hc.2.2.2.2] at e1
 obtain⟨c0,c1,c2,c3,c4,rfl⟩:∃ c0 c1 c2 c3 c4,cs=[c0,c1,c2,c3,c4]:=by
  match cs,hl with
  | [c0,c1,c2,c3,c4],_=>exact⟨_,_,_,_,_,rfl⟩
 simp at ha hb hcc hd e1
 subst ha hb hcc hd e1
 refine⟨a,b,c,d,ns,u,γ',h',q1,q2,q3,?_,q5,q6⟩
 rw[agg_of_cells hcs (by simp)]
 exact VR.aggL (VRL.cons (.int _ _) (VRL.cons (.int _ _) (VRL.cons (.int _ _) (VRL.cons (.int _ _) (VRL.cons q4 (VRL.nil _))))))
def tyInt (P:Program) (t:TypeId):Bool:=match P.underlying t with
 | some (.int .i64)=>true
 | _=>false
def tySlice (P:Program) (t e:TypeId):Bool:=match P.underlying t with
 | some (.slice e')=>e'==e
 | _=>false
theorem tyInt_eq {t:TypeId} (h:tyInt P t=true):P.underlying t=some (.int .i64):=by
 unfold tyInt at h
 split at h
 ·assumption
 ·cases h
theorem tySlice_eq {t e:TypeId} (h:tySlice P t e=true):P.underlying t=some (.slice e):=by
 unfold tySlice at h
 split at h
 ·rename_i e' he
  have:e'=e:=by simpa using h
  rw[he,this]
 ·cases h
def isInts4 (P:Program) (t e:TypeId):Bool:=match P.underlying t with
 | some (.struct fs)=>match fs.toList with
  | [f0,f1,f2,f3,f4]=>P.cellsOf t==5&&f0.offset==0&&f1.offset==1&&f2.offset==2&&f3.offset==3&&f4.offset==4 &&
    [f0,f1,f2,f3].all (fun f=>tyInt P f.type&&P.cellsOf f.type==1)&&P.cellsOf f4.type==1&&tySlice P f4.type e &&
    tyInt P e&&P.cellsOf e==1
  | _=>false
 | _=>false
theorem adm_tensor {γ:List G} {h:AH} (A:Adm P W γ h) {t:TypeId} (e:TypeId) (hk:isInts4 P t e=true) {v:Value} {d:DataW H} {ps:List MemPlace} (hx:DataW.Trod enc P W 0 (fun _=>true) true t v d ps) :
  ∃ a b c d ns v' γ' h',γ<+:γ'∧h<+:h'∧Adm P W γ' h'∧VR γ' (.agg #[I64 a,I64 b,I64 c,I64 d,v']) v∧Ints h' v' ns∧ns.length≤maxLen:=by
 unfold isInts4 at hk
 split at hk
 ·rename_i fs hs
  split at hk
  ·rename_i f0 f1 f2 f3 f4 hf
   have hfs:fs=#[f0,f1,f2,f3,f4]:=by
    rw[←hf]
   subst hfs
   simp only[List.all_cons,List.all_nil,Bool.and_true,Bool.and_eq_true,beq_iff_eq] at hk
   obtain⟨⟨⟨⟨⟨⟨⟨⟨⟨⟨k0,k1⟩,k2⟩,k3⟩,k4⟩,k5⟩,⟨i0,c0⟩,⟨i1,c1⟩,⟨i2,c2⟩,⟨i3,c3⟩⟩,c4⟩,s4⟩,ie⟩,ce⟩:=hk
   exact adm_ints4 A hs k0 ⟨k1,k2,k3,k4,k5⟩ ⟨tyInt_eq i0,tyInt_eq i1,tyInt_eq i2,tyInt_eq i3⟩ ⟨c0,c1,c2,c3,c4⟩ (tySlice_eq s4) (tyInt_eq ie) ce hx
  ·cases hk
 ·cases hk
theorem stays_all (hl:laidOutB P=true) {W W':World} (bel:Below W.heap.size W W'):∀ {ts:List TypeId} {vs:List Value} {ds:List (DataW H)} {ps:List MemPlace},
  (∀ t∈ts,P.readableRec t=true∧t<P.types.size)→DataW.TrodAll enc P W 0 (fun _=>true) true ts vs ds ps→DataW.TrodAll enc P W' 0 (fun b=>decide (b<W.heap.size)) true ts vs ds ps
 | [],[],[],_,_,h=>h
 | _::_,_::_,_::_,_,ht,⟨p,q,h1,h2,e⟩=>by
  have hlt:∀ r∈p,r.block<W.heap.size:=by
   have hall:DataW.TrodAll enc P W 0 (fun _=>true) true [_] [_] [_] p:=trodAll_mk1 h1
   exact hall.lt
  refine⟨p,q,Go.WideElems.Trod_stays hl (ht _ (List.mem_cons.2 (.inl rfl))).1 (ht _ (List.mem_cons.2 (.inl rfl))).2 h1 (fun r hr=>bel.same (hlt r hr)) (fun r hr=>by simpa using hlt r hr),?_,e⟩
  exact stays_all hl bel (fun t ht'=>ht t (List.mem_cons.2 (.inr ht'))) h2
theorem calls_of_WF {S:XS} (hm:P.follows .mixedOrders=true) (hE:ESound P S.E) (hT:TSound P S.T) {g:FuncId} {args args':List Value} {γ:List G} {h:AH} {W:World} {Q:Value→AH→Prop}
  (A:Adm P W γ h) (hv:VRL γ args args') (hw:WF S g args h Q) :
  Calls P g args'.toArray W (fun e W'=>∃ v v' γ' h',e=.returned v'∧VR γ' v v'∧Q v h'∧Below W.heap.size W W'):=by
 obtain⟨k,v,h',h1,h2⟩:=hw
 have:=(xcall_sound hm hE hT k g args h v h' h1).2 W.heap.size γ W args' A.rel hv
 refine this.mono fun e W' ⟨γ',v',q1,q2,q3⟩=>⟨v,v',γ',h',q1,q2,h2,?_⟩
 refine⟨q3.os,q3.tape,q3.output,q3.size,fun b hb=>q3.frame b hb fun ⟨n,blk,g,o1,o2,o3,o4⟩=>?_⟩
 rw[A.ro n blk o1] at o3
 cases o3
end
section
variable {H:Type} {enc:TypeId×Value→H} {P:Program} {W:World}
theorem cells_of_slice {t e:TypeId} {v:Value} {r:Reach} {base:Nat} (ht:P.underlying t=some (.slice e)) (hval:Value.okWide P W r base t v):v.cells.toList=[v]:=by
 cases v with
 | agg cs=>simp[Value.okWide,ht,Cell.okWide,Cell.ok] at hval
 | _=>rfl
end
theorem u8_in {n:Int} (h:(Lit.int .u8 n).wf=true):0≤n∧n≤255:=by
 simp[Lit.wf,IntKind.min,IntKind.max,IntKind.signed,IntKind.bits] at h
 omega
def sideBy (P:Program):List Field→Nat→Nat→Bool
 | [],o,m=>o==m
 | f::fs,o,m=>f.offset==o&&sideBy P fs (o+P.cellsOf f.type) m
def flatK (P:Program) (k:IntKind):Nat→TypeId→Bool
 | 0,_=>false
 | f+1,t=>match P.underlying t with
  | some (.int k')=>decide (k'=k)&&P.cellsOf t==1
  | some (.array n e)=>flatK P k f e&&P.cellsOf t==n*P.cellsOf e
  | some (.struct fs)=>sideBy P fs.toList 0 (P.cellsOf t)&&fs.toList.all fun x=>flatK P k f x.type
  | _=>false
theorem sideBy_at {P:Program}:∀ {fs:List Field} {o m j:Nat},sideBy P fs o m=true→o≤j→j<m→∃ (i:Nat) (f:Field),fs[i]?=some f∧f.offset≤j∧j<f.offset+P.cellsOf f.type
 | [],o,m,j,h,h1,h2=>by
  simp only[sideBy,beq_iff_eq] at h
  omega
 | f::fs,o,m,j,h,h1,h2=>by
  simp only[sideBy,Bool.and_eq_true,beq_iff_eq] at h
  by_cases hj:j<o+P.cellsOf f.type
  ·exact⟨0,f,rfl,by omega,by omega⟩
  ·obtain⟨i,g,q1,q2,q3⟩:=sideBy_at h.2 (by omega) h2
   exact⟨i+1,g,by rw[List.getElem?_cons_succ];exact q1,q2,q3⟩
section
variable {H:Type} {enc:TypeId×Value→H} {P:Program} {W:World} {k:IntKind}
theorem flat_trod:∀ (f:Nat) (t:TypeId) (n:Nat) (cs:List Value) (x:DataW H×List MemPlace),flatK P k f t=true→DataW.trod enc P W 0 (fun _=>true) true n t cs=some x →
  cs.length=P.cellsOf t∧∀ (j:Nat) (v:Value),cs[j]?=some v→∃ m,v=.int k m∧(Lit.int k m).wf=true
 | 0,_,_,_,_,h,_=>by cases h
 | f+1,t,n,cs,x,h,hx=>by
  unfold flatK at h
  split at h
  ·rename_i k' ht
   simp only[Bool.and_eq_true,decide_eq_true_eq,beq_iff_eq] at h
   obtain⟨rfl,hc⟩:=h
   obtain⟨m,rfl,_,hw⟩:=DataW.trod_int ht hx
   refine⟨by simpa using hc.symm,fun j v hv=>?_⟩
   have:j=0:=by
    have:=(List.getElem?_eq_some_iff.1 hv).1
    simp at this
    exact this
   subst this
   simp at hv
   exact⟨m,hv.symm,hw⟩
  ·rename_i c e ht
   simp only[Bool.and_eq_true,beq_iff_eq] at h
   obtain⟨xs,m,_,_,hl,hxs,hall⟩:=DataW.trod_array ht hx
   refine⟨hl,fun j v hv=>?_⟩
   have hj:=(List.getElem?_eq_some_iff.1 hv).1
   rw[hl,h.2] at hj
   have hc:0<P.cellsOf e:=Nat.pos_of_ne_zero fun e0=>by rw[e0] at hj;simp at hj
   have hi:j / P.cellsOf e<c:=Nat.div_lt_of_lt_mul (by rw[Nat.mul_comm];exact hj)
   have hy:=hall _ hi
   rw[List.getElem?_eq_getElem (by omega)] at hy
   have hdm:=Nat.div_add_mod j (P.cellsOf e)
   rw[Nat.mul_comm] at hdm
   refine (flat_trod f e m _ _ h.1 hy).2 (j%P.cellsOf e) v ?_
   rw[List.getElem?_take,if_pos (Nat.mod_lt _ hc),List.getElem?_drop,hdm]
   exact hv
  ·rename_i fs ht
   simp only[Bool.and_eq_true] at h
   obtain⟨xs,m,_,_,hl,hxs,hall⟩:=DataW.trod_struct ht hx
   refine⟨hl,fun j v hv=>?_⟩
   have hj:=(List.getElem?_eq_some_iff.1 hv).1
   rw[hl] at hj
   obtain⟨i,g,q1,q2,q3⟩:=sideBy_at h.1 (Nat.zero_le _) hj
   have q1':fs[i]?=some g:=by simpa using q1
   have hy:=hall i g q1'
   have hi:i<xs.length:=by
    rw[hxs]
    exact (Array.getElem?_eq_some_iff.1 q1').1
   rw[List.getElem?_eq_getElem hi] at hy
   have hg:flatK P k f g.type=true:=List.all_eq_true.1 h.2 g (List.mem_of_getElem? q1)
   refine (flat_trod f g.type m _ _ hg hy).2 (j-g.offset) v ?_
   rw[List.getElem?_take,if_pos (by omega),List.getElem?_drop,show g.offset+(j-g.offset)=j by omega]
   exact hv
  ·cases h
theorem adm_elems2 {γ:List G} {h:AH} (A:Adm P W γ h) {t e:TypeId} {n w f:Nat} {cs:List Value} {x:DataW H×List MemPlace} (ht:P.underlying t=some (.slice e)) (hf:flatK P k f e=true)
  (hw:P.cellsOf e=w) (hw0:0<w) (hx:DataW.trod enc P W 0 (fun _=>true) true n t cs=some x) :
  ∃ v' v L γ' h',cs=[v']∧γ<+:γ'∧h<+:h'∧Adm P W γ' h'∧VR γ' v v'∧Els k w h' v L∧L.length≤maxLen∧(L=[]→∃ t,t≤2∧v=.slice none 0 t)∧∀ i,i<L.length→∀ j,j<w→(Lit.int k ((L.getD i []).getD j 0)).wf=true:=by
 rcases open_slice ht hx with⟨rfl,_⟩|⟨a,len,cap,m,n',D,Pl,rfl,hb,hl,hm,hmm,_,hcell⟩
 ·exact⟨_,.slice none 0 0,[],γ,h,rfl,List.prefix_refl _,List.prefix_refl _,A,.nils,.inl ⟨rfl,0,by omega,rfl⟩,Nat.zero_le _,fun _=>⟨0,by omega,rfl⟩,fun i hi=>by simp at hi⟩
 ·by_cases h0:len=0
  ·subst h0
   exact⟨_,.slice none 0 1,[],γ,h,rfl,List.prefix_refl _,List.prefix_refl _,A,.emp _ _,.inl ⟨rfl,1,by omega,rfl⟩,Nat.zero_le _,fun _=>⟨1,by omega,rfl⟩,fun i hi=>by simp at hi⟩
  ·have hmc:m=cap:=hmm
   have cell:∀ i,i<cap→∀ r,r<w→∃ z,W.cell? ((a.add (i*w)).add r)=some (.int k z)∧(Lit.int k z).wf=true:=fun i hi r hr=>by
    obtain⟨cs',h1,h2⟩:=hcell i (by omega)
    rw[hw] at h1
    obtain⟨_,hlen,hc⟩:=World.cells?_some h1
    obtain⟨_,hall⟩:=flat_trod f e n' cs' _ hf h2
    have hr':r<cs'.length:=by omega
    obtain⟨z,hz,hwf⟩:=hall r _ (List.getElem?_eq_getElem hr')
    refine⟨z,?_,hwf⟩
    rw[hc r hr,List.getElem?_eq_getElem hr',hz]
   obtain⟨z0,hz,_⟩:=cell 0 (by omega) 0 hw0
   rw[Nat.zero_mul] at hz
   have a0:a.add 0=a:=by simp[Addr.add]
   rw[a0,a0] at hz
   have hsp:a.spot=none:=by
    unfold World.cell? at hz
    split at hz
    ·split at hz
     ·cases hz
     ·rename_i hs
      simpa using hs
    ·cases hz
   have hbl:a.block<W.heap.size:=World.block_lt_of_cell? W _ hz
   have cell':∀ j,j<len*w→∃ z,W.cell? ⟨a.block,a.off+j,none⟩=some (.int k z)∧(Lit.int k z).wf=true:=fun j hj=>by
    have hi:j / w<len:=Nat.div_lt_of_lt_mul (by rw[Nat.mul_comm];exact hj)
    obtain⟨z,q1,q2⟩:=cell (j / w) (by omega) (j%w) (Nat.mod_lt _ hw0)
    refine⟨z,?_,q2⟩
    rw[add_off a hsp,add_off _ rfl] at q1
    have hdm:=Nat.div_add_mod j w
    rw[Nat.mul_comm] at hdm
    rw[show a.off+j=a.off+j / w*w+j%w by omega]
    exact q1
   obtain⟨N,hN⟩:∃ N:Nat→Int,∀ j,j<len*w→W.cell? ⟨a.block,a.off+j,none⟩=some (.int k (N j))∧(Lit.int k (N j)).wf=true:=by
    refine⟨fun j=>if hj:j<len*w then (cell' j hj).choose else 0,fun j hj=>?_⟩
    simp only[dif_pos hj]
    exact (cell' j hj).choose_spec
   let L:List (List Int):=(List.range len).map fun i=>(List.range w).map fun r=>N (i*w+r)
   have hLl:L.length=len:=by simp[L]
   have hLg:∀ i,i<len→L.getD i []=(List.range w).map fun r=>N (i*w+r):=fun i hi=>by simp[L,List.getD_eq_getElem?_getD,List.getElem?_map,List.getElem?_range hi]
   let C:List Value:=cel k ((List.range (len*w)).map N)
   have hCl:C.length=len*w:=by simp[C,cel_len]
   refine⟨_,.slice (some ⟨h.length,0,none⟩) L.length w,L,γ++[⟨a.block,a.off,cap*w⟩],h.new ⟨C,e,true,false⟩,rfl,List.prefix_append _ _,pre_new (List.prefix_refl _),?_,?_,
    .inr ⟨h.length,0,_,rfl,get_new_same,fun i hi=>?_⟩,by rw[hLl];omega,fun hL=>absurd hLl (by rw[hL];exact fun e=>h0 (by simpa using e.symm)),fun i hi j hj=>?_⟩
   ·refine A.new hbl fun j v hv=>?_
    have hj:j<len*w:=by rw[←hCl];exact (List.getElem?_eq_some_iff.1 hv).1
    have hv':C[j]?=some (.int k (N j)):=by simp[C,cel,hj]
    rw[hv'] at hv
    obtain rfl:=Option.some.inj hv
    exact⟨rfl,_,(hN j hj).1,.int _ _⟩
   ·have hcw:len*w≤cap*w:=Nat.mul_le_mul_right _ hl
    have:=VR.slc (γ:=γ++[⟨a.block,a.off,cap*w⟩]) h.length 0 L.length w ⟨a.block,a.off,cap*w⟩ (by rw[←A.rel.len];simp) hw0 (by rw[hLl];simp only;omega)
    have e1:(some a:Option Addr)=some ⟨a.block,a.off+0,none⟩:=by
     obtain⟨b,o,s⟩:=a
     simp at hsp
     subst hsp
     rfl
    rw[e1]
    have e2:(cap*w-0) / w=cap:=by rw[Nat.sub_zero];exact Nat.mul_div_cancel _ hw0
    simp only[e2,hLl] at this
    rw[hLl]
    exact this
   ·rw[hLl] at hi
    have hr:i*w+w≤len*w:=mul_row hi
    refine⟨by simp only[hCl];omega,?_⟩
    rw[hLg i hi]
    simp only[C,cel_drop,cel_take,Nat.zero_add]
    congr 1
    refine List.ext_getElem? fun r=>?_
    rw[List.getElem?_take,List.getElem?_drop,List.getElem?_map,List.getElem?_map]
    by_cases hr':r<w
    ·rw[if_pos hr',List.getElem?_range hr',List.getElem?_range (by omega)]
     rfl
    ·rw[if_neg hr',List.getElem?_eq_none (by simp;omega)]
     rfl
   ·rw[hLl] at hi
    have hr:i*w+w≤len*w:=mul_row hi
    rw[hLg i hi]
    have:((List.range w).map fun r=>N (i*w+r)).getD j 0=N (i*w+j):=by simp[List.getD_eq_getElem?_getD,List.getElem?_map,List.getElem?_range hj]
    rw[this]
    exact (hN _ (by omega)).2
theorem adm_elems {γ:List G} {h:AH} (A:Adm P W γ h) {t e:TypeId} {n w f:Nat} {cs:List Value} {x:DataW H×List MemPlace} (ht:P.underlying t=some (.slice e)) (hf:flatK P k f e=true)
  (hw:P.cellsOf e=w) (hw0:0<w) (hx:DataW.trod enc P W 0 (fun _=>true) true n t cs=some x) :
  ∃ v' v L γ' h',cs=[v']∧γ<+:γ'∧h<+:h'∧Adm P W γ' h'∧VR γ' v v'∧Els k w h' v L∧L.length≤maxLen∧∀ i,i<L.length→∀ j,j<w→(Lit.int k ((L.getD i []).getD j 0)).wf=true:=by
 obtain⟨v',v,L,γ',h',e1,q1,q2,q3,q4,q5,q6,_,q7⟩:=adm_elems2 A ht hf hw hw0 hx
 exact⟨v',v,L,γ',h',e1,q1,q2,q3,q4,q5,q6,q7⟩
end
section
variable {H:Type} {enc:TypeId×Value→H} {P:Program} {W:World}
def isByteS (P:Program) (t e:TypeId):Bool:=tySlice P t e&&flatK P .u8 1 e&&P.cellsOf e==1
theorem adm_code {γ:List G} {h:AH} (A:Adm P W γ h) {t:TypeId} (e:TypeId) (hk:isByteS P t e=true) {v:Value} {d:DataW H} {ps:List MemPlace} {r:Reach} {base:Nat} (hval:Value.okWide P W r base t v)
  (hx:DataW.Trod enc P W 0 (fun _=>true) true t v d ps) :
  ∃ L u γ' h',γ<+:γ'∧h<+:h'∧Adm P W γ' h'∧VR γ' u v∧Els .u8 1 h' u L∧Byt 1 L:=by
 simp only[isByteS,Bool.and_eq_true,beq_iff_eq] at hk
 obtain⟨⟨k1,k2⟩,k3⟩:=hk
 obtain⟨n,hx⟩:=hx
 obtain⟨v',u,L,γ',h',e1,q1,q2,q3,q4,q5,q6,q7⟩:=adm_elems A (tySlice_eq k1) k2 k3 (by decide) hx
 rw[cells_of_slice (tySlice_eq k1) hval] at e1
 have e1:v=v':=by simpa using e1
 subst e1
 exact⟨L,u,γ',h',q1,q2,q3,q4,q5,fun i hi j hj=>u8_in (q7 i hi j hj)⟩
end
end Go.Proofs.Ytapafdpnmakekaa.X

namespace Go.Proofs.Ytapafdpnmakekaa.fnEquations
open Go Go.ChangeShapes Go.WideShapes Go.ChangeAt Go.RowKit Go.Proofs.Ytapafdpnmakekaa.X
set_option linter.unusedVariables false
theorem own:ownKnob Try.prog.godebug=none:=by kernel_rfl
theorem laid:laidOutB Try.prog=true:=by kernel_rfl
theorem shapeY:isByteS Try.prog 22 5=true:=by kernel_rfl
theorem readable0:Try.prog.readableRec 22=true:=by kernel_rfl
theorem intable0:22<Try.prog.types.size:=of_decide_eq_true (by kernel_rfl)
theorem isbool:Try.prog.underlying 4=some .bool:=by kernel_rfl
theorem isint:Try.prog.underlying 2=some (.int .i64):=by kernel_rfl
set_option maxRecDepth 100000 in
theorem lifted (os:Os) (started:os.Started) (H:Type) (enc:TypeId×Value→H) :
  ReturnsInHanded {} Try.checked os 7 .any (Rows.fnEquationsSpec.pre6 enc Try.prog Try.f7 Rows.fnEquationsRow.domain false) (Rows.fnEquationsSpec.post enc Try.prog Try.f7 false true false false):=by
 refine returnsInHanded_of_change_sized (C:=Try.checked) own started (by kernel_rfl) Try.func7
  (ChangeSpec.witness6 (enc:=enc) (C:=Try.checked) false ⟨#[],#[.slice none 0 0],[]⟩ 8 (by kernel_rfl) (by kernel_rfl) (by kernel_rfl) (by kernel_rfl)) ?_
 intro W base args ds gs before hval0 hW hcnd hsz0 _
 have hval:∀ (j:Nat) t v,Try.f7.params[j]?=some t→args[j]?=some v→Value.okWide Try.prog W .any base t v:=hval0
 have hW':=hW
 obtain⟨p,q,hA0,hV,rfl,hfz,hnd⟩:=hW
 have hA:DataW.TrodAll enc Try.prog W 0 (fun _=>true) true Try.f7.params.toList args.toList ds p:=hA0
 rw[Try.params7] at hA hval
 obtain⟨v0,vs0,d0,ds0,p0,q0,hargs0,rfl,rfl,h0,r0⟩:=trodAll_cons hA
 obtain⟨rfl,rfl,rfl⟩:=trodAll_nil r0
 obtain rfl:args=#[v0]:=by cases args;simp_all
 obtain⟨rfl,rfl⟩:=trodVars_none hV
 obtain⟨ns0,u0,γ0,g0,pg0,ph0,A0,hv0,hi0,hl0⟩:=adm_code (Adm.nil Try.prog W) 5 shapeY (hval 0 _ v0 rfl rfl) h0
 have hi0':=hi0
 have key:=law_Equations hi0' hl0
 refine (calls_of_WF (S:=S) orders esound tsound A0 (VRL.cons hv0 (VRL.nil _)) key).mono fun e W' ⟨v,u,γ1,h1,he,hvr,hb,bel⟩=>?_
 subst hb
 obtain rfl:=hvr.bool_inv
 subst he
 have st:=stays_all laid bel (ts:=[22]) (fun t ht=>by
  simp only[List.mem_cons,List.not_mem_nil,or_false] at ht
  rw[ht]
  exact⟨readable0,intable0⟩) hA
 exact⟨_,rfl,_,_,_,[],_,[],hW',trodAll_mk1 (shut_bool isbool _),st,rfl,bel.frame _,fun h=>by cases h⟩
theorem j0:Program.unfollowed Try.pinned.checked.prog 7=false:=by kernel_rfl
theorem j1:(Rows.fnEquationsRow.inPlace==Program.inPlace Try.pinned.checked.prog 7)=true:=by kernel_rfl
theorem j2:(Rows.fnEquationsRow.unfollowed==Program.unfollowed Try.pinned.checked.prog 7)=true:=by
 rw[j0]
 rfl
theorem j3:(Rows.fnEquationsRow.recurses==Program.recurses Try.pinned.checked.prog 7)=true:=by kernel_rfl
theorem j4:(Rows.fnEquationsRow.named==Program.varsNamed Try.pinned.checked.prog 7)=true:=by kernel_rfl
theorem closed:joinedFacts Try.pinned.checked.prog 7 Try.f7 Rows.fnEquationsSpec Rows.fnEquationsRow=true:=by
 unfold joinedFacts
 rw[j1,j2,j3,j4]
 kernel_rfl
theorem over:Rows.fnEquationsRow.holds Try.pinned (OpenSpec.ofChange Rows.fnEquationsSpec):=
 OpenClaim.holds_of_wide 7 Try.f7 rfl rfl rfl rfl rfl rfl rfl ⟨rfl,rfl,rfl,rfl,rfl⟩ rfl rfl rfl rfl rfl (by kernel_rfl) Try.func7 closed
  (of_decide_eq_true (by kernel_rfl)) (by unfold Func.isWrapper;first|(rw[if_pos (by decide +kernel)];kernel_rfl)|(rw[if_neg (by decide +kernel)];exact⟨rfl,rfl⟩))
  (fun os started H enc _=>lifted os started H enc)
end Go.Proofs.Ytapafdpnmakekaa.fnEquations
namespace Go.Proofs.Ytapafdpnmakekaa
theorem fnEquations_holds:Rows.FnEquationsSaid:=fnEquations.over
end Go.Proofs.Ytapafdpnmakekaa
