/- Texts of one claim, put together by merge.py: XLogic, XSimp. -/
import Derived.Test.YtigpfopobpoamaaGreatRE2
set_option linter.unusedVariables false
set_option linter.unusedSimpArgs false
namespace Go.Proofs.YtigpfopobpoamaaGreat.X
open Go Go.RowKit
abbrev CallT:=FuncId→List Value→AH→Option (Value×AH)
def CLe (C C':CallT):Prop:=∀ g a h r,C g a h=some r→C' g a h=some r
theorem xrun_mono {C C':CallT} (hC:CLe C C') {o:XOp} {f:Fr} {h:AH} {r:Value×AH} (hx:xrun C o f h=some r):xrun C' o f h=some r:=by
 cases o
 case call fo args=>
  simp only[xrun] at hx ⊢
  split at hx
  ·split at hx
   ·rename_i hi
    rw[if_pos hi]
    exact hC _ _ _ _ hx
   ·cases hx
  ·cases hx
 all_goals exact hx
theorem xstep_mono {C C':CallT} (hC:CLe C C') {i:XI} {f:Fr} {h:AH} {r:Fr×AH} (hx:xstep C i f h=some r):xstep C' i f h=some r:=by
 unfold xstep at hx ⊢
 split at hx
 ·rename_i hw
  rw[if_pos hw]
  split at hx
  ·rename_i v h' he
   rw[xrun_mono hC he]
   exact hx
  ·cases hx
 ·rename_i hw
  rw[if_neg hw]
  exact hx
theorem xops_mono {C C':CallT} (hC:CLe C C'):∀ {ops:List XI} {f:Fr} {h:AH} {r:Fr×AH},xops C ops f h=some r→xops C' ops f h=some r
 | [],f,h,r,hx=>hx
 | i::rest,f,h,r,hx=>by
  simp only[xops] at hx ⊢
  split at hx
  ·rename_i f' h' he
   rw[xstep_mono hC he]
   exact xops_mono hC hx
  ·cases hx
theorem xloop_mono {B B':Fr→AH→Option (XE×Fr×AH)} (hB:∀ f h r,B f h=some r→B' f h=some r):∀ {n m:Nat} {f:Fr} {h:AH} {r:XE×Fr×AH},n≤m→xloop B n f h=some r→xloop B' m f h=some r
 | 0,m,f,h,r,hn,hx=>by simp[xloop] at hx
 | n+1,0,f,h,r,hn,hx=>by omega
 | n+1,m+1,f,h,r,hn,hx=>by
  simp only[xloop] at hx ⊢
  split at hx
  ·rename_i f' h' he
   rw[hB _ _ _ he]
   exact xloop_mono hB (by omega) hx
  ·rename_i hne
   rw[hB _ _ _ hx]
   obtain⟨e,f',h'⟩:=r
   cases e
   ·exact (hne f' h' hx).elim
   ·rfl
   ·rfl
theorem xcode_mono {C C':CallT} (hC:CLe C C') {n m:Nat} (hn:n≤m):∀ {c:IR} {f:Fr} {h:AH} {r:XE×Fr×AH},xcode C n c f h=some r→xcode C' m c f h=some r
 | .skip,f,h,r,hx=>hx
 | .reg ops,f,h,r,hx=>by
  simp only[xcode] at hx ⊢
  split at hx
  ·rename_i f' h' he
   rw[xops_mono hC he]
   exact hx
  ·cases hx
 | .seq a b,f,h,r,hx=>by
  simp only[xcode] at hx ⊢
  split at hx
  ·rename_i f' h' he
   rw[xcode_mono hC hn he]
   exact xcode_mono hC hn hx
  ·rename_i hne
   rw[xcode_mono hC hn hx]
   obtain⟨e,f',h'⟩:=r
   cases e
   ·exact (hne f' h' hx).elim
   ·rfl
   ·rfl
 | .cond c a b,f,h,r,hx=>by
  simp only[xcode] at hx ⊢
  split at hx
  ·exact xcode_mono hC hn hx
  ·exact xcode_mono hC hn hx
  ·cases hx
 | .blk id a,f,h,r,hx=>by
  simp only[xcode] at hx ⊢
  split at hx
  ·rename_i id' f' h' he
   rw[xcode_mono hC hn he]
   exact hx
  ·rename_i hne
   rw[xcode_mono hC hn hx]
   obtain⟨e,f',h'⟩:=r
   cases e
   ·rfl
   ·exact (hne _ f' h' hx).elim
   ·rfl
 | .loop a,f,h,r,hx=>by
  simp only[xcode] at hx ⊢
  exact xloop_mono (fun f h r hr=>xcode_mono hC hn hr) hn hx
 | .exit id,f,h,r,hx=>hx
 | .ret,f,h,r,hx=>hx
structure XS where
 E:FuncId→Option (List Value→AH→Option (Value×AH))
 T:FuncId→Option XFn
noncomputable abbrev XS.C (S:XS) (k:Nat):CallT:=xcall S.E S.T k
theorem xcall_step (S:XS):∀ k,CLe (S.C k) (S.C (k+1))
 | 0=>fun g a h r hx=>by simp[XS.C,xcall] at hx
 | k+1=>by
  intro g a h r hx
  have ih:=xcall_step S k
  simp only[XS.C] at hx ih ⊢
  rw[xcall] at hx ⊢
  split at hx
  ·rename_i p hp
   exact hx
  ·split at hx
   ·cases hx
   ·rename_i fn hfn
    split at hx
    ·cases hx
    ·rename_i e f' h' hne hc
     rw[xcode_mono ih (Nat.le_succ _) hc]
     cases e with
     | exit id=>exact (hne id rfl).elim
     | normal=>exact hx
     | ret=>exact hx
    ·cases hx
theorem xcall_mono (S:XS) {k m:Nat} (hk:k≤m):CLe (S.C k) (S.C m):=by
 induction hk with
 | refl=>exact fun g a h r hx=>hx
 | step _ ih=>exact fun g a h r hx=>xcall_step S _ g a h r (ih g a h r hx)
def WF (S:XS) (g:FuncId) (args:List Value) (h:AH) (Q:Value→AH→Prop):Prop:=∃ k v h',xcall S.E S.T k g args h=some (v,h')∧Q v h'
def WO (S:XS) (ops:List XI) (f:Fr) (h:AH) (Q:Fr→AH→Prop):Prop:=∃ k f' h',xops (S.C k) ops f h=some (f',h')∧Q f' h'
def WC (S:XS) (c:IR) (f:Fr) (h:AH) (Q:XE→Fr→AH→Prop):Prop:=∃ k e f' h',xcode (S.C k) k c f h=some (e,f',h')∧Q e f' h'
def OQ (r:Option (Value×AH)) (Q:Value→AH→Prop):Prop:=∃ v h',r=some (v,h')∧Q v h'
def WX (S:XS) (o:XOp) (f:Fr) (h:AH) (Q:Value→AH→Prop):Prop:=∃ k v h',xrun (S.C k) o f h=some (v,h')∧Q v h'
theorem WF.mono {S:XS} {g:FuncId} {args:List Value} {h:AH} {Q Q':Value→AH→Prop} (hw:WF S g args h Q) (hq:∀ v h',Q v h'→Q' v h'):WF S g args h Q':=by
 obtain⟨k,v,h',h1,h2⟩:=hw
 exact⟨k,v,h',h1,hq v h' h2⟩
theorem WC.mono {S:XS} {c:IR} {f:Fr} {h:AH} {Q Q':XE→Fr→AH→Prop} (hw:WC S c f h Q) (hq:∀ e f h',Q e f h'→Q' e f h'):WC S c f h Q':=by
 obtain⟨k,e,f',h',h1,h2⟩:=hw
 exact⟨k,e,f',h',h1,hq e f' h' h2⟩
@[congr] theorem OQ_congr {r r':Option (Value×AH)} {Q:Value→AH→Prop} (e:r=r'):OQ r Q=OQ r' Q:=by rw[e]
theorem OQ_some {v:Value} {h:AH} {Q:Value→AH→Prop}:OQ (some (v,h)) Q=Q v h:=by
 apply propext
 constructor
 ·rintro⟨v',h',e,q⟩
  cases e
  exact q
 ·exact fun q=>⟨v,h,rfl,q⟩
theorem OQ_ite {c:Prop} [Decidable c] {v:Value} {h:AH} {Q:Value→AH→Prop}:OQ (if c then some (v,h) else none) Q=(c∧Q v h):=by
 apply propext
 split
 ·rename_i hc
  rw[OQ_some]
  exact⟨fun q=>⟨hc,q⟩,fun q=>q.2⟩
 ·rename_i hc
  exact⟨fun ⟨_,_,e,_⟩=>(by cases e),fun q=>(hc q.1).elim⟩
theorem WO_nil {S:XS} {f:Fr} {h:AH} {Q:Fr→AH→Prop}:WO S [] f h Q=Q f h:=by
 apply propext
 constructor
 ·rintro⟨k,f',h',e,q⟩
  cases e
  exact q
 ·exact fun q=>⟨0,f,h,rfl,q⟩
theorem WO_run {S:XS} {d:Option Nat} {o:XOp} {g:Option (Nat×Bool)} {q:XQ} {rest:List XI} {f:Fr} {h:AH} {Q:Fr→AH→Prop} (hw:want f g=true) :
  WO S (⟨d,o,g,q⟩::rest) f h Q=WX S o f h (fun v h'=>qok q o f h h'∧WO S rest (updo f d v) h' Q):=by
 apply propext
 constructor
 ·rintro⟨k,f',h',e,p⟩
  simp only[xops] at e
  split at e
  ·rename_i f1 h1 he
   unfold xstep at he
   rw[if_pos hw] at he
   split at he
   ·rename_i v h2 hr
    split at he
    ·rename_i hq
     simp only[Option.some.injEq,Prod.mk.injEq] at he
     obtain⟨rfl,rfl⟩:=he
     exact⟨k,v,h2,hr,hq,k,f',h',e,p⟩
    ·cases he
   ·cases he
  ·cases e
 ·rintro⟨k,v,h1,hr,hq,k',f',h',e,p⟩
  refine⟨max k k',f',h',?_,p⟩
  simp only[xops]
  have h3:xstep (S.C (max k k')) ⟨d,o,g,q⟩ f h=some (updo f d v,h1):=by
   unfold xstep
   rw[if_pos hw,xrun_mono (xcall_mono S (Nat.le_max_left k k')) hr]
   simp only
   rw[if_pos hq]
  rw[h3]
  exact xops_mono (xcall_mono S (Nat.le_max_right k k')) e
theorem WO_not {S:XS} {d:Option Nat} {o:XOp} {g:Option (Nat×Bool)} {q:XQ} {rest:List XI} {f:Fr} {h:AH} {Q:Fr→AH→Prop} (hw:want f g=false) :
  WO S (⟨d,o,g,q⟩::rest) f h Q=WO S rest (updo f d undef) h Q:=by
 have h3:∀ k,xstep (S.C k) ⟨d,o,g,q⟩ f h=some (updo f d undef,h):=by
  intro k
  unfold xstep
  rw[if_neg (by rw[hw];simp)]
 unfold WO
 simp only[xops,h3]
theorem WO_free {S:XS} {d:Option Nat} {o:XOp} {rest:List XI} {f:Fr} {h:AH} {Q:Fr→AH→Prop} :
  WO S (⟨d,o,none,.f⟩::rest) f h Q=WX S o f h (fun v h'=>WO S rest (updo f d v) h' Q):=by
 rw[WO_run rfl]
 simp only[qok,true_and]
theorem WO_calm {S:XS} {d:Option Nat} {o:XOp} {rest:List XI} {f:Fr} {h:AH} {Q:Fr→AH→Prop} :
  WO S (⟨d,o,none,.t⟩::rest) f h Q=WX S o f h (fun v h'=>h<+:h'∧WO S rest (updo f d v) h' Q):=by
 rw[WO_run rfl]
 simp only[qok,true_and]
def KpU (vs:List Value) (h h':AH):Prop:=∃ m,Kp m h h'∧∀ u∈vs,∃ n,blkV u=some n∧n≠m
theorem WO_wild {S:XS} {d:Option Nat} {o:XOp} {l:List Operand} {rest:List XI} {f:Fr} {h:AH} {Q:Fr→AH→Prop} :
  WO S (⟨d,o,none,.u l⟩::rest) f h Q=WX S o f h (fun v h'=>KpU (l.map (ev f)) h h'∧WO S rest (updo f d v) h' Q):=by
 rw[WO_run rfl]
 have e:∀ h',qok (.u l) o f h h'=KpU (l.map (ev f)) h h':=fun h'=>by
  apply propext
  unfold qok KpU
  constructor
  ·rintro⟨m,hk,hl⟩
   refine⟨m,hk,fun u hu=>?_⟩
   obtain⟨x,hx,rfl⟩:=List.mem_map.1 hu
   exact hl x hx
  ·rintro⟨m,hk,hl⟩
   exact⟨m,hk,fun x hx=>hl _ (List.mem_map.2 ⟨x,hx,rfl⟩)⟩
 simp only[e]
theorem KpU_one {p:Addr} {h h':AH} {m:Nat} (hk:Kp m h h') (hm:p.block≠m):KpU [.pointer (some p)] h h':=
 ⟨m,hk,fun u hu=>by
  rcases List.mem_singleton.1 hu with rfl
  exact⟨_,rfl,hm⟩⟩
def AP (v:Value) (vs:List Value):Prop:=∃ m,blkV v=some m∧∀ u∈vs,∃ n,blkV u=some n∧n≠m
def KpV (v:Value) (h h':AH):Prop:=∃ m,blkV v=some m∧Kp m h h'
theorem AP_nil {p:Addr}:AP (.pointer (some p)) []=True:=by
 apply propext
 exact⟨fun _=>trivial,fun _=>⟨p.block,rfl,fun u hu=>by simp at hu⟩⟩
theorem AP_cons {p q:Addr} {vs:List Value}:AP (.pointer (some p)) (.pointer (some q)::vs)=(q.block≠p.block∧AP (.pointer (some p)) vs):=by
 apply propext
 constructor
 ·rintro⟨m,hm,hu⟩
  cases hm
  refine⟨?_,p.block,rfl,fun u h=>hu u (List.mem_cons_of_mem _ h)⟩
  obtain⟨n,hn,hne⟩:=hu _ List.mem_cons_self
  cases hn
  exact hne
 ·rintro⟨h1,m,hm,hu⟩
  refine⟨m,hm,fun u h=>?_⟩
  cases hm
  rcases List.mem_cons.1 h with rfl|h
  ·exact⟨_,rfl,h1⟩
  ·exact hu u h
theorem KpV_ptr {p:Addr} {h h':AH}:KpV (.pointer (some p)) h h'=Kp p.block h h':=by
 apply propext
 constructor
 ·rintro⟨m,hm,hk⟩
  cases hm
  exact hk
 ·exact fun hk=>⟨_,rfl,hk⟩
theorem WO_sf {S:XS} {d:Option Nat} {o:XOp} {a:Operand} {l:List Operand} {rest:List XI} {f:Fr} {h:AH} {Q:Fr→AH→Prop} (ho:adrOf o=some a) :
  WO S (⟨d,o,none,.s false l⟩::rest) f h Q=(AP (ev f a) (l.map (ev f))∧WO S (⟨d,o,none,.f⟩::rest) f h Q):=by
 rw[WO_run rfl,WO_free]
 have e:∀ h',qok (.s false l) o f h h'=AP (ev f a) (l.map (ev f)):=fun h'=>by
  apply propext
  unfold qok AP
  simp only[ho,Option.some.injEq,reduceCtorEq,false_implies,and_true,Bool.false_eq_true]
  constructor
  ·rintro⟨_,m,rfl,hm,hl⟩
   refine⟨m,hm,fun u hu=>?_⟩
   obtain⟨x,hx,rfl⟩:=List.mem_map.1 hu
   exact hl x hx
  ·rintro⟨m,hm,hl⟩
   exact⟨a,m,rfl,hm,fun x hx=>hl _ (List.mem_map.2 ⟨x,hx,rfl⟩)⟩
 simp only[e]
 apply propext
 unfold WX
 constructor
 ·rintro⟨k,v,h',hr,hq,hw⟩
  exact⟨hq,k,v,h',hr,hw⟩
 ·rintro⟨hq,k,v,h',hr,hw⟩
  exact⟨k,v,h',hr,hq,hw⟩
theorem WO_st {S:XS} {d:Option Nat} {o:XOp} {a:Operand} {l:List Operand} {rest:List XI} {f:Fr} {h:AH} {Q:Fr→AH→Prop} (ho:adrOf o=some a) :
  WO S (⟨d,o,none,.s true l⟩::rest) f h Q=(AP (ev f a) (l.map (ev f))∧WX S o f h (fun v h'=>KpV (ev f a) h h'∧WO S rest (updo f d v) h' Q)):=by
 rw[WO_run rfl]
 have e:∀ h',qok (.s true l) o f h h'=(AP (ev f a) (l.map (ev f))∧KpV (ev f a) h h'):=fun h'=>by
  apply propext
  unfold qok AP KpV
  simp only[ho,Option.some.injEq,true_implies]
  constructor
  ·rintro⟨_,m,rfl,hm,hl,hk⟩
   refine⟨⟨m,hm,fun u hu=>?_⟩,m,hm,hk⟩
   obtain⟨x,hx,rfl⟩:=List.mem_map.1 hu
   exact hl x hx
  ·rintro⟨⟨m,hm,hl⟩,m',hm',hk⟩
   rw[hm] at hm'
   cases hm'
   exact⟨a,m,rfl,hm,fun x hx=>hl _ (List.mem_map.2 ⟨x,hx,rfl⟩),hk⟩
 simp only[e]
 apply propext
 unfold WX
 constructor
 ·rintro⟨k,v,h',hr,hq,hw⟩
  exact⟨hq.1,k,v,h',hr,hq.2,hw⟩
 ·rintro⟨hq,k,v,h',hr,hk,hw⟩
  exact⟨k,v,h',hr,⟨hq,hk⟩,hw⟩
section
variable {S:XS} {d:Option Nat} {a x:Operand} {l:List Operand} {n:Nat} {rest:List XI} {f:Fr} {h:AH} {Q:Fr→AH→Prop} {fo:Operand} {as:List Operand}
theorem WO_sload1:WO S (⟨d,.load1 a,none,.s false l⟩::rest) f h Q=(AP (ev f a) (l.map (ev f))∧WO S (⟨d,.load1 a,none,.f⟩::rest) f h Q):=WO_sf rfl
theorem WO_sloadn:WO S (⟨d,.loadn n a,none,.s false l⟩::rest) f h Q=(AP (ev f a) (l.map (ev f))∧WO S (⟨d,.loadn n a,none,.f⟩::rest) f h Q):=WO_sf rfl
theorem WO_sstore:WO S (⟨d,.store n a x,none,.s false l⟩::rest) f h Q=(AP (ev f a) (l.map (ev f))∧WO S (⟨d,.store n a x,none,.f⟩::rest) f h Q):=WO_sf rfl
theorem WO_scall:WO S (⟨d,.call fo (a::as),none,.s true l⟩::rest) f h Q=(AP (ev f a) (l.map (ev f))∧WX S (.call fo (a::as)) f h (fun v h'=>KpV (ev f a) h h'∧WO S rest (updo f d v) h' Q)):=WO_st rfl
end
def WG (S:XS) (v:Value) (b:Bool) (i:XI) (rest:List XI) (f:Fr) (h:AH) (Q:Fr→AH→Prop):Prop:=match v with
 | .bool c=>if c=b then WO S (⟨i.d,i.o,none,i.q⟩::rest) f h Q else WO S rest (updo f i.d undef) h Q
 | _=>WO S rest (updo f i.d undef) h Q
@[congr] theorem WG_congr {S:XS} {v v':Value} {b:Bool} {i:XI} {rest:List XI} {f:Fr} {h:AH} {Q:Fr→AH→Prop} (e:v=v'):WG S v b i rest f h Q=WG S v' b i rest f h Q:=by rw[e]
theorem WO_guard {S:XS} {d:Option Nat} {o:XOp} {s:Nat} {b:Bool} {q:XQ} {rest:List XI} {f:Fr} {h:AH} {Q:Fr→AH→Prop} :
  WO S (⟨d,o,some (s,b),q⟩::rest) f h Q=WG S (f s) b ⟨d,o,none,q⟩ rest f h Q:=by
 unfold WG
 split
 ·rename_i c hc
  split
  ·rename_i e
   rw[WO_run (by simp[want,hc,e]),WO_run rfl]
  ·rename_i e
   rw[WO_not (by simp[want,hc,e])]
 ·rename_i hne
  rw[WO_not]
  unfold want
  split
  ·rename_i h1
   cases h1
  ·rename_i s' b' h1
   cases h1
   split
   ·rename_i c hc
    exact (hne c hc).elim
   ·rfl
theorem WG_tt {S:XS} {i:XI} {rest:List XI} {f:Fr} {h:AH} {Q:Fr→AH→Prop}:WG S (.bool true) true i rest f h Q=WO S (⟨i.d,i.o,none,i.q⟩::rest) f h Q:=rfl
theorem WG_ff {S:XS} {i:XI} {rest:List XI} {f:Fr} {h:AH} {Q:Fr→AH→Prop}:WG S (.bool false) false i rest f h Q=WO S (⟨i.d,i.o,none,i.q⟩::rest) f h Q:=rfl
theorem WG_tf {S:XS} {i:XI} {rest:List XI} {f:Fr} {h:AH} {Q:Fr→AH→Prop}:WG S (.bool true) false i rest f h Q=WO S rest (updo f i.d undef) h Q:=rfl
theorem WG_ft {S:XS} {i:XI} {rest:List XI} {f:Fr} {h:AH} {Q:Fr→AH→Prop}:WG S (.bool false) true i rest f h Q=WO S rest (updo f i.d undef) h Q:=rfl
theorem WX_op {S:XS} {o:XOp} {f:Fr} {h:AH} {Q:Value→AH→Prop} (ho:∀ C,xrun C o f h=xop o f h):WX S o f h Q=OQ (xop o f h) Q:=by
 unfold WX OQ
 simp only[ho]
 apply propext
 exact⟨fun ⟨_,v,h',e,q⟩=>⟨v,h',e,q⟩,fun ⟨v,h',e,q⟩=>⟨0,v,h',e,q⟩⟩
theorem WX_call {S:XS} {fo:Operand} {args:List Operand} {f:Fr} {h:AH} {Q:Value→AH→Prop} {g:FuncId} {cap:Array Value} (he:ev f fo=.func (.func g) #[] cap) :
  WX S (.call fo args) f h Q=WF S g (args.map (ev f)++cap.toList) h Q:=by
 unfold WX WF
 simp only[xrun,he]
 rfl
theorem WX_callf {S:XS} {g:FuncId} {args:List Operand} {f:Fr} {h:AH} {Q:Value→AH→Prop} :
  WX S (.call (.func g) args) f h Q=WF S g (args.map (ev f)) h Q:=by
 rw[WX_call (g:=g) (cap:=#[]) rfl]
 simp
def SeqQ (S:XS) (b:IR) (Q:XE→Fr→AH→Prop):XE→Fr→AH→Prop
 | .normal,f,h=>WC S b f h Q
 | .exit id,f,h=>Q (.exit id) f h
 | .ret,f,h=>Q .ret f h
def BlkQ (id:Nat) (Q:XE→Fr→AH→Prop):XE→Fr→AH→Prop
 | .normal,f,h=>Q .normal f h
 | .exit id',f,h=>if id'=id then Q .normal f h else Q (.exit id') f h
 | .ret,f,h=>Q .ret f h
def RegQ (Q:XE→Fr→AH→Prop):Fr→AH→Prop:=fun f h=>Q .normal f h
def IfW (b:Value) (A B:Prop):Prop:=match b with
 | .bool true=>A
 | .bool false=>B
 | _=>False
@[congr] theorem IfW_congr {b b':Value} {A B:Prop} (e:b=b'):IfW b A B=IfW b' A B:=by rw[e]
theorem IfW_t {A B:Prop}:IfW (.bool true) A B=A:=rfl
theorem IfW_f {A B:Prop}:IfW (.bool false) A B=B:=rfl
theorem IfW_dec {p:Prop} [Decidable p] {A B:Prop}:IfW (.bool (decide p)) A B↔(p→A)∧(¬ p→B):=by
 by_cases hp:p<;>simp[hp,IfW]
theorem WC_skip {S:XS} {f:Fr} {h:AH} {Q:XE→Fr→AH→Prop}:WC S .skip f h Q=Q .normal f h:=by
 apply propext
 exact⟨fun ⟨k,e,f',h',h1,h2⟩=>by cases h1;exact h2,fun q=>⟨0,_,_,_,rfl,q⟩⟩
theorem WC_exit {S:XS} {id:Nat} {f:Fr} {h:AH} {Q:XE→Fr→AH→Prop}:WC S (.exit id) f h Q=Q (.exit id) f h:=by
 apply propext
 exact⟨fun ⟨k,e,f',h',h1,h2⟩=>by cases h1;exact h2,fun q=>⟨0,_,_,_,rfl,q⟩⟩
theorem WC_ret {S:XS} {f:Fr} {h:AH} {Q:XE→Fr→AH→Prop}:WC S .ret f h Q=Q .ret f h:=by
 apply propext
 exact⟨fun ⟨k,e,f',h',h1,h2⟩=>by cases h1;exact h2,fun q=>⟨0,_,_,_,rfl,q⟩⟩
theorem WC_reg {S:XS} {ops:List XI} {f:Fr} {h:AH} {Q:XE→Fr→AH→Prop}:WC S (.reg ops) f h Q=WO S ops f h (RegQ Q):=by
 apply propext
 constructor
 ·rintro⟨k,e,f',h',h1,h2⟩
  simp only[xcode] at h1
  split at h1
  ·rename_i f1 h3 h4
   cases h1
   exact⟨k,_,_,h4,h2⟩
  ·cases h1
 ·rintro⟨k,f',h',h1,h2⟩
  refine⟨k,.normal,f',h',?_,h2⟩
  simp only[xcode,h1]
theorem WC_seq {S:XS} {a b:IR} {f:Fr} {h:AH} {Q:XE→Fr→AH→Prop}:WC S (.seq a b) f h Q=WC S a f h (SeqQ S b Q):=by
 apply propext
 constructor
 ·rintro⟨k,e,f',h',h1,h2⟩
  simp only[xcode] at h1
  split at h1
  ·rename_i f1 h3 h4
   exact⟨k,_,_,_,h4,k,_,_,_,h1,h2⟩
  ·rename_i hne
   refine⟨k,e,f',h',h1,?_⟩
   cases e
   ·exact (hne _ _ h1).elim
   ·exact h2
   ·exact h2
 ·rintro⟨k,e,f',h',h1,h2⟩
  cases e with
  | normal=>
   obtain⟨k',e1,f1,h3,h4,h5⟩:=h2
   refine⟨max k k',e1,f1,h3,?_,h5⟩
   simp only[xcode]
   rw[xcode_mono (xcall_mono S (Nat.le_max_left k k')) (Nat.le_max_left k k') h1]
   exact xcode_mono (xcall_mono S (Nat.le_max_right k k')) (Nat.le_max_right k k') h4
  | exit id=>
   refine⟨k,.exit id,f',h',?_,h2⟩
   simp only[xcode,h1]
  | ret=>
   refine⟨k,.ret,f',h',?_,h2⟩
   simp only[xcode,h1]
theorem WC_cond {S:XS} {c:Operand} {a b:IR} {f:Fr} {h:AH} {Q:XE→Fr→AH→Prop}:WC S (.cond c a b) f h Q=IfW (ev f c) (WC S a f h Q) (WC S b f h Q):=by
 unfold WC IfW
 simp only[xcode]
 split
 ·rename_i e
  simp only[e]
 ·rename_i e
  simp only[e]
 ·rename_i hne1 hne2
  apply propext
  refine⟨fun ⟨k,e,f',h',h1,h2⟩=>(by cases h1),fun q=>?_⟩
  split at q
  ·rename_i e
   exact (hne1 e).elim
  ·rename_i e
   exact (hne2 e).elim
  ·exact q.elim
theorem WC_blk {S:XS} {id:Nat} {a:IR} {f:Fr} {h:AH} {Q:XE→Fr→AH→Prop}:WC S (.blk id a) f h Q=WC S a f h (BlkQ id Q):=by
 apply propext
 constructor
 ·rintro⟨k,e,f',h',h1,h2⟩
  simp only[xcode] at h1
  split at h1
  ·rename_i id' f1 h3 h4
   refine⟨k,_,_,_,h4,?_⟩
   unfold BlkQ
   simp only
   split at h1
   ·rename_i he
    cases h1
    rw[if_pos he]
    exact h2
   ·rename_i he
    cases h1
    rw[if_neg he]
    exact h2
  ·rename_i hne
   refine⟨k,e,f',h',h1,?_⟩
   cases e
   ·exact h2
   ·exact (hne _ _ _ h1).elim
   ·exact h2
 ·rintro⟨k,e,f',h',h1,h2⟩
  cases e with
  | normal=>
   refine⟨k,.normal,f',h',?_,h2⟩
   simp only[xcode,h1]
  | exit id'=>
   simp only[BlkQ] at h2
   split at h2
   ·rename_i he
    refine⟨k,.normal,f',h',?_,h2⟩
    simp only[xcode,h1,he,if_true]
   ·rename_i he
    refine⟨k,.exit id',f',h',?_,h2⟩
    simp only[xcode,h1,he,if_false]
  | ret=>
   refine⟨k,.ret,f',h',?_,h2⟩
   simp only[xcode,h1]
def LoopQ (S:XS) (a:IR) (Q:XE→Fr→AH→Prop):XE→Fr→AH→Prop
 | .normal,f,h=>WC S (.loop a) f h Q
 | .exit id,f,h=>Q (.exit id) f h
 | .ret,f,h=>Q .ret f h
theorem WC_loop {S:XS} {a:IR} {f:Fr} {h:AH} {Q:XE→Fr→AH→Prop} (hw:WC S a f h (LoopQ S a Q)):WC S (.loop a) f h Q:=by
 obtain⟨k,e,f',h',h1,h2⟩:=hw
 cases e with
 | normal=>
  obtain⟨k',e1,f1,h3,h4,h5⟩:=h2
  refine⟨max k k'+1,e1,f1,h3,?_,h5⟩
  simp only[xcode] at h4 ⊢
  simp only[xloop]
  rw[xcode_mono (xcall_mono S (show k≤max k k'+1 by omega)) (show k≤max k k'+1 by omega) h1]
  exact xloop_mono (fun f h r hr=>xcode_mono (xcall_mono S (by omega)) (by omega) hr) (by omega) h4
 | exit id=>
  refine⟨k+1,_,_,_,?_,h2⟩
  simp only[xcode,xloop]
  rw[xcode_mono (xcall_mono S (show k≤k+1 by omega)) (show k≤k+1 by omega) h1]
 | ret=>
  refine⟨k+1,_,_,_,?_,h2⟩
  simp only[xcode,xloop]
  rw[xcode_mono (xcall_mono S (show k≤k+1 by omega)) (show k≤k+1 by omega) h1]
def InvQ (I:Nat→Fr→AH→Prop) (n:Nat) (Q:XE→Fr→AH→Prop):XE→Fr→AH→Prop
 | .normal,f,h=>∃ m,m<n∧I m f h
 | .exit id,f,h=>Q (.exit id) f h
 | .ret,f,h=>Q .ret f h
theorem WC_loop_inv {S:XS} {a:IR} {Q:XE→Fr→AH→Prop} (I:Nat→Fr→AH→Prop) (step:∀ n f h,I n f h→WC S a f h (InvQ I n Q)):∀ n f h,I n f h→WC S (.loop a) f h Q:=by
 intro n
 induction n using Nat.strongRecOn with
 | _ n ih=>
  intro f h hI
  refine WC_loop ((step n f h hI).mono fun e f' h' q=>?_)
  cases e with
  | normal=>
   obtain⟨m,hm,hI'⟩:=q
   exact ih m hm f' h' hI'
  | exit id=>exact q
  | ret=>exact q
def RetQ (rs:List XRes) (Q:Value→AH→Prop):XE→Fr→AH→Prop
 | .exit _,_,_=>False
 | _,f,h=>OQ ((xres f h rs).map (·,h)) Q
theorem WF_fn {S:XS} {g:FuncId} {fn:XFn} {args:List Value} {h:AH} {Q:Value→AH→Prop} (hE:S.E g=none) (hT:S.T g=some fn)
  (hw:WC S fn.body (fun j=>args.getD j undef) h (RetQ fn.res Q)):WF S g args h Q:=by
 obtain⟨k,e,f',h',h1,h2⟩:=hw
 cases e with
 | exit id=>exact h2.elim
 | normal=>
  obtain⟨v,h3,h4,h5⟩:=h2
  obtain⟨u,hu,e⟩:=Option.map_eq_some_iff.1 h4
  cases e
  refine⟨k+1,v,h',?_,h5⟩
  simp only[xcall,hE,hT]
  rw[xcode_mono (fun g a h r hr=>hr) (Nat.le_succ k) h1]
  simp only[hu]
 | ret=>
  obtain⟨v,h3,h4,h5⟩:=h2
  obtain⟨u,hu,e⟩:=Option.map_eq_some_iff.1 h4
  cases e
  refine⟨k+1,v,h',?_,h5⟩
  simp only[xcall,hE,hT]
  rw[xcode_mono (fun g a h r hr=>hr) (Nat.le_succ k) h1]
  simp only[hu]
theorem tsound_of_all {P:Program} {tab:List (Nat×XFn)} (hs:∀ p∈tab,∃ fn,P.funcs[p.1]?=some fn∧compFn P fn=some p.2):TSound P (fun g=>tab.lookup g):=by
 intro g x hx
 have gen:∀ l:List (Nat×XFn),l.lookup g=some x→(g,x)∈l:=by
  intro l
  induction l with
  | nil=>intro h;simp at h
  | cons p l ih=>
   intro h
   obtain⟨a,b⟩:=p
   rw[List.lookup_cons] at h
   split at h
   ·rename_i e
    have e':g=a:=by simpa using e
    cases h
    subst e'
    exact List.mem_cons_self
   ·exact List.mem_cons_of_mem _ (ih h)
 exact hs (g,x) (gen tab hx)
def oO (d:Nat) (o:XOp):XI:=⟨some d,o,none,.f⟩
def oM (d s:Nat):XI:=⟨some d,.mv (.tmp s),none,.f⟩
def oS (o:XOp):XI:=⟨none,o,none,.f⟩
def oG (d:Nat) (o:XOp) (s:Nat) (b:Bool):XI:=⟨some d,o,some (s,b),.f⟩
def oK (n:Int):Operand:=.const (.int .i64 n)
def oE (d s i:Nat):XI:=⟨some d,.ext (.tmp s) i,none,.f⟩
def oL (d s:Nat):XI:=⟨some d,.load1 (.tmp s),none,.f⟩
def oF (d n s:Nat):XI:=⟨some d,.fadr n (.tmp s),none,.f⟩
def oX (d w a b:Nat):XI:=⟨some d,.ixs w (.tmp a) (.tmp b),none,.f⟩
def oN (d s:Nat):XI:=⟨some d,.len (.tmp s),none,.f⟩
set_option linter.defProp false
theorem upd_apply {f:Fr} {i j:Nat} {v:Value}:upd f i v j=if j=i then v else f j:=rfl
theorem updo_some {f:Fr} {i:Nat} {v:Value}:updo f (some i) v=upd f i v:=rfl
theorem updo_none {f:Fr} {v:Value}:updo f none v=f:=rfl
theorem ev_tmp {f:Fr} {i:Nat}:ev f (.tmp i)=f i:=rfl
theorem ev_const {f:Fr} {v:Value}:ev f (.const v)=v:=rfl
theorem ev_func {f:Fr} {g:FuncId}:ev f (.func g)=.func (.func g) #[] #[]:=rfl
def QV (v:Value) (Q:Value→Prop):Prop:=Q v
@[congr] theorem QV_congr {v v':Value} {Q:Value→Prop} (e:v=v'):QV v Q=QV v' Q:=by rw[e]
theorem QV_eq {v:Value} {Q:Value→Prop}:QV v Q=Q v:=rfl
def WV (r:Option Value) (Q:Value→Prop):Prop:=∃ v,r=some v∧Q v
@[congr] theorem WV_congr {v v':Option Value} {Q:Value→Prop} (e:v=v'):WV v Q=WV v' Q:=by rw[e]
theorem WV_some {v:Value} {Q:Value→Prop}:WV (some v) Q=Q v:=by
 apply propext
 exact⟨fun ⟨v',e,q⟩=>by cases e;exact q,fun q=>⟨v,rfl,q⟩⟩
theorem WV_ite {c:Prop} [Decidable c] {v:Value} {Q:Value→Prop}:WV (if c then some v else none) Q=(c∧Q v):=by
 apply propext
 split
 ·rename_i hc
  rw[WV_some]
  exact⟨fun q=>⟨hc,q⟩,fun q=>q.2⟩
 ·rename_i hc
  exact⟨fun ⟨_,e,_⟩=>(by cases e),fun q=>(hc q.1).elim⟩
def HQ (r:Option AH) (Q:AH→Prop):Prop:=∃ h,r=some h∧Q h
@[congr] theorem HQ_congr {v v':Option AH} {Q:AH→Prop} (e:v=v'):HQ v Q=HQ v' Q:=by rw[e]
theorem HQ_some {v:AH} {Q:AH→Prop}:HQ (some v) Q=Q v:=by
 apply propext
 exact⟨fun ⟨v',e,q⟩=>by cases e;exact q,fun q=>⟨v,rfl,q⟩⟩
def PQ (v:Value) (Q:Nat→Nat→Prop):Prop:=match v with
 | .pointer (some p)=>Q p.block p.off
 | _=>False
@[congr] theorem PQ_congr {v v':Value} {Q:Nat→Nat→Prop} (e:v=v'):PQ v Q=PQ v' Q:=by rw[e]
theorem PQ_ptr {p:Addr} {Q:Nat→Nat→Prop}:PQ (.pointer (some p)) Q=Q p.block p.off:=rfl
def LQ (l:List Value) (Q:List Value→Prop):Prop:=Q l
@[congr] theorem LQ_congr {v v':List Value} {Q:List Value→Prop} (e:v=v'):LQ v Q=LQ v' Q:=by rw[e]
theorem LQ_eq {v:List Value} {Q:List Value→Prop}:LQ v Q=Q v:=rfl
@[congr] theorem WF_congr {S:XS} {g:FuncId} {args args':List Value} {h:AH} {Q:Value→AH→Prop} (e:args=args'):WF S g args h Q=WF S g args' h Q:=by rw[e]
def cellsL (v:Value):List Value:=v.cells.toList
theorem cellsL_agg {xs:Array Value}:cellsL (.agg xs)=xs.toList:=rfl
theorem cellsL_int {k:IntKind} {n:Int}:cellsL (.int k n)=[.int k n]:=rfl
theorem cellsL_bool {n:Bool}:cellsL (.bool n)=[.bool n]:=rfl
theorem cellsL_slice {a:Option Addr} {n c:Nat}:cellsL (.slice a n c)=[.slice a n c]:=rfl
theorem cellsL_ptr {a:Option Addr}:cellsL (.pointer a)=[.pointer a]:=rfl
theorem cellsL_func {g:Fn} {a b:Array Value}:cellsL (.func g a b)=[.func g a b]:=rfl
theorem OQ_none {Q:Value→AH→Prop}:OQ none Q=False:=by simp[OQ]
theorem WV_none {Q:Value→Prop}:WV none Q=False:=by simp[WV]
theorem HQ_none {Q:AH→Prop}:HQ none Q=False:=by simp[HQ]
def pickV (c a b:Value):Option Value:=match c with
 | .bool t=>some (if t then a else b)
 | _=>none
theorem pickV_t {a b:Value}:pickV (.bool true) a b=some a:=rfl
theorem pickV_f {a b:Value}:pickV (.bool false) a b=some b:=rfl
def fstV (cs:Value) (off:Nat):Option Value:=match cs with
 | .agg cs=>cs.toList[off]?
 | _=>none
theorem fstV_agg {xs:Array Value} {off:Nat}:fstV (.agg xs) off=xs.toList[off]?:=rfl
def extV (cs:Value) (off:Nat):Option Value:=match cs with
 | .tuple cs=>cs.toList[off]?
 | _=>none
theorem extV_tuple {xs:Array Value} {off:Nat}:extV (.tuple xs) off=xs.toList[off]?:=rfl
def lenV (v:Value):Option Value:=match v with
 | .slice _ n _=>some (.int .i64 n)
 | _=>none
theorem lenV_slice {a:Option Addr} {n c:Nat}:lenV (.slice a n c)=some (.int .i64 n):=rfl
def ixsV (sz:Nat) (x i:Value):Option Value:=match x,i with
 | .slice (some ⟨n,off,none⟩) len sz',.int _ j=>if 0≤j∧j<len∧sz'=sz then some (.pointer (some ⟨n,off+j.toNat*sz,none⟩)) else none
 | .slice (some ⟨n,off,some _⟩) len _,.int _ j=>if 0≤j∧j<len∧sz=1 then some (.pointer (some ⟨n,off+j.toNat,none⟩)) else none
 | _,_=>none
theorem ixsV_some {sz n off len sz':Nat} {k:IntKind} {j:Int}:ixsV sz (.slice (some ⟨n,off,none⟩) len sz') (.int k j)=if 0≤j∧j<len∧sz'=sz then some (.pointer (some ⟨n,off+j.toNat*sz,none⟩)) else none:=rfl
theorem ixsV_view {sz n off len sz' sp:Nat} {k:IntKind} {j:Int}:ixsV sz (.slice (some ⟨n,off,some sp⟩) len sz') (.int k j)=if 0≤j∧j<len∧sz=1 then some (.pointer (some ⟨n,off+j.toNat,none⟩)) else none:=rfl
def convV (k:IntKind) (x:Value):Option Value:=match x with
 | .int _ n=>some (.int k (k.wrap n))
 | _=>none
theorem convV_int {k k':IntKind} {n:Int}:convV k (.int k' n)=some (.int k (k.wrap n)):=rfl
def mksV (e:TypeId) (sz bytes:Nat) (z:List Value) (len:Value) (h:AH):Option (Value×AH):=match len with
 | .int _ n=>if 0≤n∧n*bytes≤140737488355328∧n≤9223372036854775807 then some (.slice (some ⟨h.length,0,none⟩) n.toNat sz,h.new ⟨zrep n.toNat z,e,false,true⟩) else none
 | _=>none
theorem mksV_int {e:TypeId} {sz bytes:Nat} {z:List Value} {k:IntKind} {n:Int} {h:AH}:mksV e sz bytes z (.int k n) h =
  if 0≤n∧n*bytes≤140737488355328∧n≤9223372036854775807 then some (.slice (some ⟨h.length,0,none⟩) n.toNat sz,h.new ⟨zrep n.toNat z,e,false,true⟩) else none:=rfl
def appV (e:TypeId) (sz bytes:Nat) (s x:Value) (h:AH):Option (Value×AH):=xop (.app e sz bytes (.const s) (.const x)) (fun _=>undef) h
def eqaV (neg:Bool) (n:Nat) (x y:Value):Option Value:=match x,y with
 | .agg xs,.agg ys=>match intsOf xs.toList,intsOf ys.toList with
  | some (k,as),some (k',bs)=>if k=k'∧as.length=n∧bs.length=n then some (.bool ((as==bs) != neg)) else none
  | _,_=>none
 | _,_=>none
theorem eqa3 {neg:Bool} {a b c a' b' c':Int}:eqaV neg 3 (.agg #[.int .i64 a,.int .i64 b,.int .i64 c]) (.agg #[.int .i64 a',.int .i64 b',.int .i64 c'])=some (.bool (decide (a=a'∧b=b'∧c=c') != neg)):=by
 have e:([a,b,c]==[a',b',c'])=decide (a=a'∧b=b'∧c=c'):=by
  by_cases h1:a=a'<;>by_cases h2:b=b'<;>by_cases h3:c=c'<;>simp[h1,h2,h3]
 simp[eqaV,intsOf,e]
def eqbV (neg:Bool) (x y:Value):Option Value:=match x,y with
 | .bool a,.bool b=>some (.bool ((a==b) != neg))
 | _,_=>none
theorem eqbV_b {neg a b:Bool}:eqbV neg (.bool a) (.bool b)=some (.bool ((a==b) != neg)):=rfl
section
variable {S:XS} {f:Fr} {h:AH} {Q:Value→AH→Prop} {x y a b c:Operand}
theorem WX_mv:WX S (.mv x) f h Q=QV (ev f x) (fun v=>Q v h):=by rw[WX_op (fun _=>rfl)];exact OQ_some
theorem WX_pick:WX S (.pick c a b) f h Q=WV (pickV (ev f c) (ev f a) (ev f b)) (fun v=>Q v h):=by
 rw[WX_op (fun _=>rfl)]
 simp only[xop,pickV]
 generalize ev f c=vc
 cases vc<;>simp[OQ_some,WV_some,OQ_none,WV_none]
theorem WX_alloc {e:TypeId} {z:List Value}:WX S (.alloc e z) f h Q=Q (.pointer (some ⟨h.length,0,none⟩)) (h.new ⟨z,e,false,true⟩):=by rw[WX_op (fun _=>rfl)];exact OQ_some
theorem WX_box {e:TypeId}:WX S (.box e x) f h Q=LQ (cellsL (ev f x)) fun c=>c.all isOne=true∧Q (.pointer (some ⟨h.length,0,none⟩)) (h.new ⟨c,e,false,true⟩):=by
 rw[WX_op (fun _=>rfl)];exact OQ_ite
theorem WX_boxn {e:TypeId} {n:Nat}:WX S (.boxn e n x) f h Q=LQ (cellsL (ev f x)) fun c=>(c.length=n∧c.all isOne=true)∧Q (.pointer (some ⟨h.length,0,none⟩)) (h.new ⟨c,e,false,true⟩):=by
 rw[WX_op (fun _=>rfl)];exact OQ_ite
theorem ptr_cases (v:Value):(∃ p,v=.pointer (some p))∨∀ p,v≠.pointer (some p):=by
 cases v
 case pointer a=>
  cases a with
  | none=>exact .inr (by simp)
  | some p=>exact .inl ⟨p,rfl⟩
 all_goals exact .inr (by simp)
theorem WX_load1:WX S (.load1 a) f h Q=PQ (ev f a) fun n off=>WV (h.rd1 n off) fun v=>Q v h:=by
 rw[WX_op (fun _=>rfl)]
 simp only[xop]
 rcases ptr_cases (ev f a) with⟨p,e⟩|hne
 ·rw[e]
  simp only[PQ]
  cases h.rd1 p.block p.off<;>simp[OQ_some,WV_some,OQ_none,WV_none]
 ·generalize ev f a=va at hne
  cases va with
  | pointer q=>cases q with
   | none=>simp[OQ_none,PQ]
   | some q=>exact (hne q rfl).elim
  | _=>simp[OQ_none,PQ]
theorem WX_loadn {n:Nat}:WX S (.loadn n a) f h Q=PQ (ev f a) fun m off=>WV ((h.rdn m off n).map fun c=>.agg c.toArray) fun v=>Q v h:=by
 rw[WX_op (fun _=>rfl)]
 simp only[xop]
 rcases ptr_cases (ev f a) with⟨p,e⟩|hne
 ·rw[e]
  simp only[PQ]
  cases h.rdn p.block p.off n<;>simp[OQ_some,WV_some,OQ_none,WV_none]
 ·generalize ev f a=va at hne
  cases va with
  | pointer q=>cases q with
   | none=>simp[OQ_none,PQ]
   | some q=>exact (hne q rfl).elim
  | _=>simp[OQ_none,PQ]
theorem WX_store {n:Nat}:WX S (.store n a x) f h Q=PQ (ev f a) fun m off=>LQ (cellsL (ev f x)) fun c=>(c.length=n∧c.all isOne=true)∧HQ (h.wr m off c) fun h'=>Q undef h':=by
 rw[WX_op (fun _=>rfl)]
 simp only[xop]
 rcases ptr_cases (ev f a) with⟨p,e⟩|hne
 ·rw[e]
  simp only[PQ,LQ,cellsL]
  apply propext
  split
  ·rename_i hc
   cases h.wr p.block p.off (ev f x).cells.toList with
   | none=>simp[OQ_none,HQ_none]
   | some h'=>simp[OQ_some,HQ_some,hc]
  ·rename_i hc
   exact⟨fun ⟨_,_,q,_⟩=>(by cases q),fun q=>(hc q.1).elim⟩
 ·generalize ev f a=va at hne
  cases va with
  | pointer q=>cases q with
   | none=>simp[OQ_none,PQ]
   | some q=>exact (hne q rfl).elim
  | _=>simp[OQ_none,PQ]
theorem WX_bin {op:BinOp}:WX S (.bin op x y) f h Q=WV (xbin op (ev f x) (ev f y)) fun v=>Q v h:=by
 rw[WX_op (fun _=>rfl)]
 simp only[xop]
 cases xbin op (ev f x) (ev f y)<;>simp[OQ_some,WV_some,OQ_none,WV_none]
theorem WX_un {op:UnOp}:WX S (.un op x) f h Q=WV (xun op (ev f x)) fun v=>Q v h:=by
 rw[WX_op (fun _=>rfl)]
 simp only[xop]
 cases xun op (ev f x)<;>simp[OQ_some,WV_some,OQ_none,WV_none]
theorem WX_conv {k:IntKind}:WX S (.conv k x) f h Q=WV (convV k (ev f x)) fun v=>Q v h:=by
 rw[WX_op (fun _=>rfl)]
 simp only[xop,convV]
 generalize ev f x=vc
 cases vc<;>simp[OQ_some,WV_some,OQ_none,WV_none]
theorem WX_fadr {off:Nat}:WX S (.fadr off x) f h Q=PQ (ev f x) fun n o=>Q (.pointer (some ⟨n,o+off,none⟩)) h:=by
 rw[WX_op (fun _=>rfl)]
 simp only[xop]
 rcases ptr_cases (ev f x) with⟨p,e⟩|hne
 ·rw[e]
  simp[PQ,OQ_some]
 ·generalize ev f x=va at hne
  cases va with
  | pointer q=>cases q with
   | none=>simp[OQ_none,PQ]
   | some q=>exact (hne q rfl).elim
  | _=>simp[OQ_none,PQ]
theorem WX_fld1 {off:Nat}:WX S (.fld1 off x) f h Q=WV (fstV (ev f x) off) fun v=>Q v h:=by
 rw[WX_op (fun _=>rfl)]
 simp only[xop,fstV]
 generalize ev f x=vc
 cases vc
 case agg cs=>
  simp only
  cases cs.toList[off]?<;>simp[OQ_some,WV_some,OQ_none,WV_none]
 all_goals simp[OQ_some,WV_some,OQ_none,WV_none]
theorem WX_ext {i:Nat}:WX S (.ext x i) f h Q=WV (extV (ev f x) i) fun v=>Q v h:=by
 rw[WX_op (fun _=>rfl)]
 simp only[xop,extV]
 generalize ev f x=vc
 cases vc
 case tuple cs=>
  simp only
  cases cs.toList[i]?<;>simp[OQ_some,WV_some,OQ_none,WV_none]
 all_goals simp[OQ_some,WV_some,OQ_none,WV_none]
def capV (v:Value):Option Value:=match v with
 | .slice none 0 0=>some (.int .i64 0)
 | _=>none
theorem capV_nil:capV (.slice none 0 0)=some (.int .i64 0):=rfl
theorem WX_cap:WX S (.cap x) f h Q=WV (capV (ev f x)) fun v=>Q v h:=by
 rw[WX_op (fun _=>rfl)]
 simp only[xop,capV]
 generalize ev f x=vx
 split<;>simp[OQ_some,WV_some,OQ_none,WV_none]
theorem WX_len:WX S (.len x) f h Q=WV (lenV (ev f x)) fun v=>Q v h:=by
 rw[WX_op (fun _=>rfl)]
 simp only[xop,lenV]
 generalize ev f x=vc
 cases vc<;>simp[OQ_some,WV_some,OQ_none,WV_none]
theorem WX_ixs {sz:Nat}:WX S (.ixs sz x y) f h Q=WV (ixsV sz (ev f x) (ev f y)) fun v=>Q v h:=by
 rw[WX_op (fun _=>rfl)]
 have:xop (.ixs sz x y) f h=(ixsV sz (ev f x) (ev f y)).map (·,h):=by
  simp only[xop,ixsV]
  generalize ev f x=vx
  generalize ev f y=vy
  cases vx<;>try rfl
  rename_i a len sz'
  rcases a with -|⟨n0,o0,-|sp⟩<;>try rfl
  ·cases vy<;>try rfl
   simp only
   split<;>rfl
  ·cases vy<;>try rfl
   simp only
   split<;>rfl
 rw[this]
 cases ixsV sz (ev f x) (ev f y)<;>simp[OQ_some,WV_some,OQ_none,WV_none]
theorem WX_eqb {neg:Bool}:WX S (.eqb neg x y) f h Q=WV (eqbV neg (ev f x) (ev f y)) fun v=>Q v h:=by
 rw[WX_op (fun _=>rfl)]
 have:xop (.eqb neg x y) f h=(eqbV neg (ev f x) (ev f y)).map (·,h):=by
  simp only[xop,eqbV]
  generalize ev f x=vx
  generalize ev f y=vy
  cases vx<;>try rfl
  cases vy<;>rfl
 rw[this]
 cases eqbV neg (ev f x) (ev f y)<;>simp[OQ_some,WV_some,OQ_none,WV_none]
theorem WX_eqa {neg:Bool} {n:Nat}:WX S (.eqa neg n x y) f h Q=WV (eqaV neg n (ev f x) (ev f y)) fun v=>Q v h:=by
 rw[WX_op (fun _=>rfl)]
 have:xop (.eqa neg n x y) f h=(eqaV neg n (ev f x) (ev f y)).map (·,h):=by
  simp only[xop,eqaV]
  generalize ev f x=vx
  generalize ev f y=vy
  cases vx<;>try rfl
  cases vy<;>try rfl
  rename_i xs ys
  simp only
  cases intsOf xs.toList with
  | none=>rfl
  | some a=>
   cases intsOf ys.toList with
   | none=>rfl
   | some b=>
    simp only
    split<;>rfl
 rw[this]
 cases eqaV neg n (ev f x) (ev f y)<;>simp[OQ_some,WV_some,OQ_none,WV_none]
theorem WX_mks {e:TypeId} {sz bytes:Nat} {z:List Value}:WX S (.mks e sz bytes z x) f h Q=OQ (mksV e sz bytes z (ev f x) h) Q:=by
 rw[WX_op (fun _=>rfl)]
 rfl
def nchkV (v:Value):Option Value:=match v with
 | .pointer (some p)=>some (.pointer (some p))
 | _=>none
theorem nchkV_p {n off:Nat} {s:Option Nat}:nchkV (.pointer (some ⟨n,off,s⟩))=some (.pointer (some ⟨n,off,s⟩)):=rfl
theorem WX_nchk:WX S (.nchk x) f h Q=WV (nchkV (ev f x)) fun v=>Q v h:=by
 rw[WX_op (fun _=>rfl)]
 simp only[xop,nchkV]
 generalize ev f x=vx
 split<;>simp[OQ_some,WV_some,OQ_none,WV_none]
def clrV (sz:Nat) (z:List Value) (v:Value) (h:AH):Option (Value×AH):=xop (.clr sz z (.const v)) (fun _=>undef) h
theorem WX_clr {sz:Nat} {z:List Value}:WX S (.clr sz z x) f h Q=OQ (clrV sz z (ev f x) h) Q:=WX_op fun _=>rfl
def idxtV (s i:Value) (h:AH):Option (Value×AH):=xop (.idxt (.const s) (.const i)) (fun _=>undef) h
theorem WX_idxt {i:Operand}:WX S (.idxt x i) f h Q=OQ (idxtV (ev f x) (ev f i) h) Q:=WX_op fun _=>rfl
theorem WX_mkz:WX S .mkz f h Q=QV (.slice none 0 2) (fun v=>Q v h):=by rw[WX_op (fun _=>rfl)];exact OQ_some
def appzV (e:TypeId) (sz bytes:Nat) (s x:Value) (h:AH):Option (Value×AH):=match s,x with
 | .slice none 0 0,.int _ n=>if 0<n∧n*bytes≤140737488355328∧n≤9223372036854775807 then some (.slice (some ⟨h.length,0,none⟩) n.toNat sz,h.new ⟨[],e,false,false⟩) else none
 | _,_=>none
theorem appzV_nil {e:TypeId} {sz bytes:Nat} {k:IntKind} {n:Int} {h:AH}:appzV e sz bytes (.slice none 0 0) (.int k n) h=if 0<n∧n*bytes≤140737488355328∧n≤9223372036854775807 then some (.slice (some ⟨h.length,0,none⟩) n.toNat sz,h.new ⟨[],e,false,false⟩) else none:=rfl
theorem WX_appz {e:TypeId} {sz bytes:Nat}:WX S (.appz e sz bytes x y) f h Q=OQ (appzV e sz bytes (ev f x) (ev f y) h) Q:=by
 rw[WX_op (fun _=>rfl)]
 rfl
theorem WX_app {e:TypeId} {sz bytes:Nat}:WX S (.app e sz bytes x y) f h Q=OQ (appV e sz bytes (ev f x) (ev f y) h) Q:=by
 rw[WX_op (fun _=>rfl)]
 rfl
theorem WX_mkf {g:FuncId} {l:List Operand}:WX S (.mkf g l) f h Q=LQ (l.map (ev f)) fun c=>Q (.func (.func g) #[] c.toArray) h:=by
 rw[WX_op (fun _=>rfl)];exact OQ_some
def WK (S:XS) (v:Value) (args:List Value) (h:AH) (Q:Value→AH→Prop):Prop:=match v with
 | .func (.func g) first cap=>if first.toList.isEmpty=true then WF S g (args++cap.toList) h Q else False
 | _=>False
@[congr] theorem WK_congr {S:XS} {v v':Value} {args args':List Value} {h:AH} {Q:Value→AH→Prop} (e:v=v') (e':args=args'):WK S v args h Q=WK S v' args' h Q:=by rw[e,e']
theorem WK_func {S:XS} {g:FuncId} {cap:Array Value} {args:List Value} {h:AH} {Q:Value→AH→Prop}:WK S (.func (.func g) #[] cap) args h Q=WF S g (args++cap.toList) h Q:=rfl
theorem WX_calls {fo:Operand} {args:List Operand}:WX S (.call fo args) f h Q=WK S (ev f fo) (args.map (ev f)) h Q:=by
 unfold WX WK
 simp only[xrun]
 generalize ev f fo=v
 cases v
 case func g first cap=>
  cases g with
  | func g=>
   simp only
   split
   ·rfl
   ·simp
  | _=>simp
 all_goals simp
def fillL:List Value→List (Nat×Nat×Value)→Option (List Value)
 | z,[]=>some z
 | z,(off,n,x)::rest=>
  if (cellsL x).length=n∧off+n≤z.length then fillL (splice z off (cellsL x)) rest else none
theorem fillX_eq:∀ (l:List (Nat×Nat×Operand)) (z:List Value),fillX f z l=fillL z (l.map fun p=>(p.1,p.2.1,ev f p.2.2))
 | [],z=>rfl
 | (off,n,x)::rest,z=>by
  simp only[fillX,List.map_cons,fillL,cellsL,fillX_eq rest]
  congr 1
def VQ (r:Option (List Value)) (Q:List Value→Prop):Prop:=∃ h,r=some h∧Q h
@[congr] theorem VQ_congr {v v':Option (List Value)} {Q:List Value→Prop} (e:v=v'):VQ v Q=VQ v' Q:=by rw[e]
theorem VQ_none {Q:List Value→Prop}:VQ none Q=False:=by simp[VQ]
theorem VQ_some {v:List Value} {Q:List Value→Prop}:VQ (some v) Q=Q v:=by
 apply propext
 exact⟨fun ⟨v',e,q⟩=>by cases e;exact q,fun q=>⟨v,rfl,q⟩⟩
theorem WX_build {z:List Value} {l:List (Nat×Nat×Operand)}:WX S (.build z l) f h Q=VQ (fillL z (l.map fun p=>(p.1,p.2.1,ev f p.2.2))) fun c=>c.all isOne=true∧Q (.agg c.toArray) h:=by
 rw[WX_op (fun _=>rfl)]
 simp only[xop,fillX_eq]
 cases fillL z (l.map fun p=>(p.1,p.2.1,ev f p.2.2)) with
 | none=>simp[OQ_none,VQ_none]
 | some v=>simp only[VQ_some,OQ_ite]
theorem WX_bslice {e:TypeId} {sz n:Nat} {z:List Value} {l:List (Nat×Nat×Operand)}:WX S (.bslice e sz n z l) f h Q =
  VQ (fillL (zrep n z) (l.map fun p=>(p.1,p.2.1,ev f p.2.2))) fun c=>c.all isOne=true∧Q (.slice (some ⟨h.length,0,none⟩) n sz) (h.new ⟨c,e,false,true⟩):=by
 rw[WX_op (fun _=>rfl)]
 simp only[xop,fillX_eq]
 cases fillL (zrep n z) (l.map fun p=>(p.1,p.2.1,ev f p.2.2)) with
 | none=>simp[OQ_none,VQ_none]
 | some v=>simp only[VQ_some,OQ_ite]
end
theorem app_own {e:TypeId} {bytes:Nat} {h:AH} {k n n':Nat} {c:List Value} {v:Value} {full:Bool} (hk:h.get k=some ⟨c,e,false,full⟩) (hc:c.length=n) (hn:h.rdn n' 0 1=some [v])
  (hs:(n+1:Int)*bytes≤140737488355328∧(n+1:Int)≤9223372036854775807) :
  appV e 1 bytes (.slice (some ⟨k,0,none⟩) n 1) (.slice (some ⟨n',0,none⟩) 1 1) h=some (.slice (some ⟨h.length,0,none⟩) (n+1) 1,(h.kill k).new ⟨c++[v],e,false,false⟩):=by
 simp only[appV,xop,ev,if_true,Nat.mul_one,hn,hk]
 rw[if_pos (by simpa using hs)]
 simp[hc]
theorem app_nil {e:TypeId} {bytes:Nat} {h:AH} {n' t:Nat} {v:Value} (ht:t=0∨t=2) (hn:h.rdn n' 0 1=some [v])
  (hs:(1:Int)*bytes≤140737488355328) :
  appV e 1 bytes (.slice none 0 t) (.slice (some ⟨n',0,none⟩) 1 1) h=some (.slice (some ⟨h.length,0,none⟩) 1 1,h.new ⟨[v],e,false,false⟩):=by
 simp only[appV,xop,ev,if_true,Nat.mul_one,hn]
 rw[if_pos (by simpa using hs)]
 simp[ht]
section
variable {k k':IntKind} {a b:Int}
theorem bin_add:xbin .add (.int k a) (.int k b)=some (.int k (k.wrap (a+b))):=by simp[xbin]
theorem bin_sub:xbin .sub (.int k a) (.int k b)=some (.int k (k.wrap (a-b))):=by simp[xbin]
theorem bin_mul:xbin .mul (.int k a) (.int k b)=some (.int k (k.wrap (a*b))):=by simp[xbin]
theorem bin_rem (hb:b≠0):xbin .rem (.int k a) (.int k b)=some (.int k (a.tmod b)):=by simp[xbin,hb]
theorem bin_eql:xbin .eql (.int k a) (.int k b)=some (.bool (decide (a=b))):=by simp[xbin];rfl
theorem bin_neq:xbin .neq (.int k a) (.int k b)=some (.bool (decide (a≠b))):=by simp[xbin];rfl
theorem bin_lss:xbin .lss (.int k a) (.int k b)=some (.bool (decide (a<b))):=by simp[xbin]
theorem bin_leq:xbin .leq (.int k a) (.int k b)=some (.bool (decide (a≤b))):=by simp[xbin]
theorem bin_gtr:xbin .gtr (.int k a) (.int k b)=some (.bool (decide (b<a))):=by simp[xbin]
theorem bin_geq:xbin .geq (.int k a) (.int k b)=some (.bool (decide (b≤a))):=by simp[xbin]
theorem un_not {b:Bool}:xun .not (.bool b)=some (.bool !b):=rfl
theorem un_minus:xun .neg (.int k a)=some (.int k (k.wrap (0-a))):=rfl
theorem wrap64_in (h1:-9223372036854775808≤a) (h2:a≤9223372036854775807):IntKind.i64.wrap a=a:=IntWalk.i64_in a ⟨h1,h2⟩
end
section
variable {h h' h0:AH} {b b':Blk} {n m:Nat}
theorem rd1_eq {off:Nat}:h.rd1 n off=(h.get n).bind fun b=>b.c[off]?:=rfl
theorem rdn_eq {off k:Nat}:h.rdn n off k=(h.get n).bind fun b=>if off+k≤b.c.length then some ((b.c.drop off).take k) else none:=rfl
theorem rd1_of {off:Nat} (hb:h.get n=some b):h.rd1 n off=b.c[off]?:=by rw[rd1_eq,hb];rfl
theorem rdn_of {off k:Nat} (hb:h.get n=some b):h.rdn n off k=if off+k≤b.c.length then some ((b.c.drop off).take k) else none:=by rw[rdn_eq,hb];rfl
theorem len_new:(h.new b).length=h.length+1:=by simp[AH.new]
theorem get_new_same:(h.new b).get h.length=some b:=by simp[AH.new,AH.get]
theorem get_new_eq (e:n=h.length):(h.new b).get n=some b:=by subst e;exact get_new_same
theorem get_new_lt (e:n<h.length):(h.new b).get n=h.get n:=by
 simp[AH.new,AH.get,List.getElem?_append_left e]
theorem rd1_new_same {off:Nat}:(h.new b).rd1 h.length off=b.c[off]?:=rd1_of get_new_same
theorem rdn_new_same {off k:Nat}:(h.new b).rdn h.length off k=if off+k≤b.c.length then some ((b.c.drop off).take k) else none:=rdn_of get_new_same
theorem drop_zero_v {l:List Value}:l.drop 0=l:=rfl
theorem drop_cons_v {a:Value} {l:List Value} {n:Nat}:(a::l).drop n=if n=0 then a::l else l.drop (n-1):=by cases n<;>rfl
theorem take_zero_v {l:List Value}:l.take 0=[]:=rfl
theorem take_nil_v:([]:List Value).take n=[]:=by cases n<;>rfl
theorem take_cons_v {a:Value} {l:List Value} {n:Nat}:(a::l).take n=if n=0 then [] else a::l.take (n-1):=by cases n<;>rfl
theorem app_nil_v {l:List Value}:[]++l=l:=rfl
theorem app_cons_v {a:Value} {l m:List Value}:(a::l)++m=a::(l++m):=rfl
theorem splice_cons {a:Value} {l vs:List Value} {off:Nat}:splice (a::l) off vs=if off=0 then vs++(a::l).drop vs.length else a::splice l (off-1) vs:=by
 cases off with
 | zero=>simp[splice]
 | succ n=>
  rw[if_neg (by omega)]
  show (a::l).take (n+1)++vs++(a::l).drop (n+1+vs.length)=a::(l.take n++vs++l.drop (n+vs.length))
  rw[show n+1+vs.length=(n+vs.length)+1 by omega,List.drop_succ_cons,List.take_succ_cons]
  rfl
theorem splice_eq {c vs:List Value} {off:Nat}:splice c off vs=c.take off++vs++c.drop (off+vs.length):=rfl
def AH.put (h:AH) (n:Nat) (b:Blk):AH:=h.set n (some b)
theorem len_put:(h.put n b).length=h.length:=by simp[AH.put]
theorem len_kill:(h.kill n).length=h.length:=by simp[AH.kill]
theorem get_put_same (e:n<h.length):(h.put n b).get n=some b:=by
 simp[AH.put,AH.get,List.getElem?_set_self e]
theorem get_put_ne (e:n≠m):(h.put n b).get m=h.get m:=by
 simp[AH.put,AH.get,List.getElem?_set_ne e]
theorem get_kill_ne (e:n≠m):(h.kill n).get m=h.get m:=by
 simp[AH.kill,AH.get,List.getElem?_set_ne e]
theorem pre_new (p:h0<+:h):h0<+:h.new b:=p.trans (List.prefix_append _ _)
theorem pre_put (p:h0<+:h) (e:h0.length≤n):h0<+:h.put n b:=by
 obtain⟨t,rfl⟩:=p
 refine⟨t.set (n-h0.length) (some b),?_⟩
 unfold AH.put
 rw[List.set_append_right _ _ e]
theorem pre_kill (p:h0<+:h) (e:h0.length≤n):h0<+:h.kill n:=by
 obtain⟨t,rfl⟩:=p
 refine⟨t.set (n-h0.length) none,?_⟩
 unfold AH.kill
 rw[List.set_append_right _ _ e]
theorem pre_get (p:h<+:h') (e:h.get n=some b):h'.get n=some b:=by
 obtain⟨t,rfl⟩:=p
 have hn:=get_lt e
 unfold AH.get at e ⊢
 rw[List.getElem?_append_left hn]
 exact e
theorem pre_len (p:h<+:h'):h.length≤h'.length:=p.length_le
theorem get_new_any (hb:h.get n=some b'):(h.new b).get n=some b':=pre_get (pre_new (List.prefix_refl _)) hb
theorem rd1_new_lt {off:Nat} (e:n<h.length):(h.new b).rd1 n off=h.rd1 n off:=by rw[rd1_eq,rd1_eq,get_new_lt e]
theorem rdn_new_lt {off k:Nat} (e:n<h.length):(h.new b).rdn n off k=h.rdn n off k:=by rw[rdn_eq,rdn_eq,get_new_lt e]
theorem wr_new_same {off:Nat} {vs:List Value}:(h.new b).wr h.length off vs=if b.ro=false∧off+vs.length≤b.c.length then some (h.new { b with c:=splice b.c off vs }) else none:=by
 unfold AH.wr
 rw[get_new_same]
 simp only[Option.bind_some]
 split
 ·simp[AH.new]
 ·rfl
theorem wr_new_lt {off:Nat} {vs:List Value} (e:n<h.length):(h.new b).wr n off vs=(h.wr n off vs).map (·.new b):=by
 unfold AH.wr
 rw[get_new_lt e]
 cases h.get n with
 | none=>rfl
 | some b1=>
  simp only[Option.bind_some]
  split
  ·simp[AH.new,List.set_append_left _ _ e]
  ·rfl
theorem wr_of {off:Nat} {vs:List Value} (e:h.get n=some b):h.wr n off vs=if b.ro=false∧off+vs.length≤b.c.length then some (h.put n { b with c:=splice b.c off vs }) else none:=by
 unfold AH.wr
 rw[e]
 rfl
theorem rd1_put_same {off:Nat} (e:n<h.length):(h.put n b).rd1 n off=b.c[off]?:=rd1_of (get_put_same e)
theorem rdn_put_same {off k:Nat} (e:n<h.length):(h.put n b).rdn n off k=if off+k≤b.c.length then some ((b.c.drop off).take k) else none:=rdn_of (get_put_same e)
theorem rd1_put_ne {off:Nat} (e:n≠m):(h.put n b).rd1 m off=h.rd1 m off:=by rw[rd1_eq,rd1_eq,get_put_ne e]
theorem rdn_put_ne {off k:Nat} (e:n≠m):(h.put n b).rdn m off k=h.rdn m off k:=by rw[rdn_eq,rdn_eq,get_put_ne e]
theorem wr_put_same {off:Nat} {vs:List Value} (e:n<h.length):(h.put n b).wr n off vs=if b.ro=false∧off+vs.length≤b.c.length then some (h.put n { b with c:=splice b.c off vs }) else none:=by
 rw[wr_of (get_put_same e)]
 simp[AH.put]
theorem wr_put_ne {off:Nat} {vs:List Value} (e:n≠m):(h.put n b).wr m off vs=(h.wr m off vs).map (·.put n b):=by
 unfold AH.wr
 rw[get_put_ne e]
 cases h.get m with
 | none=>rfl
 | some b1=>
  simp only[Option.bind_some]
  split
  ·simp[AH.put,List.set_comm _ _ e]
  ·rfl
theorem HQ_ite {c:Prop} [Decidable c] {v:AH} {Q:AH→Prop}:HQ (if c then some v else none) Q=(c∧Q v):=by
 apply propext
 split
 ·rename_i hc
  rw[HQ_some]
  exact⟨fun q=>⟨hc,q⟩,fun q=>q.2⟩
 ·rename_i hc
  exact⟨fun ⟨_,e,_⟩=>(by cases e),fun q=>(hc q.1).elim⟩
theorem map_ite_v {α β:Type} {c:Prop} [Decidable c] {g:α→β} {a:α}:(if c then some a else none).map g=if c then some (g a) else none:=by split<;>rfl
end
def nth (l:List Int) (j:Int):Int:=l.getD j.toNat 0
abbrev I64 (n:Int):Value:=.int .i64 n
def Ints (h:AH) (v:Value) (ns:List Int):Prop:=
 (ns=[]∧∃ t,t≤2∧v=.slice none 0 t) ∨
 ∃ b off blk,v=.slice (some ⟨b,off,none⟩) ns.length 1∧h.get b=some blk∧off+ns.length≤blk.c.length∧∀ i,i<ns.length→blk.c[off+i]?=some (.int .i64 (ns.getD i 0))
def pAt (v:Value) (sz:Nat) (j:Int):Addr:=match v with
 | .slice (some a) _ _=>⟨a.block,a.off+j.toNat*sz,none⟩
 | _=>⟨0,0,none⟩
section
variable {h h':AH} {v:Value} {ns:List Int}
theorem Ints.pre (p:h<+:h') (hv:Ints h v ns):Ints h' v ns:=by
 rcases hv with hv|⟨b,off,blk,h1,h2,h3,h4⟩
 ·exact .inl hv
 ·exact .inr ⟨b,off,blk,h1,pre_get p h2,h3,h4⟩
theorem Ints.len (hv:Ints h v ns):lenV v=some (.int .i64 ns.length):=by
 rcases hv with⟨rfl,t,_,rfl⟩|⟨b,off,blk,rfl,h2,h3,h4⟩<;>rfl
theorem Ints.one (hv:Ints h v ns):isOne v=true:=by
 rcases hv with⟨rfl,t,_,rfl⟩|⟨b,off,blk,rfl,h2,h3,h4⟩<;>rfl
theorem Ints.cells (hv:Ints h v ns):cellsL v=[v]:=by
 rcases hv with⟨rfl,t,_,rfl⟩|⟨b,off,blk,rfl,h2,h3,h4⟩<;>rfl
theorem Ints.ix (hv:Ints h v ns) {k:IntKind} {j:Int} (h0:0≤j) (h1:j<ns.length):ixsV 1 v (.int k j)=some (.pointer (some (pAt v 1 j))):=by
 rcases hv with⟨rfl,t,_,rfl⟩|⟨b,off,blk,rfl,h2,h3,h4⟩
 ·simp at h1;omega
 ·simp[ixsV,h0,h1,pAt]
theorem Ints.rd (hv:Ints h v ns) {j:Int} (h0:0≤j) (h1:j<ns.length):h.rd1 (pAt v 1 j).block (pAt v 1 j).off=some (.int .i64 (nth ns j)):=by
 rcases hv with⟨rfl,t,_,rfl⟩|⟨b,off,blk,rfl,h2,h3,h4⟩
 ·simp at h1;omega
 ·have:=h4 j.toNat (by omega)
  simp[AH.rd1,pAt,h2,this,nth]
theorem Ints.own {n:Nat} {blk:Blk} (hb:h.get n=some blk) (hc:blk.c=ns.map (.int .i64)):Ints h (.slice (some ⟨n,0,none⟩) ns.length 1) ns:=by
 refine .inr ⟨n,0,blk,rfl,hb,by rw[hc];simp,fun i hi=>?_⟩
 rw[hc]
 simp[List.getElem?_map,List.getD_eq_getElem?_getD,List.getElem?_eq_getElem hi]
end
section
variable {S:XS} {f:Fr} {h:AH} {Q:XE→Fr→AH→Prop} {R:Value→AH→Prop} {b:IR} {rs:List XRes} {id id' n:Nat} {I:Nat→Fr→AH→Prop}
theorem SeqQ_n:SeqQ S b Q .normal f h=WC S b f h Q:=rfl
theorem SeqQ_e:SeqQ S b Q (.exit id) f h=Q (.exit id) f h:=rfl
theorem SeqQ_r:SeqQ S b Q .ret f h=Q .ret f h:=rfl
theorem BlkQ_n:BlkQ id Q .normal f h=Q .normal f h:=rfl
theorem BlkQ_e:BlkQ id Q (.exit id') f h=if id'=id then Q .normal f h else Q (.exit id') f h:=rfl
theorem BlkQ_r:BlkQ id Q .ret f h=Q .ret f h:=rfl
theorem RegQ_eq:RegQ Q f h=Q .normal f h:=rfl
theorem InvQ_go (m:Nat) (hm:m<n) (hI:I m f h):InvQ I n Q .normal f h:=⟨m,hm,hI⟩
theorem InvQ_e:InvQ I n Q (.exit id) f h=Q (.exit id) f h:=rfl
theorem InvQ_r:InvQ I n Q .ret f h=Q .ret f h:=rfl
theorem LoopQ_n:LoopQ S b Q .normal f h=WC S (.loop b) f h Q:=rfl
theorem LoopQ_e:LoopQ S b Q (.exit id) f h=Q (.exit id) f h:=rfl
theorem LoopQ_r:LoopQ S b Q .ret f h=Q .ret f h:=rfl
theorem RetQ_n:RetQ rs R .normal f h=OQ ((xres f h rs).map (·,h)) R:=rfl
theorem RetQ_r:RetQ rs R .ret f h=OQ ((xres f h rs).map (·,h)) R:=rfl
theorem xres_tmp {t:Nat}:xres f h [.tmp t]=some (f t):=rfl
theorem xres_tmp2 {t u:Nat}:xres f h [.tmp t,.tmp u]=some (.tuple #[f t,f u]):=rfl
theorem xres_cell {t:Nat}:xres f h [.cell1 t]=xres1 f h (.cell1 t):=by
 unfold xres xresl xresl
 cases xres1 f h (.cell1 t)<;>rfl
theorem xres_cells {t n:Nat}:xres f h [.celln t n]=xres1 f h (.celln t n):=by
 unfold xres xresl xresl
 cases xres1 f h (.celln t n)<;>rfl
def tup2 (a b:Option Value):Option Value:=match a,b with
 | some a,some b=>some (.tuple #[a,b])
 | _,_=>none
theorem tup2_some {a b:Value}:tup2 (some a) (some b)=some (.tuple #[a,b]):=rfl
theorem xres_2 {r r':XRes}:xres f h [r,r']=tup2 (xres1 f h r) (xres1 f h r'):=by
 unfold xres xresl xresl xresl
 cases xres1 f h r<;>cases xres1 f h r'<;>rfl
def rd1V (v:Value) (h:AH):Option Value:=match v with
 | .pointer (some p)=>h.rd1 p.block p.off
 | _=>none
def rdnV (v:Value) (h:AH) (n:Nat):Option Value:=match v with
 | .pointer (some p)=>(h.rdn p.block p.off n).map fun c=>.agg c.toArray
 | _=>none
theorem rd1V_ptr {p:Addr}:rd1V (.pointer (some p)) h=h.rd1 p.block p.off:=rfl
theorem rdnV_ptr {p:Addr}:rdnV (.pointer (some p)) h n=(h.rdn p.block p.off n).map fun c=>.agg c.toArray:=rfl
theorem xres1_tmp {t:Nat}:xres1 f h (.tmp t)=some (f t):=rfl
theorem xres1_cell {t:Nat}:xres1 f h (.cell1 t)=rd1V (f t) h:=by
 simp only[xres1,rd1V]
 generalize f t=v
 cases v<;>try rfl
 rename_i a
 cases a<;>rfl
theorem xres1_cells {t:Nat}:xres1 f h (.celln t n)=rdnV (f t) h n:=by
 simp only[xres1,rdnV]
 generalize f t=v
 cases v<;>try rfl
 rename_i a
 cases a<;>rfl
theorem args_nil {j:Nat}:(([]:List Value).getD j undef)=undef:=rfl
theorem args_cons {a:Value} {l:List Value} {j:Nat}:(a::l).getD j undef=if j=0 then a else l.getD (j-1) undef:=by
 cases j<;>rfl
theorem map_some_v {α β:Type} {g:α→β} {a:α}:(some a).map g=some (g a):=rfl
theorem bind_some_v {α β:Type} {g:α→Option β} {a:α}:(some a).bind g=g a:=rfl
theorem map_cons_v {α β:Type} {g:α→β} {a:α} {l:List α}:(a::l).map g=g a::l.map g:=rfl
theorem map_nil_v {α β:Type} {g:α→β}:([]:List α).map g=[]:=rfl
theorem lit_nil {α:Type} {j:Nat}:([]:List α)[j]?=none:=rfl
theorem lit_cons {α:Type} {a:α} {l:List α} {j:Nat}:(a::l)[j]?=if j=0 then some a else l[j-1]?:=by
 cases j<;>rfl
theorem toL {α:Type} {l:List α}:l.toArray.toList=l:=rfl
theorem all_cons_v {a:Value} {l:List Value}:(a::l).all isOne=(isOne a&&l.all isOne):=rfl
theorem all_nil_v:([]:List Value).all isOne=true:=rfl
theorem one_int {k:IntKind} {n:Int}:isOne (.int k n)=true:=rfl
theorem one_bool {n:Bool}:isOne (.bool n)=true:=rfl
theorem one_slice {a:Option Addr} {n c:Nat}:isOne (.slice a n c)=true:=rfl
theorem one_func {g:Fn} {a b:Array Value}:isOne (.func g a b)=true:=rfl
theorem one_ptr {a:Option Addr}:isOne (.pointer a)=true:=rfl
theorem len_cons_v {a:Value} {l:List Value}:(a::l).length=l.length+1:=rfl
theorem len_nil_v:([]:List Value).length=0:=rfl
end
def lnx:=And.intro @len_new (And.intro @len_put @len_kill)
def zz0:=And.intro @Nat.zero_add @Nat.sub_zero
def xpre:=And.intro @WC_skip (And.intro @WC_exit (And.intro @WC_ret (And.intro @WC_reg (And.intro @WC_seq (And.intro @WC_cond (And.intro @WC_blk (And.intro @WO_free (And.intro @WO_calm (And.intro @WO_wild (And.intro @WO_sload1 (And.intro @WO_sloadn (And.intro @WO_sstore (And.intro @WO_scall (And.intro @WO_guard (And.intro @WX_mv (And.intro @WX_pick (And.intro @WX_alloc (And.intro @WX_box (And.intro @WX_boxn (And.intro @WX_load1 (And.intro @WX_loadn (And.intro @WX_store (And.intro @WX_bin (And.intro @WX_un (And.intro @WX_conv (And.intro @WX_fadr (And.intro @WX_fld1 (And.intro @WX_ext (And.intro @WX_len (And.intro @WX_cap (And.intro @WX_ixs (And.intro @WX_eqb (And.intro @WX_eqa (And.intro @WX_mks (And.intro @WX_app (And.intro @WX_appz (And.intro @WX_mkz (And.intro @WX_nchk (And.intro @WX_clr (And.intro @WX_idxt (And.intro @WX_mkf (And.intro @WX_build (And.intro @WX_bslice (And.intro @WX_callf (And.intro @WX_calls (And.intro @ev_tmp (And.intro @ev_const (And.intro @ev_func (And.intro @updo_some (And.intro @updo_none (And.intro @upd_apply (And.intro @SeqQ_n (And.intro @SeqQ_e (And.intro @SeqQ_r (And.intro @BlkQ_n (And.intro @BlkQ_e (And.intro @BlkQ_r (And.intro @RegQ_eq (And.intro @RetQ_n (And.intro @RetQ_r (And.intro @InvQ_e (And.intro @InvQ_r (And.intro @LoopQ_e (@LoopQ_r))))))))))))))))))))))))))))))))))))))))))))))))))))))))))))))))
def xpost:=And.intro @AP_nil (And.intro @AP_cons (And.intro @KpV_ptr (And.intro @nchkV_p (And.intro @capV_nil (And.intro @WO_nil (And.intro @WG_tt (And.intro @WG_ff (And.intro @WG_tf (And.intro @WG_ft (And.intro @QV_eq (And.intro @WV_some (And.intro @OQ_some (And.intro @WK_func (And.intro @HQ_some (And.intro @PQ_ptr (And.intro @LQ_eq (And.intro @VQ_some (And.intro @IfW_t (And.intro @IfW_f (And.intro @pickV_t (And.intro @pickV_f (And.intro @bin_add (And.intro @bin_sub (And.intro @bin_mul (And.intro @bin_eql (And.intro @bin_neq (And.intro @bin_lss (And.intro @bin_leq (And.intro @bin_gtr (And.intro @bin_geq (And.intro @un_not (And.intro @un_minus (And.intro @lenV_slice (And.intro @convV_int (And.intro @fstV_agg (And.intro @extV_tuple (And.intro @eqa3 (And.intro @eqbV_b (And.intro @cellsL_agg (And.intro @cellsL_int (And.intro @cellsL_bool (And.intro @cellsL_slice (And.intro @cellsL_ptr (And.intro @cellsL_func (And.intro @mksV_int (And.intro @OQ_ite (And.intro @WV_ite (And.intro @rd1_new_same (And.intro @rdn_new_same (And.intro @rd1_new_lt (And.intro @rdn_new_lt (And.intro @get_new_lt (And.intro @wr_new_same (And.intro @wr_new_lt (And.intro @HQ_ite (And.intro @map_ite_v (And.intro @splice_cons (And.intro @rd1_put_same (And.intro @rdn_put_same (And.intro @rd1_put_ne (And.intro @rdn_put_ne (And.intro @wr_put_same (And.intro @wr_put_ne (And.intro @xres_tmp (And.intro @xres_tmp2 (And.intro @xres_cell (And.intro @xres_cells (And.intro @xres_2 (And.intro @tup2_some (And.intro @rd1V_ptr (And.intro @rdnV_ptr (And.intro @xres1_tmp (And.intro @xres1_cell (And.intro @xres1_cells (And.intro @args_nil (And.intro @args_cons (And.intro @map_some_v (And.intro @bind_some_v (And.intro @map_cons_v (And.intro @map_nil_v (And.intro @lit_nil (And.intro @lit_cons (And.intro @toL (And.intro @all_cons_v (And.intro @all_nil_v (And.intro @one_int (And.intro @one_bool (And.intro @one_slice (And.intro @one_func (And.intro @one_ptr (And.intro @len_cons_v (And.intro @len_nil_v (And.intro @drop_zero_v (And.intro @drop_cons_v (And.intro @take_zero_v (And.intro @take_nil_v (And.intro @take_cons_v (And.intro @app_nil_v (And.intro @app_cons_v (And.intro @get_new_same (And.intro @Bool.and_true (And.intro @Bool.true_and (And.intro @Bool.not_true (And.intro @Bool.not_false (And.intro @true_and (And.intro @and_true (And.intro @and_self (And.intro @decide_true (@decide_false)))))))))))))))))))))))))))))))))))))))))))))))))))))))))))))))))))))))))))))))))))))))))))))))))))))))))))))
end Go.Proofs.YtigpfopobpoamaaGreat.X
