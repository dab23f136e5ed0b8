/- Texts of one claim, put together by merge.py: XWrite, XStep, XDraw, XDraw2, XDraw3, XDraw4, XReg, XSound, XCall. -/
import Derived.Test.YtapafdpnmakekaaTO1
import Derived.IntWalk
import Derived.LoopN
set_option linter.unusedVariables false
set_option linter.unusedSimpArgs false
namespace Go.Proofs.Ytapafdpnmakekaa.X
open Go Go.RowKit
variable {P:Program} {B:Nat} {γ:List G} {h h':AH} {w:World} {f:Fr} {a:Act} {v:Value}
def OpOk (P:Program) (B:Nat) (γ:List G) (h:AH) (w:World) (a:Act) (o:Oper) (v:Value) (h':AH):Prop:=
 ∃ γ' nx v' w',(execOp a.eval o).run P w=.ok nx w'∧nv nx=some v'∧VR γ' v v'∧Sim P B γ h w γ' h' w'
theorem zrep_length (z:List Value):∀ n,(zrep n z).length=n*z.length
 | 0=>by simp[zrep]
 | n+1=>by simp[zrep,zrep_length z n,Nat.succ_mul,Nat.add_comm]
theorem zrep_get (z:List Value):∀ (n j:Nat),j<n*z.length→(zrep n z)[j]?=z[j%z.length]?
 | 0,j,hj=>by simp at hj
 | n+1,j,hj=>by
  simp only[zrep]
  by_cases h1:j<z.length
  ·rw[List.getElem?_append_left h1,Nat.mod_eq_of_lt h1]
  ·rw[List.getElem?_append_right (by omega),zrep_get z n (j-z.length) (by rw[Nat.succ_mul] at hj;omega)]
   congr 1
   conv=>rhs;rw[show j=j-z.length+z.length by omega,Nat.add_mod_right]
theorem range_zrep (y:Array Value) (n:Nat) (hpos:0<y.size):((Array.range (n*y.size)).map (y[·%y.size]!)).toList=zrep n y.toList:=by
 apply List.ext_getElem?
 intro j
 by_cases hj:j<n*y.size
 ·rw[zrep_get y.toList n j (by simpa using hj)]
  have hm:j%y.size<y.size:=Nat.mod_lt _ hpos
  simp[hj,List.getElem?_range,hm,getElem!_pos,Array.getElem?_eq_getElem]
 ·rw[List.getElem?_eq_none (by simp;omega),List.getElem?_eq_none (by rw[zrep_length];simp;omega)]
theorem zrep_all {z:List Value} (hz:z.all okCell=true):∀ n,(zrep n z).all okCell=true
 | 0=>rfl
 | n+1=>by simp only[zrep,List.all_append,hz,zrep_all hz n,Bool.and_self]
theorem okCells_one {z:List Value} (hz:z.all okCell=true):z.all isOne=true:=List.all_eq_true.2 fun v hv=>okCell_one (List.all_eq_true.1 hz v hv)
theorem new_slc (hl:γ.length=h.length) (g:G) (len sz:Nat) (hsz:0<sz) (hc:len*sz≤g.cap) (ho:g.o=0) :
  VR (γ++[g]) (.slice (some ⟨h.length,0,none⟩) len sz) (.slice (some ⟨g.b,0,none⟩) len (g.cap / sz)):=by
 have:=VR.slc (γ:=γ++[g]) h.length 0 len sz g (by rw[←hl];simp) hsz (by omega)
 rwa [ho,Nat.add_zero,Nat.sub_zero] at this
theorem new_ptr (hl:γ.length=h.length) (g:G) (ho:g.o=0):VR (γ++[g]) (.pointer (some ⟨h.length,0,none⟩)) (.pointer (some ⟨g.b,0,none⟩)):=by
 have:=VR.ptr (γ:=γ++[g]) h.length 0 g (by rw[←hl];simp)
 rwa [ho,Nat.add_zero] at this
theorem Rel.row (R:Rel P B γ h w) {n:Nat} {b:Blk} {g:G} (hb:h.get n=some b) (hg:γ[n]?=some g) (hro:b.ro=false) :
  ∃ (cur:Array Value) (cs rest:List Value),w.heap[g.b]?=some (.cells cur b.e (0,0))∧cur.toList=cs++rest∧VRL γ b.c cs∧cur.size=g.cap:=by
 obtain⟨ho,_,hcap,⟨cur,h1,h2⟩,_⟩:=R.rw n b g hb hg hro
 obtain⟨cs,g1,g2⟩:=R.cells hb hg
 have hget:∀ j v,cs[j]?=some v→cur.toList[j]?=some v:=fun j v hv=>by
  have:=g2 j v hv
  rw[ho,Nat.zero_add,cell_of_row w g.b j cur b.e (0,0) h1] at this
  rw[Array.getElem?_toList]
  exact this
 refine⟨cur,cs,cur.toList.drop cs.length,h1,?_,g1,h2⟩
 have hle:cs.length≤cur.toList.length:=by rw[←g1.1];simp;omega
 conv=>lhs;rw[←List.take_append_drop cs.length cur.toList]
 congr 1
 apply List.ext_getElem?
 intro j
 rw[List.getElem?_take]
 split
 ·rename_i hj
  rw[List.getElem?_eq_getElem hj]
  exact hget j _ (List.getElem?_eq_getElem hj)
 ·rename_i hj
  rw[List.getElem?_eq_none (by omega)]
theorem splice_append (cs rest vs:List Value) (off:Nat) (hl:off+vs.length≤cs.length):splice (cs++rest) off vs=splice cs off vs++rest:=by
 unfold X.splice
 rw[List.take_append_of_le_length (by omega),List.drop_append_of_le_length hl,List.append_assoc,List.append_assoc,List.append_assoc]
theorem splice_len (cs vs:List Value) (off:Nat) (hl:off+vs.length≤cs.length):(splice cs off vs).length=cs.length:=by
 simp[X.splice];omega
theorem splice_one {cs vs:List Value} {off:Nat} (h1:cs.all isOne=true) (h2:vs.all isOne=true):(splice cs off vs).all isOne=true:=by
 simp only[X.splice,List.all_append,Bool.and_eq_true]
 refine⟨⟨List.all_eq_true.2 fun v hv=>List.all_eq_true.1 h1 v (List.mem_of_mem_take hv),h2⟩,List.all_eq_true.2 fun v hv=>List.all_eq_true.1 h1 v (List.mem_of_mem_drop hv)⟩
theorem wr_some {n off:Nat} {vs:List Value} (hw:h.wr n off vs=some h'):∃ b,h.get n=some b∧b.ro=false∧off+vs.length≤b.c.length∧h'=h.set n (some { b with c:=splice b.c off vs }):=by
 obtain⟨b,hb,h1⟩:=Option.bind_eq_some_iff.1 hw
 obtain⟨⟨h2,h3⟩,h4⟩:=ite_some h1
 exact⟨b,hb,h2,h3,h4.symm⟩
theorem Rel.allOne (R:Rel P B γ h w) {n:Nat} {b:Blk} (hb:h.get n=some b):b.c.all isOne=true:=by
 obtain⟨g,hg⟩:=R.ghost hb
 exact List.all_eq_true.2 fun v hv=>by
  obtain⟨j,hj⟩:=List.mem_iff_getElem?.1 hv
  exact (R.cell n b g hb hg j v hj).1
theorem store_sim (R:Rel P B γ h w) {n off:Nat} {vs us:List Value} {g:G} (hg:γ[n]?=some g) (hw:h.wr n off vs=some h') (hone:vs.all isOne=true) (hvr:VRL γ vs us) :
  ∃ w',(storeCells ⟨g.b,g.o+off,none⟩ us).run P w=.ok () w'∧Sim P B γ h w γ h' w':=by
 obtain⟨b,hb,hro,hlen,rfl⟩:=wr_some hw
 obtain⟨cur,cs,rest,h1,h2,h3,h4⟩:=R.row hb hg hro
 have ho:=(R.rw n b g hb hg hro).1
 have hcl:cs.length+rest.length=cur.size:=by have:=congrArg List.length h2;simp at this;omega
 have hul:us.length=vs.length:=hvr.1.symm
 have hrun:=run_storeCells_at (P:=P) g.b off b.e us 0 cur w h1 (by have:=h3.1;omega) (hvr.one hone)
 rw[ho,Nat.zero_add]
 refine⟨_,hrun,?_⟩
 have harr:cur.toList.take (off+0)++us++cur.toList.drop (off+0+us.length)=splice cs off us++rest:=by
  rw[Nat.add_zero,←splice_append cs rest us off (by have:=h3.1;omega),←h2];rfl
 rw[harr]
 refine Sim.stored R hb hg hro _ _ cur h1 (splice_len _ _ _ hlen) (by
  have:=splice_len cs us off (by have:=h3.1;omega)
  simp[this];omega) (splice_one (R.allOne hb) hone) ?_
 intro j v hv
 obtain⟨v',h5,h6⟩:=(h3.splice hvr off).get hv
 refine⟨v',?_,h6⟩
 rw[List.getElem?_toArray,List.getElem?_append_left (List.getElem?_eq_some_iff.1 h5).1]
 exact h5
theorem wrap_small {n:Int} (h0:0≤n) (h1:n≤9223372036854775807):IntKind.i64.wrap n=n:=by
 exact IntWalk.i64_in n (by omega)
theorem run_append_zero {t e:TypeId} {i:TypeInfo} (ty:TypeId) (A A':Option Addr) (n c c':Nat) (ht:P.underlying t=some (.slice e)) (hi:P.info? e=some i) (hn:n≤c) (w:World) :
  (Builtin.append_ #[t,t] ty #[.slice A n c,.slice A' 0 c']).run P w=.ok (.slice A n c) w:=by
 have hf:(Builtin.firstCells i.size 0 (.slice A' 0 c')).run P w=.ok #[] w:=by
  cases A' with
  | none=>rfl
  | some b=>simp only[Builtin.firstCells,Nat.zero_mul];rfl
 have hs:(sizeOf e).run P w=.ok i.size w:=by simp[sizeOf,typeInfo,hi]
 unfold Builtin.append_
 simp only[List.getElem?_toArray,List.getElem?_cons_zero,List.getElem?_cons_succ]
 rw[Sem.run_bind,run_underlying ht,Result.andThen_ok]
 simp only[]
 rw[Sem.run_bind,hs,Result.andThen_ok,Sem.run_bind]
 simp only[Sem.run_bind,run_underlying ht,Result.andThen_ok,Sem.run_pure]
 simp only[Bool.false_eq_true,if_false,Builtin.lenOf]
 rw[Sem.run_bind,Sem.run_pure,Result.andThen_ok,if_pos (show n+0≤c by omega)]
 simp only[Bool.not_false,if_true]
 rw[Sem.run_bind,hf,Result.andThen_ok]
 cases A<;>rfl
theorem app_sound {e sz bytes:Nat} {s y:Operand} {t ty:TypeId} {i:TypeInfo} {z:Value} (hx:xop (.app e sz bytes s y) f h=some (v,h'))
  (ht:P.underlying t=some (.slice e)) (hi:P.info? e=some i) (hz:i.zero=some z) (hzl:z.cells.size=i.size) (hpos:0<i.size) (hsz:sz=i.size) (hby:bytes=i.bytes)
  (hs:VR γ (ev f s) (a.eval s)) (hy:VR γ (ev f y) (a.eval y)) (R:Rel P B γ h w) :
  ∃ γ' v' w',(Builtin.append_ #[t,t] ty #[a.eval s,a.eval y]).run P w=.ok v' w'∧VR γ' v v'∧Sim P B γ h w γ' h' w':=by
 subst hsz hby
 simp only[xop] at hx
 split at hx
 ·rename_i A n tt A' m t' hes hey
  rw[hes] at hs
  rw[hey] at hy
  split at hx
  ·cases hx
  ·rename_i news hnews
   obtain⟨⟨hb1,hb2⟩,hx2⟩:=ite_none hx
   have hb1':(n+m)*i.bytes≤140737488355328:=by
    have e:((n:Int)+m)*i.bytes=(((n+m)*i.bytes:Nat):Int):=by rw[Int.natCast_mul,Int.natCast_add]
    rw[e] at hb1
    omega
   obtain⟨yA,yc,ey,hyc⟩:=hy.len_inv
   by_cases hm:m=0
   ·subst hm
    obtain⟨sA,sc,es,hsc⟩:=hs.len_inv
    have hrun:=run_append_zero (P:=P) ty sA yA n sc yc ht hi hsc w
    have hres:v=.slice A n tt∧h'=h:=by
     split at hx2
     ·obtain⟨⟨rfl,_⟩,h4⟩:=ite_none hx2
      simp only[if_true,Option.some.injEq,Prod.mk.injEq] at h4
      exact⟨h4.1.symm,h4.2.symm⟩
     ·simp only[if_true,Option.some.injEq,Prod.mk.injEq] at hx2
      exact⟨hx2.1.symm,hx2.2.symm⟩
    obtain⟨rfl,rfl⟩:=hres
    rw[es] at hs
    exact⟨γ,_,w,by rw[es,ey];exact hrun,hs,Sim.refl R⟩
   ·have hmpos:0<m:=Nat.pos_of_ne_zero hm
    -- what is appended
    obtain⟨yb,us,hyA,hus,husr,huone⟩:∃ (yb:Addr) (us:List Value),yA=some yb∧VRL γ news us∧(∀ j u,us[j]?=some u→w.cell? (yb.add j)=some u)∧(us.length=m*i.size∧news.all isOne=true):=by
     cases A' with
     | none=>simp at hnews;exact absurd hnews.1 hm
     | some ad=>
      obtain⟨n',off,sp⟩:=ad
      simp only at hnews
      obtain⟨ht',h3⟩:=ite_none hnews
      obtain⟨_,g,hg,_,_,ey'⟩:=hy.slc_inv
      rw[ey] at ey'
      simp only[Value.slice.injEq,true_and] at ey'
      obtain⟨b,hb,h4⟩:=Option.bind_eq_some_iff.1 h3
      obtain⟨h5,rfl⟩:=ite_some h4
      obtain⟨cs,g1,g2⟩:=R.cells hb hg
      refine⟨_,(cs.drop off).take (m*i.size),ey'.1,(g1.drop off).take _,fun j u hu=>?_,by have:=g1.1;simp;omega,?_⟩
      ·rw[add_at]
       rw[List.getElem?_take] at hu
       split at hu
       ·rw[List.getElem?_drop] at hu
        rw[Nat.add_assoc]
        exact g2 _ _ hu
       ·cases hu
      ·exact List.all_eq_true.2 fun v hv=>List.all_eq_true.1 (R.allOne hb) v (List.mem_of_mem_drop (List.mem_of_mem_take hv))
    obtain⟨husl,hnone⟩:=huone
    subst hyA
    have hnl:news.length=m*i.size:=hus.1.trans husl
    -- a new array
    have fresh:∀ (γ0:List G) (h0:AH) (olds olds':List Value) (need old:Nat),Rel P B γ0 h0 w→VRL γ0 olds olds'→VRL γ0 news us→olds.all isOne=true→olds.length+news.length=need*i.size→need≤maxLen→0<need →
      (Builtin.append_ #[t,t] ty #[a.eval s,a.eval y]).run P w=.ok (.slice (some ⟨w.heap.size,0,none⟩) need (grownCap w need old e)) (w.drew.alloc (.cells (olds'.toArray++us.toArray++Builtin.zeroCells z.cells (grownCap w need old e-need)) e)) →
      ∃ γ' v' w',(Builtin.append_ #[t,t] ty #[a.eval s,a.eval y]).run P w=.ok v' w'∧VR γ' (.slice (some ⟨h0.length,0,none⟩) need i.size) v'∧Sim P B γ0 h0 w γ' (h0.new ⟨olds++news,e,false,false⟩) w':=by
     intro γ0 h0 olds olds' need old R0 ho hn hoo hlen hnm hnp hrun
     have hge:=grownCap_ge w need old e
     have hcm:grownCap w need old e≤maxLen:=grownCap_le_maxLen w need old e hnm
     have hol:olds'.length=olds.length:=ho.1.symm
     have hsize:(olds'.toArray++us.toArray++Builtin.zeroCells z.cells (grownCap w need old e-need)).size=grownCap w need old e*i.size:=by
      simp only[Array.size_append,List.size_toArray,size_zeroCells,hzl]
      have:olds'.length+us.length=need*i.size:=by rw[hol,←hn.1];exact hlen
      rw[this,←Nat.add_mul]
      congr 1
      omega
     have hcell:P.cellsOf e=i.size:=by simp[Program.cellsOf,hi]
     have S1:=Sim.alloc (w:=w.drew) R0.drew (olds++news) e false (olds'.toArray++us.toArray++Builtin.zeroCells z.cells (grownCap w need old e-need)) (by simp only[List.all_append,hoo,hnone,Bool.and_self])
      (fun j v hv=>by
       obtain⟨v',h5,h6⟩:=(ho.append hn).get hv
       refine⟨v',?_,h6⟩
       have hlt:=(List.getElem?_eq_some_iff.1 h5).1
       simp only[List.append_toArray]
       rw[←Array.getElem?_toList,Array.toList_append,List.toList_toArray,List.getElem?_append_left hlt]
       exact h5)
      (by rw[hsize,List.length_append,hlen];exact Nat.mul_le_mul_right _ hge) (by simp) (fun _=>⟨grownCap w need old e,by rw[hsize,hcell],hcm⟩)
     refine⟨_,_,_,hrun,?_,(Sim.drawn R0).trans S1⟩
     have:=new_slc (h:=h0) R0.len ⟨w.heap.size,0,(olds'.toArray++us.toArray++Builtin.zeroCells z.cells (grownCap w need old e-need)).size⟩ need i.size hpos (by simp only[hsize];exact Nat.mul_le_mul_right _ hge) rfl
     simp only[hsize,Nat.mul_div_cancel _ hpos] at this
     simp only[hsize]
     exact this
    have hmax:n+m≤maxLen:=by simp only[maxLen];omega
    cases A with
    | none=>
     simp only[] at hx2
     obtain⟨⟨rfl,htt⟩,h4⟩:=ite_none hx2
     rw[if_neg hm] at h4
     simp only[Option.some.injEq,Prod.mk.injEq] at h4
     obtain⟨rfl,rfl⟩:=h4
     rw[Nat.zero_add] at hb1' hmax
     obtain⟨_,h5⟩:=hs.nil_inv
     have goNil:a.eval s=.slice none 0 0→_:=fun es=>
      fresh γ h [] [] m 0 R (VRL.nil γ) hus rfl (by simp[hnl]) hmax hmpos (by
       rw[es,ey]
       have:=run_append_nil (P:=P) w t ty e i z ht hi hz yb m yc us husl husr hmpos (by omega) (by omega)
       simpa using this)
     rcases h5 with⟨_,es⟩|⟨rfl,_⟩|⟨_,sA,es⟩
     ·exact goNil es
     ·rcases htt with h6|h6<;>simp at h6
     ·cases sA with
      | none=>exact goNil es
      | some sb=>
       refine fresh γ h [] [] m 0 R (VRL.nil γ) hus rfl (by simp[hnl]) hmax hmpos ?_
       rw[es,ey]
       have:=run_append_grow (P:=P) w t ty e i z ht hi hz sb 0 0 [] (by simp) (fun j v hv=>by simp at hv) yb m yc us husl husr (by omega) (by omega) (growslice_fits (by omega) (by simpa using hb1'))
       simpa using this
    | some ad=>
     obtain⟨k,off,sp⟩:=ad
     simp only[] at hx2
     rw[if_neg hm] at hx2
     split at hx2
     ·rename_i b hb
      by_cases hA:off=0∧b.ro=false∧b.e=e∧b.c.length=n*i.size∧tt=i.size
      case neg=>
       rw[if_neg hA] at hx2
       obtain⟨⟨rfl,hro,rfl,hnf,hble,rfl⟩,h4⟩:=ite_some hx2
       simp only[Prod.mk.injEq] at h4
       obtain⟨rfl,rfl⟩:=h4
       obtain⟨_,g,hg,_,hcap,es⟩:=hs.slc_inv
       obtain⟨cur,cs,rest,r1,r2,r3,r4⟩:=R.row hb hg hro
       obtain⟨ho,hB,_,_,hfull,hdiv⟩:=R.rw k b g hb hg hro
       rw[ho,Nat.add_zero,Nat.sub_zero] at es
       rw[Nat.zero_add] at hcap
       have hcsl:n*i.size≤cs.length:=by rw[←r3.1];exact hble
       have hkl:(h.kill k).length=h.length:=by simp[AH.kill]
       have htl:(cs.take (n*i.size)).length=n*i.size:=by rw[List.length_take];omega
       have htb:(b.c.take (n*i.size)).length=n*i.size:=by rw[List.length_take];omega
       have hone:(b.c.take (n*i.size)).all isOne=true:=List.all_eq_true.2 fun v hv=>List.all_eq_true.1 (R.allOne hb) v (List.mem_of_mem_take hv)
       by_cases hroom:n+m≤g.cap / i.size
       ·have hroom':(n+m)*i.size≤g.cap:=(Nat.le_div_iff_mul_le hpos).1 hroom
        have husz:us.length=m*i.size:=husl
        have hfit:n*i.size+us.length≤cur.size:=by rw[husz,←Nat.add_mul,r4];exact hroom'
        have hrun:=run_append_room (P:=P) w t ty b.e i ht hi g.b n (g.cap / i.size) cur r1 yb m yc us husl husr (hus.one hnone) hroom hfit
        refine⟨γ++[g],_,_,by rw[es,ey];exact hrun,?_,Sim.onto R hb hg hro hnf (b.c.take (n*i.size)++news) _ cur r1 ?_ ?_ ?_ ?_⟩
        ·exact new_slc R.len g (n+m) i.size hpos hroom' ho
        ·rw[List.length_append,htb,hnl,←Nat.add_mul];exact hroom'
        ·simp;omega
        ·simp only[List.all_append,hone,hnone,Bool.and_self]
        ·intro j v hv
         obtain⟨v',h5,h6⟩:=((r3.take (n*i.size)).append hus).get hv
         refine⟨v',?_,h6⟩
         have hlt:=(List.getElem?_eq_some_iff.1 h5).1
         rw[List.getElem?_toArray,r2,List.take_append_of_le_length hcsl,List.getElem?_append_left hlt]
         exact h5
       ·have:=fresh γ (h.kill k) (b.c.take (n*i.size)) (cs.take (n*i.size)) (n+m) (g.cap / i.size) (R.kill k) (r3.take _) hus hone (by rw[htb,hnl,Nat.add_mul]) hmax (by omega) (by
         rw[es,ey]
         exact run_append_grow (P:=P) w t ty b.e i z ht hi hz ⟨g.b,0,none⟩ n (g.cap / i.size) (cs.take (n*i.size)) htl (fun j v hv=>by
          have hlt:=(List.getElem?_eq_some_iff.1 hv).1
          rw[add_at,Nat.zero_add,cell_of_row w g.b j cur b.e (0,0) r1,←Array.getElem?_toList,r2,List.getElem?_append_left (by rw[List.length_take] at hlt;omega)]
          rw[List.getElem?_take,if_pos (by omega)] at hv
          exact hv) yb m yc us husl husr (by omega) (by omega) (growslice_fits (by omega) hb1'))
        obtain⟨γ',v',w',q1,q2,q3⟩:=this
        rw[hkl] at q2
        exact⟨γ',v',w',q1,q2,(Sim.killed R k).trans q3⟩
      rw[if_pos hA] at hx2
      obtain⟨rfl,hro,rfl,hbl,rfl⟩:=hA
      have h4:=Option.some.inj hx2
      simp only[Prod.mk.injEq] at h4
      obtain⟨rfl,rfl⟩:=h4
      obtain⟨_,g,hg,_,hcap,es⟩:=hs.slc_inv
      obtain⟨cur,cs,rest,r1,r2,r3,r4⟩:=R.row hb hg hro
      obtain⟨ho,hB,_,_,hfull,hdiv⟩:=R.rw k b g hb hg hro
      rw[ho,Nat.add_zero,Nat.sub_zero] at es
      rw[Nat.zero_add] at hcap
      have hcsl:cs.length=n*i.size:=by rw[←r3.1];exact hbl
      have hkl:(h.kill k).length=h.length:=by simp[AH.kill]
      by_cases hroom:n+m≤g.cap / i.size
      ·have hroom':(n+m)*i.size≤g.cap:=(Nat.le_div_iff_mul_le hpos).1 hroom
       have hnf:b.full=false:=by
        cases hf:b.full with
        | false=>rfl
        | true=>
         have:=hfull hf
         rw[this,hbl,Nat.mul_div_cancel _ hpos] at hroom
         omega
       have husz:us.length=m*i.size:=husl
       have hfit:n*i.size+us.length≤cur.size:=by rw[husz,←Nat.add_mul,r4];exact hroom'
       have hrun:=run_append_room (P:=P) w t ty b.e i ht hi g.b n (g.cap / i.size) cur r1 yb m yc us husl husr (hus.one hnone) hroom hfit
       refine⟨γ++[g],_,_,by rw[es,ey];exact hrun,?_,Sim.onto R hb hg hro hnf (b.c++news) _ cur r1 ?_ ?_ ?_ ?_⟩
       ·exact new_slc R.len g (n+m) i.size hpos hroom' ho
       ·rw[List.length_append,hbl,hnl,←Nat.add_mul];exact hroom'
       ·simp;omega
       ·simp only[List.all_append,R.allOne hb,hnone,Bool.and_self]
       ·intro j v hv
        obtain⟨v',h5,h6⟩:=(r3.append hus).get hv
        refine⟨v',?_,h6⟩
        have hlt:=(List.getElem?_eq_some_iff.1 h5).1
        rw[List.getElem?_toArray,r2,←hcsl,List.take_left,List.getElem?_append_left hlt]
        exact h5
      ·have:=fresh γ (h.kill k) b.c cs (n+m) (g.cap / i.size) (R.kill k) r3 hus (R.allOne hb) (by rw[hbl,hnl,Nat.add_mul]) hmax (by omega) (by
        rw[es,ey]
        exact run_append_grow (P:=P) w t ty b.e i z ht hi hz ⟨g.b,0,none⟩ n (g.cap / i.size) cs hcsl (fun j v hv=>by
         rw[add_at,Nat.zero_add,cell_of_row w g.b j cur b.e (0,0) r1,←Array.getElem?_toList,r2,List.getElem?_append_left (List.getElem?_eq_some_iff.1 hv).1]
         exact hv) yb m yc us husl husr (by omega) (by omega) (growslice_fits (by omega) hb1'))
       obtain⟨γ',v',w',q1,q2,q3⟩:=this
       rw[hkl] at q2
       exact⟨γ',v',w',q1,q2,(Sim.killed R k).trans q3⟩
     ·cases hx2
 ·cases hx
theorem heap_sound {o:Oper} {x:XOp} (hc:compOp P o.op=some x) (hcl:cls x=2∨cls x=4) (hx:xop x f h=some (v,h')) (hv:VO γ f a o.op.operands) (R:Rel P B γ h w) :
  OpOk P B γ h w a o v h':=by
 obtain⟨dst,op,ty,pos,after,guard⟩:=o
 simp only[] at hc hv
 have hco:=cls_op hc
 cases op with
 | alloc e=>
  obtain⟨z,hz,rfl⟩:=map_some hc
  obtain⟨i,y,hi,hy,rfl,hok,hlen,hpos⟩:=zeroT_some hz
  simp only[xop,Option.some.injEq,Prod.mk.injEq] at hx
  obtain⟨rfl,rfl⟩:=hx
  refine⟨_,.value (.pointer (some ⟨w.heap.size,0,none⟩)),_,_,?_,rfl,?_,Sim.made R y.cells.toList y.cells.toList e (okCells_one hok) (okCells_refl hok)⟩
  ·simp[execOp,Instr.alloc,zeroValue,typeInfo,hi,hy,newVar,newRow]
  ·exact new_ptr R.len _ rfl
 | box e y=>
  obtain⟨h1,rfl⟩:=ite_some hc
  have hy:=hv y (by simp[Op.operands]) h1
  simp only[xop] at hx
  obtain⟨h2,h3⟩:=ite_some hx
  simp only[Prod.mk.injEq] at h3
  obtain⟨rfl,rfl⟩:=h3
  refine⟨_,.value (.pointer (some ⟨w.heap.size,0,none⟩)),_,_,?_,rfl,?_,Sim.made R _ (a.eval y).cells.toList e h2 hy.cells⟩
  ·simp[execOp,Instr.box,newVar,newRow]
  ·exact new_ptr R.len _ rfl
 | buildSlice t n parts=>
  simp only[compOp] at hc
  split at hc
  ·rename_i e hu
   split at hc
   ·rename_i z i hz hi
    obtain⟨h1,h2⟩:=ite_none hc
    obtain⟨l,hl,rfl⟩:=map_some h2
    obtain⟨i',y,hi',hy,rfl,hok,hlen,hpos⟩:=zeroT_some hz
    rw[hi] at hi';cases hi'
    simp only[xop] at hx
    split at hx
    ·rename_i c hf
     obtain⟨h3,h4⟩:=ite_some hx
     simp only[Prod.mk.injEq] at h4
     obtain⟨rfl,rfl⟩:=h4
     have hys:y.cells.size=i.size:=by simpa using hlen
     have hcells:∀ zero:Array Value,zero=(if n*i.size=0 then #[] else y.cells)→((Array.range (n*i.size)).map (zero[·%zero.size]!)).toList=zrep n y.cells.toList:=by
      rintro zero rfl
      split
      ·rename_i h0
       have hn0:n=0:=by rcases Nat.mul_eq_zero.1 h0 with h|h<;>omega
       subst hn0
       simp[zrep]
      ·rw[←hys];exact range_zrep y.cells n (by omega)
     obtain⟨cr,h5,h6⟩:=fill_sound (γ:=γ) (f:=f) (a:=a) (place:=fun j=>some (j*i.size,i.size)) (place':=fun j=>some (j*i.size,i.size)) (fun _=>rfl) parts.toList l _ c
      ((Array.range (n*i.size)).map ((if n*i.size=0 then #[] else y.cells)[·%(if n*i.size=0 then #[] else y.cells:Array Value).size]!)) hl hf (by rw[hcells _ rfl];exact okCells_refl (zrep_all hok n))
      (fun p hp=>hv p.2 (by simp[Op.operands];exact⟨p.1,by simpa using hp⟩))
     have hcl':c.length=n*i.size:=by
      have:∀ (l:List (Nat×Nat×Operand)) (z c:List Value),fillX f z l=some c→c.length=z.length:=by
       intro l
       induction l with
       | nil=>intro z c hc;simp[fillX] at hc;rw[hc]
       | cons q l ih=>
        intro z c hc
        obtain⟨o,s,x⟩:=q
        simp only[fillX] at hc
        obtain⟨⟨q1,q2⟩,q3⟩:=ite_none hc
        rw[ih _ _ q3,splice_len _ _ _ (by rw[q1];exact q2)]
      rw[this l _ c hf,zrep_length,hlen]
     have S:=Sim.made R c cr.toList e h3 h6
     refine⟨_,.value (.slice (some ⟨w.heap.size,0,none⟩) n n),_,_,?_,rfl,?_,S⟩
     ·have hmap:(parts.map fun (i,x)=>(i,a.eval x)).toList=parts.toList.map fun p=>(p.1,a.eval p.2):=by simp
      have hle:¬ n*i.size>2^24:=by omega
      have hsz:(sizeOf e).run P w=.ok i.size w:=by simp[sizeOf,typeInfo,hi]
      have hzero:((if n*i.size=0 then pure #[] else do pure (←zeroValue e).cells):Sem (Array Value)).run P w=.ok (if n*i.size=0 then #[] else y.cells) w:=by
       split
       ·rfl
       ·simp[zeroValue,typeInfo,hi,hy]
      have hb:(Instr.buildSlice t n (parts.map fun (i,x)=>(i,a.eval x))).run P w=.ok (.slice (some ⟨w.heap.size,0,none⟩) n n) (w.alloc (.cells cr e)):=by
       unfold Instr.buildSlice
       rw[Sem.run_bind,run_und hu,Result.andThen_ok]
       simp only[]
       rw[Sem.run_bind,hsz,Result.andThen_ok,if_neg hle]
       by_cases h0:n*i.size=0
       ·rw[if_pos h0] at hzero ⊢
        simp only[if_pos h0] at h5
        rw[Sem.run_bind,Sem.run_pure,Result.andThen_ok,hmap,h5]
        rfl
       ·rw[if_neg h0] at hzero ⊢
        simp only[if_neg h0] at h5
        have hz1:(zeroValue e).run P w=.ok y w:=by simp[zeroValue,typeInfo,hi,hy]
        rw[Sem.run_bind,hz1,Result.andThen_ok,Sem.run_bind,Sem.run_pure,Result.andThen_ok,hmap,h5]
        rfl
      simp only[execOp,Sem.run_bind,hb,Result.andThen_ok,Sem.run_pure,Array.toArray_toList]
     ·have:=new_slc R.len ⟨w.heap.size,0,c.length⟩ n i.size hpos (by simp[hcl']) rfl
      simp only[hcl',Nat.mul_div_cancel _ hpos] at this
      rw[hcl']
      exact this
    ·cases hx
   ·cases hc
  ·cases hc
 | makeSlice t l c=>
  simp only[compOp] at hc
  split at hc
  ·rename_i e hu
   split at hc
   ·rename_i z i hz hi
    obtain⟨h1,rfl⟩:=ite_some hc
    simp only[Bool.and_eq_true] at h1
    obtain⟨i',y,hi',hy,rfl,hok,hlen,hpos⟩:=zeroT_some hz
    rw[hi] at hi';cases hi'
    have hl:=hv l (by simp[Op.operands]) h1.2
    have hlc:∀ k n,a.eval l=.int k n→∃ k',a.eval c=.int k' n:=by
     intro k n e1
     have h2:=h1.1
     unfold sameOpd at h2
     split at h2
     ·have:_=_:=beq_iff_eq.1 h2
      subst this
      exact⟨k,e1⟩
     ·have:_=_:=beq_iff_eq.1 h2
      subst this
      simp only[Act.eval,Value.int.injEq] at e1 ⊢
      exact⟨_,rfl,e1.2⟩
     ·cases h2
    simp only[xop] at hx
    split at hx
    ·rename_i k m he
     rw[he] at hl
     obtain⟨⟨h2,h3,h3'⟩,h4⟩:=ite_some hx
     simp only[Prod.mk.injEq] at h4
     obtain⟨rfl,rfl⟩:=h4
     obtain⟨k',ec⟩:=hlc k m hl.int_inv
     have hw:=wrap_small h2 h3'
     have hys:y.cells.size=i.size:=by simpa using hlen
     have hcells:∀ zero:Array Value,zero=(if m.toNat*i.size=0 then #[] else y.cells)→((Array.range (m.toNat*i.size)).map (zero[·%zero.size]!)).toList=zrep m.toNat y.cells.toList:=by
      rintro zero rfl
      split
      ·rename_i h0
       have hn0:m.toNat=0:=by rcases Nat.mul_eq_zero.1 h0 with h|h<;>omega
       rw[hn0]
       simp[zrep]
      ·rw[←hys];exact range_zrep y.cells m.toNat (by omega)
     have S:=Sim.made R (zrep m.toNat y.cells.toList) (zrep m.toNat y.cells.toList) e (okCells_one (zrep_all hok _)) (okCells_refl (zrep_all hok _))
     refine⟨_,.value (.slice (some ⟨w.heap.size,0,none⟩) m.toNat m.toNat),_,_,?_,rfl,?_,S⟩
     ·have b1:¬ m<0:=by omega
      have b2:¬ ((i.bytes:Int)*m>2^48):=by rw[Int.mul_comm];omega
      have d1:decide (m<0)=false:=decide_eq_false b1
      have d2:decide ((i.bytes:Int)*m>2^48)=false:=decide_eq_false b2
      have d3:decide (m>m)=false:=decide_eq_false (by omega)
      have b4:((decide (m<0)||decide ((i.bytes:Int)*m>2^48))||decide (m<0)||decide (m>m))=false:=by rw[d1,d2,d3];rfl
      have hc2:=hcells _ rfl
      have hsz:(sizeOf e).run P w=.ok i.size w:=by simp[sizeOf,typeInfo,hi]
      have hti:(typeInfo e).run P w=.ok i w:=by simp[typeInfo,hi]
      have hzero:((if m.toNat*i.size=0 then pure #[] else do pure (←zeroValue e).cells):Sem (Array Value)).run P w=.ok (if m.toNat*i.size=0 then #[] else y.cells) w:=by
       split
       ·rfl
       ·simp[zeroValue,typeInfo,hi,hy]
      have hasl:(asInt (a.eval l)).run P w=.ok m w:=by rw[hl.int_inv];rfl
      have hasc:(asInt (a.eval c)).run P w=.ok m w:=by rw[ec];rfl
      have hb:(Instr.makeSlice t (a.eval l) (a.eval c)).run P w=.ok (.slice (some ⟨w.heap.size,0,none⟩) m.toNat m.toNat) (w.alloc (.cells (zrep m.toNat y.cells.toList).toArray e)):=by
       unfold Instr.makeSlice
       rw[Sem.run_bind,run_und hu,Result.andThen_ok]
       simp only[]
       rw[Sem.run_bind,hasl,Result.andThen_ok,Sem.run_bind,hasc,Result.andThen_ok,Sem.run_bind,hti,Result.andThen_ok]
       simp only[hw]
       rw[if_neg (by rw[b4];decide),Sem.run_bind,run_askRoom,Result.andThen_ok,Sem.run_bind,hsz,Result.andThen_ok]
       by_cases h0:m.toNat*i.size=0
       ·rw[if_pos h0,Sem.run_bind,Sem.run_pure,Result.andThen_ok]
        simp only[if_pos h0] at hc2
        rw[←hc2]
        rfl
       ·simp only[if_neg h0] at hc2
        have hz1:(zeroValue e).run P w=.ok y w:=by simp[zeroValue,typeInfo,hi,hy]
        rw[if_neg h0,Sem.run_bind,hz1,Result.andThen_ok,Sem.run_bind,Sem.run_pure,Result.andThen_ok,←hc2]
        rfl
      simp only[execOp,Sem.run_bind,hb,Result.andThen_ok,Sem.run_pure]
     ·have:=new_slc R.len ⟨w.heap.size,0,(zrep m.toNat y.cells.toList).length⟩ m.toNat i.size hpos (by simp[zrep_length,hys]) rfl
      simp only[zrep_length,hlen,Nat.mul_div_cancel _ hpos] at this
      simp only[zrep_length,hlen]
      exact this
    ·cases hx
   ·cases hc
  ·cases hc
 | store t y z=>
  obtain⟨h1,h2⟩:=ite_none hc
  obtain⟨n,hn,rfl⟩:=map_some h2
  simp only[Bool.and_eq_true] at h1
  have hy:=hv y (by simp[Op.operands]) h1.1
  have hz:=hv z (by simp[Op.operands]) h1.2
  simp only[xop] at hx
  split at hx
  ·rename_i m off sp he
   rw[he] at hy
   obtain⟨_,g,hg,e1⟩:=hy.ptr_inv
   obtain⟨⟨h3,h3'⟩,h4⟩:=ite_none hx
   split at h4
   ·rename_i h2' hw
    simp only[Option.some.injEq,Prod.mk.injEq] at h4
    obtain⟨rfl,rfl⟩:=h4
    obtain⟨w',hrun,S⟩:=store_sim R hg hw h3' hz.cells
    refine⟨γ,.skip,undef,w',?_,rfl,VR.undef γ,S⟩
    have hsz:(a.eval z).cells.size=n:=by have:=hz.cells.1;simp at this h3;omega
    simp[execOp,e1,Instr.storeAt,Instr.sureAddr,storeVar,run_size hn,hsz,hrun]
   ·cases h4
  ·cases hx
 | call c=>
  obtain⟨callee,args,argTypes⟩:=c
  cases callee with
  | value fo=>obtain⟨h1,rfl⟩:=ite_some hc;simp[cls] at hcl
  | invoke r m=>simp[compOp,compCall] at hc
  | builtin b=>
   cases b<;>simp only[compOp,compCall,reduceCtorEq] at hc
   case len=>
    split at hc
    ·split at hc
     ·obtain⟨_,rfl⟩:=ite_some hc;simp[cls] at hcl
     ·cases hc;simp[cls] at hcl
     ·cases hc
    ·cases hc
   case cap=>
    split at hc
    ·split at hc
     ·obtain⟨_,rfl⟩:=ite_some hc;simp[cls] at hcl
     ·cases hc
    ·cases hc
   case append=>
    split at hc
    ·rename_i s y t u hargs htys
     have ha:args=#[s,y]:=by rw[←Array.toArray_toList (xs:=args),hargs]
     have ht:argTypes=#[t,u]:=by rw[←Array.toArray_toList (xs:=argTypes),htys]
     subst ha ht
     split at hc
     ·rename_i e e' hu hu'
      split at hc
      ·rename_i z i hz hi
       obtain⟨h1,rfl⟩:=ite_some hc
       simp only[Bool.and_eq_true,beq_iff_eq] at h1
       obtain⟨⟨rfl,h2⟩,h3⟩:=h1
       obtain⟨i',y',hi',hy',rfl,hok,hlen,hpos⟩:=zeroT_some hz
       rw[hi] at hi';cases hi'
       have hs:=hv s (by simp[Op.operands,Call.operands]) h2
       have hy:=hv y (by simp[Op.operands,Call.operands]) h3
       obtain⟨γ',v',w',q1,q2,q3⟩:=app_sound (ty:=ty) (a:=a) hx hu hi hy' (by simpa using hlen) hpos rfl rfl hs hy R
       exact⟨γ',.value v',v',w',by simp[execOp,resolve,invoke,builtin,q1],rfl,q2,q3⟩
      ·cases hc
     ·rename_i e k' hu hu'
      split at hc
      ·rename_i z i hz hi
       obtain⟨h1,rfl⟩:=ite_some hc
       simp only[Bool.and_eq_true] at h1
       obtain⟨h2,h3⟩:=h1
       obtain⟨i',y',hi',hy',rfl,hok,hlen,hpos⟩:=zeroT_some hz
       rw[hi] at hi';cases hi'
       have hs:=hv s (by simp[Op.operands,Call.operands]) h2
       have hy:=hv y (by simp[Op.operands,Call.operands]) h3
       simp only[xop] at hx
       split at hx
       ·rename_i k n hes hey
        rw[hes] at hs
        rw[hey] at hy
        have e1:a.eval s=.slice none 0 0:=by
         generalize a.eval s=q at hs
         cases hs
         rfl
        obtain⟨⟨hn0,hb,hm⟩,h4⟩:=ite_some hx
        simp only[Prod.mk.injEq] at h4
        obtain⟨rfl,rfl⟩:=h4
        have e2:a.eval y=.int k n:=hy.int_inv
        obtain⟨N,rfl⟩:∃ N:Nat,n=N:=⟨n.toNat,by omega⟩
        have hb':N*i.bytes≤281474976710656:=by
         have:((N:Int)*i.bytes)=((N*i.bytes:Nat):Int):=by rw[Int.natCast_mul]
         omega
        have hcm:grownCap w N 0 e≤maxLen:=grownCap_le_maxLen w N 0 e (by simp only[maxLen];omega)
        have hge:=grownCap_ge w N 0 e
        have hrun:=Lib.run_append_nil_zeros (P:=P) w t u ty e i y' k k' hu hu' hi hy' N (by omega) hpos hm hb'
        have hyl:y'.cells.size=i.size:=by simpa using hlen
        have hsize:(Builtin.zeroCells y'.cells N++Builtin.zeroCells y'.cells (grownCap w N 0 e-N)).size=grownCap w N 0 e*i.size:=by
         simp only[Array.size_append,size_zeroCells,hyl,←Nat.add_mul]
         congr 1
         omega
        have hcell:P.cellsOf e=i.size:=by simp[Program.cellsOf,hi]
        have S1:=Sim.alloc (w:=w.drew) R.drew [] e false (Builtin.zeroCells y'.cells N++Builtin.zeroCells y'.cells (grownCap w N 0 e-N)) rfl (fun j v hv=>by simp at hv) (Nat.zero_le _) (by simp) (fun _=>⟨grownCap w N 0 e,by rw[hsize,hcell],hcm⟩)
        refine⟨_,.value (.slice (some ⟨w.heap.size,0,none⟩) N (grownCap w N 0 e)),_,_,by simp[execOp,resolve,invoke,builtin,e1,e2,hrun],rfl,?_,(Sim.drawn R).trans S1⟩
        have:=new_slc (h:=h) R.len ⟨w.heap.size,0,(Builtin.zeroCells y'.cells N++Builtin.zeroCells y'.cells (grownCap w N 0 e-N)).size⟩ N i.size hpos (by simp only[hsize];exact Nat.mul_le_mul_right _ hge) rfl
        simp only[hsize,Nat.mul_div_cancel _ hpos] at this
        simp only[hsize,Int.toNat_natCast]
        exact this
       ·cases hx
      ·cases hc
     ·cases hc
    ·cases hc
   case clear=>
    split at hc
    ·rename_i y t hargs htys
     have ha:args=#[y]:=by rw[←Array.toArray_toList (xs:=args),hargs]
     have ht:argTypes=#[t]:=by rw[←Array.toArray_toList (xs:=argTypes),htys]
     subst ha ht
     split at hc
     ·rename_i e hu
      split at hc
      ·rename_i z i hz hi
       obtain⟨h1,rfl⟩:=ite_some hc
       obtain⟨i',y',hi',hy',rfl,hok,hlen,hpos⟩:=zeroT_some hz
       rw[hi] at hi';cases hi'
       have hy:=hv y (by simp[Op.operands,Call.operands]) h1
       simp only[xop] at hx
       split at hx
       ·rename_i n off sp len sz' he
        rw[he] at hy
        obtain⟨_,g,hg,hsz,hcap,e1⟩:=hy.slc_inv
        obtain⟨⟨rfl,hl0⟩,h4⟩:=ite_none hx
        split at h4
        ·rename_i h2' hw
         simp only[Option.some.injEq,Prod.mk.injEq] at h4
         obtain⟨rfl,rfl⟩:=h4
         have hall:=zrep_all hok len
         obtain⟨w',hrun,S⟩:=store_sim R hg hw (okCells_one hall) (okCells_refl hall)
         have hzc:(Builtin.zeroCells y'.cells len).toList=zrep len y'.cells.toList:=range_zrep y'.cells len (by simpa [←hlen] using hpos)
         have hzv:(zeroValue e).run P w=.ok y' w:=by simp[zeroValue,typeInfo,hi,hy']
         obtain⟨l',rfl⟩:∃ l',len=l'+1:=⟨len-1,by omega⟩
         refine⟨γ,.value (.tuple #[]),.tuple #[],w',?_,rfl,VR.undef γ,S⟩
         simp[execOp,resolve,invoke,builtin,e1,Builtin.clear_,run_und hu,hzv,hzc,hrun]
        ·cases h4
       ·rename_i t' he
        rw[he] at hy
        simp only[Option.some.injEq,Prod.mk.injEq] at hx
        obtain⟨rfl,rfl⟩:=hx
        refine⟨γ,.value (.tuple #[]),.tuple #[],w,?_,rfl,VR.undef γ,Sim.refl R⟩
        generalize hq:a.eval y=q at hy
        cases hy with
        | nils=>simp[execOp,resolve,invoke,builtin,hq,Builtin.clear_,run_und hu]
        | emp A c=>cases A<;>simp[execOp,resolve,invoke,builtin,hq,Builtin.clear_,run_und hu]
        | zcap A=>cases A<;>simp[execOp,resolve,invoke,builtin,hq,Builtin.clear_,run_und hu]
       ·cases hx
      ·cases hc
     ·cases hc
    ·cases hc
   case max=>
    split at hc
    ·obtain⟨_,rfl⟩:=ite_some hc;simp[cls] at hcl
    ·cases hc
   case min=>
    split at hc
    ·obtain⟨_,rfl⟩:=ite_some hc;simp[cls] at hcl
    ·cases hc
 | slice t y lo hi mx=>rcases hco with h1|h1<;>rcases hcl with h2|h2<;>omega
 | load t y=>simp only[clsOk] at hco;omega
 | _=>simp only[clsOk] at hco;omega
variable {P:Program} {B:Nat} {γ:List G} {h h':AH} {w:World} {f f':Fr} {a:Act} {v v':Value} {C:FuncId→List Value→AH→Option (Value×AH)} {nt:Nat}
abbrev Oracle:=FuncId→List Value→AH→Option (Value×AH)
def FR (γ:List G) (f:Fr) (t:Array Value):Prop:=∀ i,VR γ (f i) (t.getD i undef)
theorem FR.mono {γ γ':List G} {t:Array Value} (hp:γ<+:γ') (hf:FR γ f t):FR γ' f t:=fun i=>(hf i).mono hp
theorem FR.ev (hf:FR γ f a.tmps) {y:Operand} (hok:okOpd y=true):VR γ (ev f y) (a.eval y):=by
 cases y with
 | tmp i=>exact hf i
 | const v=>exact okConst_refl hok
 | global g=>simp[okOpd] at hok
 | func g=>exact .func g _ _ rfl fun i a b h=>by simp at h
theorem FR.vo (hf:FR γ f a.tmps) (l:Array Operand):VO γ f a l:=fun y _ hok=>hf.ev hok
theorem put_tmps (a:Act) (d:Option Nat) (v:Value):(a.put d v).tmps.size=a.tmps.size:=by cases d<;>simp[Act.put]
theorem put_defers (a:Act) (d:Option Nat) (v:Value):(a.put d v).defers=a.defers:=by cases d<;>rfl
theorem FR.put (hf:FR γ f a.tmps) (hv:VR γ v v') (d:Option Nat) (hd:∀ i,d=some i→i<a.tmps.size):FR γ (updo f d v) (a.put d v').tmps:=by
 cases d with
 | none=>exact hf
 | some d=>
  intro i
  simp only[updo,upd,Act.put]
  by_cases e:i=d
  ·subst e
   rw[if_pos rfl]
   simp[hd i rfl,hv]
  ·rw[if_neg e]
   have:=hf i
   simpa [Array.getElem?_setIfInBounds_ne (Ne.symm e)] using this
def CSound (P:Program) (C:Oracle):Prop:=∀ (g:FuncId) (args:List Value) (h:AH) (v:Value) (h':AH),C g args h=some (v,h') →
 (∃ fn,P.funcs[g]?=some fn∧fn.body.isNone=false∧(fn.name== "runtime.NumGoroutine")=false) ∧
 ∀ (B:Nat) (γ:List G) (w:World) (args':List Value),Rel P B γ h w→VRL γ args args' →
  Calls P g args'.toArray w fun e w'=>∃ γ' v',e=.returned v'∧VR γ' v v'∧Sim P B γ h w γ' h' w'
theorem call_wp {o:Oper} {fo:Operand} {args:List Operand} (hS:CSound P C) (hc:compOp P o.op=some (.call fo args)) (hx:xrun C (.call fo args) f h=some (v,h')) (hv:VO γ f a o.op.operands) (R:Rel P B γ h w)
  {K:Act→World→Prop} {Q:Exit→Act→World→Prop} (hK:∀ γ' v' w',VR γ' v v'→Sim P B γ h w γ' h' w'→K (a.put o.dst v') w'):o.wp P a w K Q:=by
 obtain⟨dst,op,ty,pos,after,guard⟩:=o
 simp only[] at hc hv
 have hco:=cls_op hc
 cases op with
 | call c=>
  obtain⟨callee,args0,argTypes⟩:=c
  cases callee with
  | value fo'=>
   obtain⟨h1,h2⟩:=ite_some hc
   simp only[XOp.call.injEq] at h2
   obtain⟨rfl,rfl⟩:=h2
   simp only[Bool.and_eq_true] at h1
   have hf:=hv fo' (by simp[Op.operands,Call.operands]) h1.1
   simp only[xrun] at hx
   split at hx
   ·rename_i g first cap he
    obtain⟨hfi,hx⟩:=ite_none hx
    have hfi:first=#[]:=by simpa using hfi
    subst hfi
    rw[he] at hf
    obtain⟨cap',e1,hcap⟩:=hf.func_inv
    obtain⟨⟨fn,q1,q2,q3⟩,hcall⟩:=hS g _ h v h' hx
    have hargs:VRL γ (args0.toList.map (ev f)) (args0.toList.map a.eval):=by
     refine⟨by simp,fun i u u' hu hu'=>?_⟩
     simp only[List.getElem?_map,Option.map_eq_some_iff] at hu hu'
     obtain⟨y,h3,rfl⟩:=hu
     obtain⟨y',h4,rfl⟩:=hu'
     rw[h3] at h4;cases h4
     have hm:y∈args0.toList:=List.mem_iff_getElem?.2 ⟨i,h3⟩
     exact hv y (by simp[Op.operands,Call.operands];exact .inr (by simpa using hm)) (List.all_eq_true.1 h1.2 y hm)
    have:=hcall B γ w (args0.toList.map a.eval++cap'.toList) R (hargs.append hcap)
    unfold Oper.wp
    have hrun:(execOp a.eval ⟨dst,.call ⟨.value fo',args0,argTypes⟩,ty,pos,after,guard⟩).run P w=.ok (.enter g (args0.toList.map a.eval++cap'.toList).toArray) w:=by
     have hargs2:(args0.map a.eval++cap':Array Value)=(args0.toList.map a.eval++cap'.toList).toArray:=by
      apply Array.ext';simp
     have q3':fn.name≠ "runtime.NumGoroutine":=by simpa using q3
     have q2':fn.body≠none:=by intro hb;rw[hb] at q2;cases q2
     simp[execOp,resolve,e1,Deferred.ofValue,invoke,callFunc,q1,q2',q3',hargs2]
    rw[hrun]
    refine Calls.mono this ?_
    rintro e w' ⟨γ',v',rfl,g1,g2⟩
    exact hK γ' v' w' g1 g2
   ·cases hx
  | invoke r m=>simp[compOp,compCall] at hc
  | builtin b=>
   exfalso
   cases b<;>simp only[compOp,compCall,reduceCtorEq] at hc
   case len=>
    split at hc
    ·split at hc
     ·obtain⟨_,h2⟩:=ite_some hc;cases h2
     ·cases hc
     ·cases hc
    ·cases hc
   case cap=>
    split at hc
    ·split at hc
     ·obtain⟨_,h2⟩:=ite_some hc;cases h2
     ·cases hc
    ·cases hc
   case append=>
    split at hc
    ·split at hc
     ·split at hc
      ·obtain⟨h1,h2⟩:=ite_some hc;cases h2
      ·cases hc
     ·split at hc
      ·obtain⟨h1,h2⟩:=ite_some hc;cases h2
      ·cases hc
     ·cases hc
    ·cases hc
   case clear=>
    split at hc
    ·split at hc
     ·split at hc
      ·obtain⟨_,h2⟩:=ite_some hc;cases h2
      ·cases hc
     ·cases hc
    ·cases hc
   case max=>
    split at hc
    ·obtain⟨_,h2⟩:=ite_some hc;cases h2
    ·cases hc
   case min=>
    split at hc
    ·obtain⟨_,h2⟩:=ite_some hc;cases h2
    ·cases hc
 | slice t y lo hi mx=>rcases hco with h1|h1<;>simp[cls] at h1
 | _=>simp[clsOk,cls] at hco
theorem xrun_other {x:XOp} (hn:cls x≠3):xrun C x f h=xop x f h:=by
 cases x<;>first|rfl|exact absurd rfl hn
theorem upon_ok {o:Oper} {nx:Next} {v':Value} {w':World} {K:Act→World→Prop} {Q:Exit→Act→World→Prop} (hnv:nv nx=some v') (hr:(execOp a.eval o).run P w=.ok nx w') (hK:K (a.put o.dst v') w'):o.wp P a w K Q:=by
 unfold Oper.wp
 rw[hr]
 cases nx<;>simp only[nv,Option.some.injEq,reduceCtorEq] at hnv<;>subst hnv<;>exact hK
theorem cls_cases (x:XOp):cls x=0∨cls x=1∨cls x=2∨cls x=3∨cls x=4:=by cases x<;>simp[cls]
theorem cls_call {x:XOp} (hx:cls x=3):∃ fo args,x=.call fo args:=by cases x<;>simp[cls] at hx;exact⟨_,_,rfl⟩
theorem op_wp {o:Oper} {x:XOp} (hS:CSound P C) (hc:compOp P o.op=some x) (hx:xrun C x f h=some (v,h')) (hv:VO γ f a o.op.operands) (R:Rel P B γ h w)
  {K:Act→World→Prop} {Q:Exit→Act→World→Prop} (hK:∀ γ' v' w',VR γ' v v'→Sim P B γ h w γ' h' w'→K (a.put o.dst v') w'):o.wp P a w K Q:=by
 rcases cls_cases x with h0|h1|h2|h3|h4
 ·rw[xrun_other (by omega)] at hx
  obtain⟨rfl,nx,v',q1,q2,q3⟩:=pure_sound (w:=w) hc h0 hx hv
  exact upon_ok q2 q1 (hK γ v' w q3 (Sim.refl R))
 ·rw[xrun_other (by omega)] at hx
  obtain⟨rfl,nx,v',q1,q2,q3⟩:=read_sound hc h1 hx hv R
  exact upon_ok q2 q1 (hK γ v' w q3 (Sim.refl R))
 ·rw[xrun_other (by omega)] at hx
  obtain⟨γ',nx,v',w',q1,q2,q3,q4⟩:=heap_sound hc (.inl h2) hx hv R
  exact upon_ok q2 q1 (hK γ' v' w' q3 q4)
 ·obtain⟨fo,args,rfl⟩:=cls_call h3
  exact call_wp hS hc hx hv R hK
 ·rw[xrun_other (by omega)] at hx
  obtain⟨γ',nx,v',w',q1,q2,q3,q4⟩:=heap_sound hc (.inr h4) hx hv R
  exact upon_ok q2 q1 (hK γ' v' w' q3 q4)
theorem getD_bool {t:Array Value} {d:Nat} {b:Bool} (hb:t.getD d undef=.bool b):t[d]?=some (.bool b):=by
 simp only[Array.getD_eq_getD_getElem?] at hb
 cases hd:t[d]? with
 | none=>simp[hd,undef] at hb
 | some u=>simp[hd] at hb;rw[hb]
theorem want_iff {ops:Array Oper} {o:Oper} {g:Option (Nat×Bool)} (hg:guardSlot ops o=some g) (hf:∀ d b,g=some (d,b)→VR γ (f d) (a.tmps.getD d undef)) :
  Region.wanted o (yielded ops a.tmps)=want f g:=by
 unfold guardSlot at hg
 split at hg
 ·rename_i hn
  cases hg
  simp[Region.wanted,hn,want]
 ·rename_i j b hj
  split at hg
  ·rename_i d hd
   cases hg
   have hv:=hf d b rfl
   simp only[Region.wanted,hj,want,yielded]
   rw[hd,Option.bind_some]
   cases hfd:f d with
   | bool c=>
    rw[hfd] at hv
    rw[getD_bool hv.bool_inv]
    simp
   | _=>
    have hne:∀ c,a.tmps[d]?≠some (.bool c):=by
     intro c hc
     rw[hfd] at hv
     simp only[Array.getD_eq_getD_getElem?,hc,Option.getD_some] at hv
     cases hv
    cases hd2:a.tmps[d]? with
    | none=>simp
    | some u=>cases u<;>first|exact absurd hd2 (hne _)|simp
  ·cases hg
theorem compOper_some {ops:Array Oper} {o:Oper} {x:XI} (hc:compOper P nt ops o=some x):compOp P o.op=some x.o∧guardSlot ops o=some x.g∧x.d=o.dst∧x.q=.f∧∀ d,o.dst=some d→d<nt:=by
 unfold compOper at hc
 split at hc
 ·rename_i y g h1 h2
  obtain⟨h3,rfl⟩:=ite_some hc
  refine⟨h1,h2,rfl,rfl,fun d hd=>?_⟩
  rw[hd] at h3
  simpa using h3
 ·cases hc
def Post (P:Program) (B:Nat) (γ:List G) (h:AH) (w:World) (nt:Nat) (a:Act) (f':Fr) (h':AH) (K:Act→World→Prop):Prop:=
 ∀ γ' a' w',FR γ' f' a'.tmps→nt≤a'.tmps.size→a'.defers=a.defers→Sim P B γ h w γ' h' w'→K a' w'
theorem xstep_some {i:XI} (hx:xstep C i f h=some (f',h')):(want f i.g=true∧∃ v,xrun C i.o f h=some (v,h')∧qok i.q i.o f h h'∧f'=updo f i.d v)∨(want f i.g=false∧f'=updo f i.d undef∧h'=h):=by
 unfold xstep at hx
 by_cases hw:want f i.g=true
 ·rw[if_pos hw] at hx
  split at hx
  ·rename_i v h1 hr
   by_cases hq:qok i.q i.o f h h1
   ·rw[if_pos hq] at hx
    simp only[Option.some.injEq,Prod.mk.injEq] at hx
    obtain⟨rfl,rfl⟩:=hx
    exact .inl ⟨hw,v,hr,hq,rfl⟩
   ·rw[if_neg hq] at hx;cases hx
  ·cases hx
 ·rw[if_neg hw] at hx
  simp only[Option.some.injEq,Prod.mk.injEq] at hx
  exact .inr ⟨by simpa using hw,hx.1.symm,hx.2.symm⟩
theorem step_wp {ops:Array Oper} {o:Oper} {i:XI} (hS:CSound P C) (hc:compOper P nt ops o=some i) (hx:xstep C i f h=some (f',h')) (hf:FR γ f a.tmps) (hn:nt≤a.tmps.size) (R:Rel P B γ h w)
  {K:Act→World→Prop} {Q:Exit→Act→World→Prop} (hK:Post P B γ h w nt a f' h' K):if Region.wanted o (yielded ops a.tmps) then o.wp P a w K Q else K (a.put o.dst undef) w:=by
 obtain⟨h1,h2,h3,_,h4⟩:=compOper_some hc
 rw[want_iff (γ:=γ) (f:=f) h2 (fun d b _=>hf d)]
 rcases xstep_some hx with⟨hw,v,hr,_,rfl⟩|⟨hw,rfl,rfl⟩
 ·rw[if_pos hw]
  refine op_wp hS h1 hr (hf.vo _) R fun γ' v' w' g1 g2=>?_
  refine hK γ' _ w' ?_ (by rw[put_tmps];exact hn) (put_defers _ _ _) g2
  rw[h3]
  exact (hf.mono g2.ext).put g1 o.dst (fun d hd=>Nat.lt_of_lt_of_le (h4 d hd) hn)
 ·rw[if_neg (by rw[hw];decide)]
  refine hK γ _ w ?_ (by rw[put_tmps];exact hn) (put_defers _ _ _) (Sim.refl R)
  rw[h3]
  exact hf.put (VR.undef γ) o.dst (fun d hd=>Nat.lt_of_lt_of_le (h4 d hd) hn)
theorem Post.step {γ1:List G} {h1:AH} {w1:World} {a1:Act} {K:Act→World→Prop} (hK:Post P B γ h w nt a f' h' K) (S:Sim P B γ h w γ1 h1 w1) (hd:a1.defers=a.defers):Post P B γ1 h1 w1 nt a1 f' h' K:=
 fun γ' a' w' q1 q2 q3 q4=>hK γ' a' w' q1 q2 (q3.trans hd) (S.trans q4)
theorem ops_wp {ops:Array Oper} {Q:Exit→Act→World→Prop} (hS:CSound P C):∀ (l:List Oper) (xs:List XI) (f:Fr) (h:AH) (γ:List G) (a:Act) (w:World),compOpers P nt ops l=some xs→xops C xs f h=some (f',h') →
  FR γ f a.tmps→nt≤a.tmps.size→Rel P B γ h w→Post P B γ h w nt a f' h' (Q .normal)→wpList P ops Q l a w
 | [],xs,f,h,γ,a,w,hc,hx,hf,hn,R,hK=>by
  simp[compOpers] at hc
  subst hc
  simp only[xops,Option.some.injEq,Prod.mk.injEq] at hx
  obtain⟨rfl,rfl⟩:=hx
  exact wpList_nil (hK γ a w hf hn rfl (Sim.refl R))
 | o::l,xs,f,h,γ,a,w,hc,hx,hf,hn,R,hK=>by
  simp only[compOpers] at hc
  split at hc
  ·rename_i i xs' h1 h2
   cases hc
   simp only[xops] at hx
   split at hx
   ·rename_i f1 h1' hstep
    refine wpList_step fun K hKK=>?_
    refine step_wp hS h1 hstep hf hn R fun γ1 a1 w1 q1 q2 q3 q4=>hKK _ _ ?_
    exact ops_wp hS l xs' f1 h1' γ1 a1 w1 h2 hx q1 q2 q4.rel (hK.step q4 q3)
   ·cases hx
  ·cases hc
variable {P:Program} {B:Nat} {γ:List G} {h h':AH} {w:World} {f f':Fr} {a:Act} {v v':Value} {C:FuncId→List Value→AH→Option (Value×AH)} {nt:Nat}
theorem xops_states:∀ (l:List XI) (f:Fr) (h:AH) (r:Fr×AH),xops C l f h=some r→∃ (F:Nat→Fr) (H:Nat→AH),F 0=f∧H 0=h∧(F l.length,H l.length)=r ∧
  ∀ i x,l[i]?=some x→xstep C x (F i) (H i)=some (F (i+1),H (i+1))
 | [],f,h,r,hx=>by
  simp only[xops,Option.some.injEq] at hx
  exact⟨fun _=>f,fun _=>h,rfl,rfl,hx,fun i x hi=>by simp at hi⟩
 | x::l,f,h,r,hx=>by
  simp only[xops] at hx
  split at hx
  ·rename_i f1 h1 hs
   obtain⟨F,H,e1,e2,e3,e4⟩:=xops_states l f1 h1 r hx
   refine⟨fun i=>if i=0 then f else F (i-1),fun i=>if i=0 then h else H (i-1),rfl,rfl,by simpa using e3,fun i y hi=>?_⟩
   cases i with
   | zero=>simp at hi;subst hi;simpa [e1,e2] using hs
   | succ i=>simpa using e4 i y (by simpa using hi)
  ·cases hx
theorem xops_append:∀ (l m:List XI) (f:Fr) (h:AH) (r:Fr×AH),xops C (l++m) f h=some r→∃ f1 h1,xops C l f h=some (f1,h1)∧xops C m f1 h1=some r
 | [],m,f,h,r,hx=>⟨f,h,rfl,hx⟩
 | x::l,m,f,h,r,hx=>by
  simp only[List.cons_append,xops] at hx ⊢
  split at hx
  ·rename_i f1 h1 hs
   exact xops_append l m f1 h1 r hx
  ·cases hx
theorem isNop_eq {x:XI} (hx:isNop x=true):x=nop:=by
 unfold isNop at hx
 split at hx
 ·rfl
 ·cases hx
theorem xstep_nop (f:Fr) (h:AH):xstep C nop f h=some (f,h):=by
 simp[xstep,nop,want,xrun,xop,updo,qok]
theorem xops_filter:∀ (l:List XI) (f:Fr) (h:AH),xops C (l.filter fun x=>!isNop x) f h=xops C l f h
 | [],f,h=>rfl
 | x::l,f,h=>by
  by_cases hx:isNop x=true
  ·rw[List.filter_cons_of_neg (by simp[hx])]
   rw[isNop_eq hx]
   simp only[xops,xstep_nop]
   exact xops_filter l f h
  ·rw[List.filter_cons_of_pos (by simpa using hx)]
   simp only[xops]
   split
   ·exact xops_filter l _ _
   ·rfl
theorem foldl_mask (acc:List Nat):∀ (es:List Edge) (m i:Nat),(es.foldl (fun m e=>if Region.binds .any e then m ||| (1 <<< e.on) ||| acc.getD e.on 0 else m) m).testBit i=true →
  m.testBit i=true∨∃ e∈es,Region.binds .any e=true∧(i=e.on∨(acc.getD e.on 0).testBit i=true)
 | [],m,i,h=>.inl h
 | e::es,m,i,h=>by
  simp only[List.foldl_cons] at h
  rcases foldl_mask acc es _ i h with h1|⟨e',h2,h3⟩
  ·split at h1
   ·rename_i hb
    simp only[Nat.testBit_or,Bool.or_eq_true] at h1
    rcases h1 with (h1|h1)|h1
    ·exact .inl h1
    ·refine .inr ⟨e,by simp,hb,.inl ?_⟩
     rw[Nat.one_shiftLeft,Nat.testBit_two_pow] at h1
     simpa using (of_decide_eq_true h1).symm
    ·exact .inr ⟨e,by simp,hb,.inr h1⟩
   ·exact .inl h1
  ·exact .inr ⟨e',by simp[h2],h3⟩
theorem masks_snoc (os:List Oper) (o:Oper):masks (os++[o])=masks os++[edgeMask (masks os) o.after.toList]:=by simp[masks]
theorem masks_length (os:List Oper):(masks os).length=os.length:=by
 have:∀ (os:List Oper) (acc:List Nat),(os.foldl (fun acc o=>acc++[edgeMask acc o.after.toList]) acc).length=acc.length+os.length:=by
  intro os
  induction os with
  | nil=>intro acc;simp
  | cons o os ih=>intro acc;simp only[List.foldl_cons,ih,List.length_append,List.length_cons,List.length_nil];omega
 have:=this os []
 simpa [masks] using this
theorem masks_take (os:List Oper):∀ k,k≤os.length→masks (os.take k)=(masks os).take k:=by
 have key:∀ (l m:List Oper) ,∃ t,masks (l++m)=masks l++t:=by
  have ext:∀ (m:List Oper) (acc:List Nat),∃ t,m.foldl (fun acc o=>acc++[edgeMask acc o.after.toList]) acc=acc++t:=by
   intro m
   induction m with
   | nil=>exact fun acc=>⟨[],by simp⟩
   | cons o m ih=>
    intro acc
    obtain⟨t,ht⟩:=ih (acc++[edgeMask acc o.after.toList])
    exact⟨[edgeMask acc o.after.toList]++t,by rw[List.foldl_cons,ht,List.append_assoc]⟩
  intro l m
  obtain⟨t,ht⟩:=ext m (masks l)
  exact⟨t,by rw[←ht];simp[masks]⟩
 intro k hk
 obtain⟨t,ht⟩:=key (os.take k) (os.drop k)
 rw[List.take_append_drop] at ht
 have hl:(masks (os.take k)).length=k:=by rw[masks_length];simp;omega
 rw[ht,List.take_append_of_le_length (by omega),List.take_of_length_le (l:=masks (os.take k)) (by omega)]
theorem masks_get (os:List Oper) (j:Nat) (o:Oper) (hj:os[j]?=some o):(masks os).getD j 0=edgeMask ((masks os).take j) o.after.toList:=by
 have hl:=(List.getElem?_eq_some_iff.1 hj).1
 have h1:os.take (j+1)=os.take j++[o]:=by rw[List.take_add_one,hj];rfl
 have h2:=masks_take os (j+1) (by omega)
 rw[h1,masks_snoc,masks_take os j (by omega)] at h2
 have h3:((masks os).take j++[edgeMask ((masks os).take j) o.after.toList])[j]?=((masks os).take (j+1))[j]?:=by rw[h2]
 rw[List.getElem?_append_right (by simp[masks_length];omega),List.getElem?_take,if_pos (by omega)] at h3
 simp only[List.length_take,masks_length,Nat.min_eq_left (Nat.le_of_lt hl),Nat.sub_self,List.getElem?_cons_zero] at h3
 rw[List.getD_eq_getElem?_getD,←h3]
 rfl
def Closed (os:List Oper) (L:Nat→Bool):Prop:=∀ i o,os[i]?=some o→L i=true→∀ e∈o.after.toList,Region.binds .any e=true→L e.on=true
theorem mask_listed {os:List Oper} {L:Nat→Bool} (hE:edgesFine os=true) (hL:Closed os L):∀ (j:Nat) (o:Oper),os[j]?=some o→(∀ e∈o.after.toList,Region.binds .any e=true→L e.on=true) →
  ∀ i,((masks os).getD j 0).testBit i=true→L i=true:=by
 intro j
 induction j using Nat.strongRecOn with
 | _ j ih=>
  intro o hj he i hi
  rw[masks_get os j o hj] at hi
  have hlt:=(List.getElem?_eq_some_iff.1 hj).1
  have hEj:=List.all_eq_true.1 hE j (by simpa using hlt)
  rw[hj] at hEj
  rcases foldl_mask _ _ 0 i hi with h0|⟨e,h1,h2,h3⟩
  ·simp at h0
  ·have hlist:=he e h1 h2
   have hon:e.on<j:=by
    have:=List.all_eq_true.1 hEj e h1
    simpa [h2] using this
   rcases h3 with rfl|h3
   ·exact hlist
   ·have hex:∃ o',os[e.on]?=some o':=⟨_,List.getElem?_eq_getElem (by omega)⟩
    obtain⟨o',ho'⟩:=hex
    refine ih e.on hon o' ho' (hL e.on o' ho' hlist) i ?_
    rw[List.getD_eq_getElem?_getD,List.getElem?_take,if_pos hon] at h3
    rw[List.getD_eq_getElem?_getD]
    exact h3
variable {P:Program} {B:Nat} {γ γ0:List G} {h h' h0:AH} {w w0:World} {f f':Fr} {a:Act} {v v':Value} {C:FuncId→List Value→AH→Option (Value×AH)} {nt:Nat}
theorem own_lt (R:Rel P B γ h w) {b:Nat} (ho:Own γ h b):b<w.heap.size:=by
 obtain⟨n,blk,g,h1,h2,h3,rfl⟩:=ho
 obtain⟨_,_,_,⟨cur,hc,_⟩,_⟩:=R.rw n blk g h1 h2 h3
 exact (Array.getElem?_eq_some_iff.1 hc).1
theorem Rel.besideAlloc (R:Rel P B γ h w) (o:Obj):Rel P B γ h (w.alloc o):=by
 refine⟨R.len,?_,?_,R.ro,R.inj,by simp;have:=R.base;omega⟩
 ·intro n b g hb hg j v hv
  obtain⟨h3,v',h4,h5⟩:=R.cell n b g hb hg j v hv
  exact⟨h3,v',cell_old R hb hg _ h4,h5⟩
 ·intro n b g hb hg hr
  obtain⟨h3,h4,h5,⟨cur',h6,h7⟩,h8⟩:=R.rw n b g hb hg hr
  exact⟨h3,h4,h5,⟨cur',by rw[heap_alloc_old w _ (Array.getElem?_eq_some_iff.1 h6).1];exact h6,h7⟩,h8⟩
theorem Sim.besideAlloc (S:Sim P B γ0 h0 w0 γ h w) (o:Obj):Sim P B γ0 h0 w0 γ h (w.alloc o):=by
 refine⟨S.rel.besideAlloc o,S.ext,by simp;have:=S.size;omega,fun b hb hn=>?_,S.own,S.os,S.tape,S.output⟩
 rw[heap_alloc_old w _ (Nat.lt_of_lt_of_le hb S.size)]
 exact S.frame b hb hn
theorem Rel.besideSet (R:Rel P B γ h w) {b:Nat} (hB:B≤b) (hno:¬ Own γ h b) (arr:Array Value):Rel P B γ h (w.setRow b arr):=by
 have hne:∀ n blk g,h.get n=some blk→γ[n]?=some g→g.b≠b:=by
  intro n blk g h1 h2 e
  cases hr:blk.ro with
  | true=>have:=R.ro n blk g h1 h2 hr;omega
  | false=>exact hno ⟨n,blk,g,h1,h2,hr,e⟩
 refine⟨R.len,?_,?_,R.ro,R.inj,by simpa using R.base⟩
 ·intro n blk g hb hg j v hv
  obtain⟨h3,v',h4,h5⟩:=R.cell n blk g hb hg j v hv
  exact⟨h3,v',by rw[cell_setRow_other w b arr _ (hne n blk g hb hg)];exact h4,h5⟩
 ·intro n blk g hb hg hr
  obtain⟨h3,h4,h5,⟨cur',h6,h7⟩,h8⟩:=R.rw n blk g hb hg hr
  exact⟨h3,h4,h5,⟨cur',by rw[setRow_other w b g.b arr (hne n blk g hb hg)];exact h6,h7⟩,h8⟩
theorem Sim.besideSet (S:Sim P B γ0 h0 w0 γ h w) {b:Nat} (hB:B≤b) (hno:¬ Own γ h b) (hnew:w0.heap.size≤b) (arr:Array Value):Sim P B γ0 h0 w0 γ h (w.setRow b arr):=by
 refine⟨S.rel.besideSet hB hno arr,S.ext,by simpa using S.size,fun k hk hn=>?_,S.own,S.os,S.tape,S.output⟩
 rw[setRow_other w b k arr (by omega)]
 exact S.frame k hk hn
theorem Sim.adopt (S:Sim P B γ0 h0 w0 γ h w) {b:Nat} (hB:B≤b) (hno:¬ Own γ h b) (hnew:w0.heap.size≤b) (c:List Value) (e:TypeId) (cur:Array Value)
  (hcur:w.heap[b]?=some (.cells cur e (0,0))) (hone:c.all isOne=true) (hrel:VRL γ c cur.toList) :
  Sim P B γ0 h0 w0 (γ++[⟨b,0,c.length⟩]) (h.new ⟨c,e,false,true⟩) w:=by
 have R:=S.rel
 have hpre:γ<+:γ++[(⟨b,0,c.length⟩:G)]:=List.prefix_append _ _
 have hcl:cur.size=c.length:=by have:=hrel.1;simpa using this.symm
 have old:∀ n blk g,(h.new ⟨c,e,false,true⟩).get n=some blk→(γ++[(⟨b,0,c.length⟩:G)])[n]?=some g →
   (h.get n=some blk∧γ[n]?=some g)∨(n=h.length∧blk=⟨c,e,false,true⟩∧g=⟨b,0,c.length⟩):=by
  intro n blk g hb hg
  rcases get_new_cases hb with h1|⟨h1,h2⟩
  ·have hl:=get_lt h1
   rw[List.getElem?_append_left (by rw[R.len];exact hl)] at hg
   exact .inl ⟨h1,hg⟩
  ·subst h1
   rw[←R.len,List.getElem?_concat_length] at hg
   exact .inr ⟨rfl,h2,(Option.some.inj hg).symm⟩
 refine⟨⟨by simp[AH.new,R.len],?_,?_,?_,?_,R.base⟩,S.ext.trans hpre,S.size,S.frame,?_,S.os,S.tape,S.output⟩
 ·intro n blk g hb hg j v hv
  rcases old n blk g hb hg with⟨h1,h2⟩|⟨rfl,rfl,rfl⟩
  ·obtain⟨h3,v',h4,h5⟩:=R.cell n blk g h1 h2 j v hv
   exact⟨h3,v',h4,h5.mono hpre⟩
  ·refine⟨List.all_eq_true.1 hone v (List.mem_iff_getElem?.2 ⟨j,hv⟩),?_⟩
   obtain⟨v',h1,h2⟩:=hrel.get hv
   exact⟨v',by rw[Nat.zero_add,cell_of_row w b j cur e (0,0) hcur,←Array.getElem?_toList];exact h1,h2.mono hpre⟩
 ·intro n blk g hb hg hr
  rcases old n blk g hb hg with⟨h1,h2⟩|⟨rfl,rfl,rfl⟩
  ·exact R.rw n blk g h1 h2 hr
  ·exact⟨rfl,hB,Nat.le_refl _,⟨cur,hcur,hcl⟩,fun _=>rfl,by simp⟩
 ·intro n blk g hb hg hr
  rcases old n blk g hb hg with⟨h1,h2⟩|⟨rfl,rfl,rfl⟩
  ·exact R.ro n blk g h1 h2 hr
  ·simp at hr
 ·intro n m bn bm g g' hn hm hgn hgm rn rm e'
  rcases old n bn g hn hgn with⟨h1,h2⟩|⟨rfl,rfl,rfl⟩<;>rcases old m bm g' hm hgm with⟨h3,h4⟩|⟨rfl,rfl,rfl⟩
  ·exact R.inj n m bn bm g g' h1 h3 h2 h4 rn rm e'
  ·exact absurd ⟨n,bn,g,h1,h2,rn,e'⟩ hno
  ·exact absurd ⟨m,bm,g',h3,h4,rm,e'.symm⟩ hno
  ·rfl
 ·rintro k ⟨n,blk,g,h1,h2,h3,h4⟩
  rcases old n blk g h1 h2 with⟨h5,h6⟩|⟨rfl,rfl,rfl⟩
  ·exact S.own k ⟨n,blk,g,h5,h6,h3,h4⟩
  ·right;simp at h4;omega
theorem compOpers_get {ops:Array Oper}:∀ (l:List Oper) (xs:List XI),compOpers P nt ops l=some xs→xs.length=l.length∧∀ (i:Nat) (o:Oper),l[i]?=some o→∃ x,xs[i]?=some x∧compOper P nt ops o=some x
 | [],xs,hc=>by simp[compOpers] at hc;subst hc;exact⟨rfl,fun i o hi=>by simp at hi⟩
 | o::l,xs,hc=>by
  simp only[compOpers] at hc
  split at hc
  ·rename_i x xs' h1 h2
   cases hc
   obtain⟨e1,e2⟩:=compOpers_get l xs' h2
   refine⟨by simp[e1],fun i o' hi=>?_⟩
   cases i with
   | zero=>simp at hi;subst hi;exact⟨x,rfl,h1⟩
   | succ i=>simpa using e2 i o' (by simpa using hi)
  ·cases hc
theorem nodup_dst {α:Type} {g:α→Option Nat}:∀ (l:List α),(l.filterMap g).Nodup→∀ (i j:Nat) (x y:α) (d:Nat),l[i]?=some x→l[j]?=some y→g x=some d→g y=some d→i=j
 | [],_,i,j,x,y,d,hi,_,_,_=>by simp at hi
 | z::l,hn,i,j,x,y,d,hi,hj,hx,hy=>by
  have hn':(l.filterMap g).Nodup:=by
   cases hz:g z with
   | none=>rw[List.filterMap_cons_none hz] at hn;exact hn
   | some d'=>rw[List.filterMap_cons_some hz] at hn;exact (List.nodup_cons.1 hn).2
  have hin:∀ (k:Nat) (u:α),l[k]?=some u→g u=some d→g z≠some d:=by
   intro k u hk hu hz
   rw[List.filterMap_cons_some hz] at hn
   exact (List.nodup_cons.1 hn).1 (List.mem_filterMap.2 ⟨u,List.mem_iff_getElem?.2 ⟨k,hk⟩,hu⟩)
  cases i with
  | zero=>
   cases j with
   | zero=>rfl
   | succ j=>
    simp at hi hj
    subst hi
    exact absurd hx (hin j y hj hy)
  | succ i=>
   cases j with
   | zero=>
    simp at hi hj
    subst hj
    exact absurd hy (hin i x hi hx)
   | succ j=>
    have:=nodup_dst l hn' i j x y d (by simpa using hi) (by simpa using hj) hx hy
    omega
theorem fusedAt_some {ops:Array Oper} {os:List Oper} {i j:Nat} {z:Fused} (hz:fusedAt P ops os i j=some z):z.i=i∧z.j=j ∧
  ∃ oi oj t zc,ops[i]?=some oi∧ops[j]?=some oj∧oi.op=.alloc z.e∧oi.dst=some z.d∧oi.guard=none∧oj.op=.store t (.tmp z.d) z.x∧oj.dst=none∧oj.guard=none∧i<j∧okOpd z.x=true ∧
   z.x≠.tmp z.d∧(∀ k o,k<os.length→ops[k]?=some o→(k=j∨z.d∉looks ops o)∧(∀ y,o.dst=some y→z.x=.tmp y→k<j))∧zeroT P z.e=some zc∧sizeT P t=some z.n∧zc.length=z.n:=by
 unfold fusedAt at hz
 split at hz
 ·rename_i oi oj hi hj
  split at hz
  ·rename_i e d t d' x e1 e2 e3 e4 e5 e6
   obtain⟨h1,h2⟩:=ite_none hz
   simp only[Bool.and_eq_true,decide_eq_true_eq,beq_iff_eq] at h1
   obtain⟨⟨⟨⟨hij,rfl⟩,hok⟩,hxd⟩,hall⟩:=h1
   split at h2
   ·rename_i zc n hzc hn
    obtain⟨h3,rfl⟩:=ite_some h2
    refine⟨rfl,rfl,oi,oj,t,zc,hi,hj,e1,e2,e3,e4,e5,e6,hij,hok,?_,?_,hzc,hn,by simpa using h3⟩
    ·intro hx
     have hx':x=.tmp d:=hx
     rw[hx'] at hxd
     simp at hxd
    ·intro k o hk ho
     have:=List.all_eq_true.1 hall k (by simpa using hk)
     rw[ho] at this
     simp only[Bool.and_eq_true,Bool.or_eq_true,beq_iff_eq,Bool.not_eq_true',decide_eq_true_eq,Option.isNone_iff_eq_none,bne_iff_ne,ne_eq] at this
     refine⟨this.1.imp id (fun h=>by simpa using h),fun y hy hx=>?_⟩
     rcases this.2 with (h4|h4)|h4
     ·rw[hy] at h4;cases h4
     ·have hx':x=.tmp y:=hx
      exact absurd (by rw[hy,hx'];rfl) h4
     ·exact h4
   ·cases h2
  ·cases hz
 ·cases hz
theorem fusedOf_mem {ops:Array Oper} {z:Fused} (hz:z∈fusedOf P ops):fusedAt P ops ops.toList z.i z.j=some z:=by
 simp only[fusedOf,List.mem_flatMap,List.mem_filterMap,List.mem_range] at hz
 obtain⟨i,_,j,_,h1⟩:=hz
 obtain⟨e1,e2,_⟩:=fusedAt_some h1
 rw[e1,e2];exact h1
variable {P:Program} {B:Nat} {γ γ0:List G} {h h' h0:AH} {w w0:World} {f f':Fr} {a a0:Act} {v v':Value} {C:FuncId→List Value→AH→Option (Value×AH)} {nt:Nat}
theorem xop_pure_h {x:XOp} (hcl:cls x<2) (hx:xop x f h=some (v,h')):h'=h:=by
 by_cases h1:cls x=1
 ·exact (read_block h1 hx).1
 ·have h0:cls x=0:=by omega
  cases x<;>simp[cls] at h0
  case build z parts=>
   simp only[xop] at hx
   split at hx
   ·exact ((Prod.mk.inj (ite_some hx).2).2).symm
   ·cases hx
  case bin op y z=>simp only[xop] at hx;obtain⟨r,_,h2⟩:=map_some hx;exact ((Prod.mk.inj h2).2).symm
  case un op y=>simp only[xop] at hx;obtain⟨r,_,h2⟩:=map_some hx;exact ((Prod.mk.inj h2).2).symm
  case mm b y l=>
   simp only[xop] at hx
   split at hx
   ·obtain⟨r,_,h2⟩:=map_some hx;exact ((Prod.mk.inj h2).2).symm
   ·cases hx
  case fail=>simp[xop] at hx
  all_goals
   simp only[xop] at hx
   repeat' split at hx
   all_goals first
    | (simp only[Option.some.injEq,Prod.mk.injEq] at hx;exact hx.2.symm)
    | (simp only[reduceCtorEq] at hx;done)
    | cases hx
theorem xop_new_h {x:XOp} (hcl:cls x=2) (hx:xop x f h=some (v,h')):h<+:h':=by
 cases x<;>simp[cls] at hcl
 case alloc e z=>
  simp only[xop,Option.some.injEq,Prod.mk.injEq] at hx
  rw[←hx.2];exact List.prefix_append _ _
 case box e y=>
  simp only[xop] at hx
  rw[←(Prod.mk.inj (ite_some hx).2).2];exact List.prefix_append _ _
 case boxn e n y=>
  simp only[xop] at hx
  rw[←(Prod.mk.inj (ite_some hx).2).2];exact List.prefix_append _ _
 case bslice e sz len z parts=>
  simp only[xop] at hx
  split at hx
  ·rw[←(Prod.mk.inj (ite_some hx).2).2];exact List.prefix_append _ _
  ·cases hx
 case mks e sz bytes z len=>
  simp only[xop] at hx
  split at hx
  ·rw[←(Prod.mk.inj (ite_some hx).2).2];exact List.prefix_append _ _
  ·cases hx
def ord (os:List Oper) (i j:Nat):Prop:=ordered (masks os) i j=true
structure RegS (P:Program) (C:Oracle) (nt:Nat) (ops:Array Oper) (F:Nat→Fr) (H:Nat→AH) (Z:Nat→XI) (fs:List Fused):Prop where
 comp:∀ (i:Nat) (o:Oper),ops[i]?=some o→(∀ z∈fs,z.i≠i∧z.j≠i)→∃ x,compOper P nt ops o=some x∧((Z i).o=x.o∨(∃ e sz z,x.o=.bslice e sz 0 z [])∧(Z i).o=.mkz)∧(Z i).d=x.d∧(Z i).g=x.g
 nop:∀ (i:Nat),(∃ z∈fs,z.i=i∨z.j=i)→Z i=nop
 step:∀ (i:Nat),i<ops.size→xstep C (Z i) (F i) (H i)=some (F (i+1),H (i+1))
 pair:∀ (i j:Nat) (oi oj:Oper),ops[i]?=some oi→ops[j]?=some oj→i≠j→¬ ord ops.toList i j→(pairOk (cls (Z i).o) (cls (Z j).o)=true∨cls (Z i).o=1∨cls (Z j).o=1)∧∀ d,oi.dst=some d→d∉looks ops oj
 quiet:∀ (i j:Nat),i<ops.size→j<ops.size→3≤cls (Z i).o→cls (Z j).o=1→¬ ord ops.toList i j→want (F j) (Z j).g=true →
  H i<+:H (i+1)∨∃ m,Kp m (H i) (H (i+1))∧∀ y p,rdOpd (Z j).o=some y→ev (F j) y=.pointer (some p)→p.block≠m
 uniq:∀ (i j:Nat) (oi oj:Oper) (d:Nat),ops[i]?=some oi→ops[j]?=some oj→oi.dst=some d→oj.dst=some d→i=j
 edges:edgesFine ops.toList=true
 fus:∀ z∈fs,fusedAt P ops ops.toList z.i z.j=some z
 apart:∀ z∈fs,∀ z'∈fs,(z.i=z'.i∨z.j=z'.j∨z.i=z'.j)→z=z'
 fine:∀ z∈fs,(ev (F ops.size) z.x).cells.toList.length=z.n∧(ev (F ops.size) z.x).cells.toList.all isOne=true
section
variable {ops:Array Oper} {F:Nat→Fr} {H:Nat→AH} {Z:Nat→XI} {fs:List Fused}
theorem RegS.F_step (T:RegS P C nt ops F H Z fs) {k:Nat} (hk:k<ops.size) {d:Nat} (hd:(Z k).d≠some d):F (k+1) d=F k d:=by
 rcases xstep_some (T.step k hk) with⟨_,v,_,_,e⟩|⟨_,e,_⟩<;>rw[e] <;>
 ·cases hz:(Z k).d with
  | none=>rfl
  | some d'=>
   have:d≠d':=fun e=>hd (by rw[hz,e])
   simp[updo,upd,this]
theorem RegS.F_const (T:RegS P C nt ops F H Z fs) {d:Nat}:∀ (n i:Nat),i+n≤ops.size→(∀ k,i≤k→k<i+n→(Z k).d≠some d)→F (i+n) d=F i d
 | 0,i,_,_=>rfl
 | n+1,i,hn,hk=>by
  rw[←Nat.add_assoc,T.F_step (by omega) (hk (i+n) (by omega) (by omega))]
  exact T.F_const n i (by omega) (fun k h1 h2=>hk k h1 (by omega))
theorem RegS.H_step (T:RegS P C nt ops F H Z fs) {k:Nat} (hk:k<ops.size) (hc:cls (Z k).o<2):H (k+1)=H k:=by
 rcases xstep_some (T.step k hk) with⟨_,v,hr,_,_⟩|⟨_,_,e⟩
 ·rw[xrun_other (by omega)] at hr
  exact xop_pure_h hc hr
 ·exact e
theorem RegS.H_const (T:RegS P C nt ops F H Z fs):∀ (n i:Nat),i+n≤ops.size→(∀ k,i≤k→k<i+n→cls (Z k).o<2)→H (i+n)=H i
 | 0,i,_,_=>rfl
 | n+1,i,hn,hk=>by
  rw[←Nat.add_assoc,T.H_step (by omega) (hk (i+n) (by omega) (by omega))]
  exact T.H_const n i (by omega) (fun k h1 h2=>hk k h1 (by omega))
theorem prefix_get {h1 h2:AH} (hp:h1<+:h2) {n:Nat} (hn:n<h1.length):h2.get n=h1.get n:=by
 obtain⟨t,rfl⟩:=hp
 unfold AH.get
 rw[List.getElem?_append_left hn]
theorem prefix_kp {h1 h2:AH} (hp:h1<+:h2) {m:Nat}:Kp m h1 h2:=by
 refine⟨?_,fun n hn _=>prefix_get hp hn⟩
 obtain⟨t,rfl⟩:=hp
 simp
def Leaves (n:Nat) (h h':AH):Prop:=h.length≤h'.length∧(n<h.length→h'.get n=h.get n)
theorem RegS.leaves (T:RegS P C nt ops F H Z fs) {k:Nat} (hk:k<ops.size) (hc:cls (Z k).o<2∨cls (Z k).o=2) (n:Nat):Leaves n (H k) (H (k+1)):=by
 rcases hc with h1|h1
 ·rw[T.H_step hk h1];exact⟨Nat.le_refl _,fun _=>rfl⟩
 ·rcases xstep_some (T.step k hk) with⟨_,v,hr,_,_⟩|⟨_,_,e⟩
  ·rw[xrun_other (by omega)] at hr
   have:=xop_new_h h1 hr
   exact⟨(prefix_kp this (m:=0)).1,fun hn=>prefix_get this hn⟩
  ·rw[e];exact⟨Nat.le_refl _,fun _=>rfl⟩
theorem RegS.H_leaves {n:Nat}:∀ (c i:Nat),(∀ k,i≤k→k<i+c→Leaves n (H k) (H (k+1)))→Leaves n (H i) (H (i+c))
 | 0,i,_=>⟨Nat.le_refl _,fun _=>rfl⟩
 | c+1,i,hk=>by
  obtain⟨h1,h2⟩:=RegS.H_leaves c i (fun k h1 h2=>hk k h1 (by omega))
  obtain⟨h3,h4⟩:=hk (i+c) (by omega) (by omega)
  rw[←Nat.add_assoc]
  exact⟨Nat.le_trans h1 h3,fun hn=>(h4 (by omega)).trans (h2 hn)⟩
structure Inv (P:Program) (B nt:Nat) (ops:Array Oper) (F:Nat→Fr) (H:Nat→AH) (Z:Nat→XI) (fs:List Fused) (γ0:List G) (h0:AH) (w0:World) (a0:Act)
  (L:Nat→Bool) (a:Act) (w:World) (γ:List G) (p:Nat) (pb:Nat→Nat):Prop where
 size:nt≤a.tmps.size
 defers:a.defers=a0.defers
 closed:Closed ops.toList L
 plt:p≤ops.size
 chain:∀ (i:Nat),i<ops.size→2≤cls (Z i).o→(L i=true↔i<p)
 sim:Sim P B γ0 h0 w0 γ (H p) w
 done:∀ (d:Nat),(∀ z∈fs,z.d≠d)→∀ (i:Nat) (o:Oper),ops[i]?=some o→o.dst=some d→L i=true→VR γ (F ops.size d) (a.tmps.getD d undef)
 todo:∀ (d:Nat),(∀ z∈fs,z.d≠d)→(∀ (i:Nat) (o:Oper),ops[i]?=some o→o.dst=some d→L i=false)→VR γ (F 0 d) (a.tmps.getD d undef)
 pend:∀ z∈fs,L z.i=true→a.tmps.getD z.d undef=.pointer (some ⟨pb z.i,0,none⟩)∧B≤pb z.i∧w0.heap.size≤pb z.i∧pb z.i<w.heap.size∧¬ Own γ (H p) (pb z.i) ∧
  ∃ cur,w.heap[pb z.i]?=some (.cells cur z.e (0,0))∧cur.size=z.n∧(L z.j=true→VRL γ (ev (F ops.size) z.x).cells.toList cur.toList)
 sep:∀ z∈fs,∀ z'∈fs,L z.i=true→L z'.i=true→z.i≠z'.i→pb z.i≠pb z'.i
def setL (L:Nat→Bool) (i:Nat):Nat→Bool:=fun k=>if k=i then true else L k
theorem setL_self (L:Nat→Bool) (i:Nat):setL L i i=true:=by simp[setL]
theorem setL_ne (L:Nat→Bool) {i k:Nat} (hk:k≠i):setL L i k=L k:=by simp[setL,hk]
theorem setL_mono {L:Nat→Bool} {i k:Nat} (hk:L k=true):setL L i k=true:=by unfold setL;split<;>first|rfl|exact hk
theorem Closed.set {os:List Oper} {L:Nat→Bool} (hL:Closed os L) {i:Nat} {o:Oper} (ho:os[i]?=some o) (he:∀ e∈o.after.toList,Region.binds .any e=true→L e.on=true):Closed os (setL L i):=by
 intro k o' hk hl e hm hb
 by_cases hki:k=i
 ·subst hki
  rw[ho] at hk;cases hk
  exact setL_mono (he e hm hb)
 ·rw[setL_ne L hki] at hl
  exact setL_mono (hL k o' hk hl e hm hb)
theorem ready_before {L:Nat→Bool} (hE:edgesFine ops.toList=true) (hL:Closed ops.toList L) {i:Nat} {o:Oper} (ho:ops[i]?=some o) (hi:L i=false)
  (he:∀ e∈o.after.toList,Region.binds .any e=true→L e.on=true) {k:Nat} {o':Oper} (hk:ops[k]?=some o') (hne:k≠i) (hord:ord ops.toList k i∨ord ops.toList i k):L k=true↔k<i:=by
 have hoi:ops.toList[i]?=some o:=by rw[Array.getElem?_toList];exact ho
 have hok:ops.toList[k]?=some o':=by rw[Array.getElem?_toList];exact hk
 have h1:k<i→L k=true:=by
  intro hlt
  refine mask_listed hE hL i o hoi he k ?_
  rcases hord with h|h
  ·unfold ord ordered at h;rwa [if_pos hlt] at h
  ·unfold ord ordered at h;rwa [if_neg (by omega)] at h
 refine⟨fun hl=>?_,h1⟩
 rcases Nat.lt_or_ge k i with h|h
 ·exact h
 ·exfalso
  have hlt:i<k:=by omega
  have:L i=true:=by
   refine mask_listed hE hL k o' hok (hL k o' hok hl) i ?_
   rcases hord with h|h
   ·unfold ord ordered at h;rwa [if_neg (by omega)] at h
   ·unfold ord ordered at h;rwa [if_pos hlt] at h
  rw[hi] at this;cases this
theorem RegS.dstZ (T:RegS P C nt ops F H Z fs) {i:Nat} {o:Oper} (ho:ops[i]?=some o) {d:Nat} (hd:(Z i).d=some d):o.dst=some d∧∀ z∈fs,z.d≠d:=by
 by_cases hf:∃ z∈fs,z.i=i∨z.j=i
 ·rw[T.nop i hf] at hd;cases hd
 ·have hnf:∀ z∈fs,z.i≠i∧z.j≠i:=fun z hz=>⟨fun e=>hf ⟨z,hz,.inl e⟩,fun e=>hf ⟨z,hz,.inr e⟩⟩
  obtain⟨x,h1,_,h2,_⟩:=T.comp i o ho hnf
  obtain⟨_,_,h3,_⟩:=compOper_some h1
  rw[h2,h3] at hd
  refine⟨hd,fun z hz e=>?_⟩
  obtain⟨_,_,oi,oj,t,zc,q1,q2,q3,q4,_⟩:=fusedAt_some (T.fus z hz)
  exact (hnf z hz).1 (T.uniq z.i i oi o d q1 ho (by rw[q4,e]) hd)
theorem Inv.slot (T:RegS P C nt ops F H Z fs) {L:Nat→Bool} {p:Nat} {pb:Nat→Nat} (I:Inv P B nt ops F H Z fs γ0 h0 w0 a0 L a w γ p pb) {i:Nat} {o:Oper} (ho:ops[i]?=some o) (hi:L i=false)
  (he:∀ e∈o.after.toList,Region.binds .any e=true→L e.on=true) {d:Nat} (hd:d∈looks ops o) (hnf:∀ z∈fs,z.d≠d):VR γ (F i d) (a.tmps.getD d undef):=by
 have hilt:i<ops.size:=(Array.getElem?_eq_some_iff.1 ho).1
 by_cases hw:∃ (k:Nat) (o':Oper),ops[k]?=some o'∧o'.dst=some d
 ·obtain⟨k,o',hk,hkd⟩:=hw
  have hklt:k<ops.size:=(Array.getElem?_eq_some_iff.1 hk).1
  have honly:∀ m,m<ops.size→m≠k→(Z m).d≠some d:=by
   intro m hm hne hz
   have hom:ops[m]?=some ops[m]:=Array.getElem?_eq_getElem hm
   exact hne (T.uniq m k _ o' d hom hk (T.dstZ hom hz).1 hkd)
  by_cases hki:k=i
  ·subst hki
   rw[show F k d=F 0 d from by
    have:=T.F_const (d:=d) k 0 (by omega) (fun m _ h2=>honly m (by omega) (by omega))
    rwa [Nat.zero_add] at this]
   refine I.todo d hnf (fun m om hm hmd=>?_)
   rw[T.uniq m k om o' d hm hk hmd hkd];exact hi
  ·have hord:ord ops.toList k i:=by
    by_cases h1:ord ops.toList k i
    ·exact h1
    ·exact absurd hd ((T.pair k i o' o hk ho hki h1).2 d hkd)
   have hiff:=ready_before T.edges I.closed ho hi he hk hki (.inl hord)
   rcases Nat.lt_or_gt_of_ne hki with hlt|hgt
   ·have:=I.done d hnf k o' hk hkd (hiff.2 hlt)
    have e:F ops.size d=F i d:=by
     have:=T.F_const (d:=d) (ops.size-i) i (by omega) (fun m h1 h2=>honly m (by omega) (by omega))
     rwa [show i+(ops.size-i)=ops.size by omega] at this
    rw[←e];exact this
   ·have hlk:L k=false:=by
     cases hl:L k with
     | false=>rfl
     | true=>have:=hiff.1 hl;omega
    rw[show F i d=F 0 d from by
     have:=T.F_const (d:=d) i 0 (by omega) (fun m _ h2=>honly m (by omega) (by omega))
     rwa [Nat.zero_add] at this]
    refine I.todo d hnf (fun m om hm hmd=>?_)
    rw[T.uniq m k om o' d hm hk hmd hkd];exact hlk
 ·have honly:∀ m,m<ops.size→(Z m).d≠some d:=by
   intro m hm hz
   have hom:ops[m]?=some ops[m]:=Array.getElem?_eq_getElem hm
   exact hw ⟨m,_,hom,(T.dstZ hom hz).1⟩
  rw[show F i d=F 0 d from by
   have:=T.F_const (d:=d) i 0 (by omega) (fun m _ h2=>honly m (by omega))
   rwa [Nat.zero_add] at this]
  exact I.todo d hnf (fun m om hm hmd=>absurd ⟨m,om,hm,hmd⟩ hw)
end
variable {P:Program} {B:Nat} {γ γ0:List G} {h h' h0:AH} {w w0:World} {f f':Fr} {a a0:Act} {v v':Value} {C:FuncId→List Value→AH→Option (Value×AH)} {nt:Nat}
variable {ops:Array Oper} {F:Nat→Fr} {H:Nat→AH} {Z:Nat→XI} {fs:List Fused}
theorem getD_put (a:Act) (d:Option Nat) (v:Value) (i:Nat) (hi:d=some i→i<a.tmps.size):(a.put d v).tmps.getD i undef=if d=some i then v else a.tmps.getD i undef:=by
 cases d with
 | none=>rfl
 | some d=>
  simp only[Act.put,Option.some.injEq]
  by_cases e:d=i
  ·subst e
   rw[if_pos rfl]
   simp[hi rfl]
  ·rw[if_neg e]
   simp[Array.getElem?_setIfInBounds_ne e]
theorem Inv.plain (T:RegS P C nt ops F H Z fs) {L:Nat→Bool} {p:Nat} {pb:Nat→Nat} (I:Inv P B nt ops F H Z fs γ0 h0 w0 a0 L a w γ p pb) {i:Nat} {o:Oper} (ho:ops[i]?=some o) (hi:L i=false)
  (he:∀ e∈o.after.toList,Region.binds .any e=true→L e.on=true) (hnf:∀ z∈fs,z.i≠i∧z.j≠i) {γ':List G} {p':Nat} {w':World} {v':Value} (hp':p'≤ops.size)
  (hchain:∀ k,k<ops.size→2≤cls (Z k).o→(setL L i k=true↔k<p')) (hv:∀ d,o.dst=some d→d<nt∧VR γ' (F (i+1) d) v') (S:Sim P B γ (H p) w γ' (H p') w') :
  Inv P B nt ops F H Z fs γ0 h0 w0 a0 (setL L i) (a.put o.dst v') w' γ' p' pb:=by
 have hilt:i<ops.size:=(Array.getElem?_eq_some_iff.1 ho).1
 have hsz:∀ d,o.dst=some d→d<a.tmps.size:=fun d hd=>Nat.lt_of_lt_of_le (hv d hd).1 I.size
 have hnd:∀ z∈fs,o.dst≠some z.d:=by
  intro z hz e
  obtain⟨_,_,oi,oj,t,zc,q1,q2,q3,q4,_⟩:=fusedAt_some (T.fus z hz)
  exact (hnf z hz).1 (T.uniq z.i i oi o z.d q1 ho q4 e)
 refine⟨by rw[put_tmps];exact I.size,(put_defers _ _ _).trans I.defers,I.closed.set (by rw[Array.getElem?_toList];exact ho) he,hp',hchain,I.sim.trans S,?_,?_,?_,?_⟩
 ·intro d hd k ok hk hkd hl
  rw[getD_put _ _ _ _ (fun e=>hsz d e)]
  by_cases hki:k=i
  ·subst hki
   rw[ho] at hk;cases hk
   rw[if_pos hkd]
   have e:F ops.size d=F (k+1) d:=by
    have:=T.F_const (d:=d) (ops.size-(k+1)) (k+1) (by omega) (fun m h1 h2 hz=>by
     have hom:ops[m]?=some ops[m]:=Array.getElem?_eq_getElem (by omega)
     have:=T.uniq m k _ o d hom ho (T.dstZ hom hz).1 hkd
     omega)
    rwa [show k+1+(ops.size-(k+1))=ops.size by omega] at this
   rw[e];exact (hv d hkd).2
  ·rw[if_neg (fun e=>hki (T.uniq k i ok o d hk ho hkd e))]
   rw[setL_ne L hki] at hl
   exact (I.done d hd k ok hk hkd hl).mono S.ext
 ·intro d hd hall
  have hod:o.dst≠some d:=fun e=>by have:=hall i o ho e;rw[setL_self] at this;cases this
  rw[getD_put _ _ _ _ (fun e=>hsz d e),if_neg hod]
  refine (I.todo d hd (fun k ok hk hkd=>?_)).mono S.ext
  have hki:k≠i:=by rintro rfl;rw[ho] at hk;cases hk;exact hod hkd
  have:=hall k ok hk hkd
  rwa [setL_ne L hki] at this
 ·intro z hz hl
  rw[setL_ne L (hnf z hz).1] at hl
  obtain⟨q1,q2,q3,q4,q5,cur,q6,q7,q8⟩:=I.pend z hz hl
  rw[getD_put _ _ _ _ (fun e=>hsz _ e),if_neg (hnd z hz)]
  refine⟨q1,q2,q3,Nat.lt_of_lt_of_le q4 S.size,fun ho'=>?_,cur,by rw[S.frame _ q4 q5];exact q6,q7,fun hj=>?_⟩
  ·rcases S.own _ ho' with h1|h1
   ·exact q5 h1
   ·omega
  ·rw[setL_ne L (hnf z hz).2] at hj
   exact (q8 hj).mono S.ext
 ·intro z hz z' hz' hl hl' hne
  rw[setL_ne L (hnf z hz).1] at hl
  rw[setL_ne L (hnf z' hz').1] at hl'
  exact I.sep z hz z' hz' hl hl' hne
theorem Inv.heap (T:RegS P C nt ops F H Z fs) {L:Nat→Bool} {p:Nat} {pb:Nat→Nat} (I:Inv P B nt ops F H Z fs γ0 h0 w0 a0 L a w γ p pb) {i:Nat} {o:Oper} (ho:ops[i]?=some o) (hi:L i=false)
  (he:∀ e∈o.after.toList,Region.binds .any e=true→L e.on=true) (hc:2≤cls (Z i).o) :
  H p=H i∧∀ k,k<ops.size→2≤cls (Z k).o→(setL L i k=true↔k<i+1):=by
 have hilt:i<ops.size:=(Array.getElem?_eq_some_iff.1 ho).1
 have key:∀ k,k<ops.size→2≤cls (Z k).o→k≠i→(L k=true↔k<i):=by
  intro k hk hck hne
  have hok:ops[k]?=some ops[k]:=Array.getElem?_eq_getElem hk
  have hord:ord ops.toList k i:=by
   by_cases h1:ord ops.toList k i
   ·exact h1
   ·have:=(T.pair k i _ o hok ho hne h1).1
    unfold pairOk at this
    simp only[Bool.or_eq_true,beq_iff_eq,Bool.and_eq_true,decide_eq_true_eq] at this
    omega
  exact ready_before T.edges I.closed ho hi he hok hne (.inl hord)
 constructor
 ·rcases Nat.le_total p i with hle|hle
  ·have:=T.H_const (i-p) p (by omega) (fun k h1 h2=>by
    rcases Nat.lt_or_ge (cls (Z k).o) 2 with h3|h3
    ·exact h3
    ·exfalso
     have h4:=(key k (by omega) h3 (by omega)).2 (by omega)
     have h5:=(I.chain k (by omega) h3).1 h4
     omega)
   rw[show p+(i-p)=i by omega] at this
   exact this.symm
  ·have:=T.H_const (p-i) i (by have:=I.plt;omega) (fun k h1 h2=>by
    rcases Nat.lt_or_ge (cls (Z k).o) 2 with h3|h3
    ·exact h3
    ·exfalso
     have hk:k<ops.size:=by have:=I.plt;omega
     have h4:=(I.chain k hk h3).2 (by omega)
     by_cases hki:k=i
     ·subst hki;rw[hi] at h4;cases h4
     ·have:=(key k hk h3 hki).1 h4
      omega)
   rw[show i+(p-i)=p by omega] at this
   exact this
 ·intro k hk hck
  by_cases hki:k=i
  ·subst hki
   exact⟨fun _=>by omega,fun _=>setL_self L k⟩
  ·rw[setL_ne L hki,key k hk hck hki]
   omega
theorem Inv.read (T:RegS P C nt ops F H Z fs) {L:Nat→Bool} {p:Nat} {pb:Nat→Nat} (I:Inv P B nt ops F H Z fs γ0 h0 w0 a0 L a w γ p pb) {i:Nat} {o:Oper} (ho:ops[i]?=some o) (hi:L i=false)
  (he:∀ e∈o.after.toList,Region.binds .any e=true→L e.on=true) (hc:cls (Z i).o=1) (hw:want (F i) (Z i).g=true) {y:Operand} {n off:Nat} {sp:Option Nat} (hy:rdOpd (Z i).o=some y) (hev:ev (F i) y=.pointer (some ⟨n,off,sp⟩))
  (hn:n<(H p).length) (hb:∃ b,(H i).get n=some b):(H p).get n=(H i).get n:=by
 have hilt:i<ops.size:=(Array.getElem?_eq_some_iff.1 ho).1
 have one:∀ k,k<ops.size→k≠i→¬ ord ops.toList k i→Leaves n (H k) (H (k+1)):=by
  intro k hk hne hno
  rcases Nat.lt_or_ge (cls (Z k).o) 3 with h2|h2
  ·exact T.leaves hk (by omega) n
  ·rcases T.quiet k i hk hilt h2 hc hno hw with h3|⟨m,h3,h4⟩
   ·exact⟨(prefix_kp h3 (m:=0)).1,fun hn=>prefix_get h3 hn⟩
   ·have:=h4 y _ hy hev
    exact⟨h3.1,fun hn=>h3.2 n hn this⟩
 have small:∀ k,k<ops.size→cls (Z k).o<2→Leaves n (H k) (H (k+1)):=fun k hk h1=>T.leaves hk (.inl h1) n
 rcases Nat.le_total p i with hle|hle
 ·have:=RegS.H_leaves (H:=H) (n:=n) (i-p) p (fun k h1 h2=>by
   rcases Nat.lt_or_ge (cls (Z k).o) 2 with h3|h3
   ·exact small k (by omega) h3
   ·refine one k (by omega) (by omega) (fun hord=>?_)
    have hok:ops[k]?=some ops[k]:=Array.getElem?_eq_getElem (by omega)
    have h4:=(ready_before T.edges I.closed ho hi he hok (by omega) (.inl hord)).2 (by omega)
    have h5:=(I.chain k (by omega) h3).1 h4
    omega)
  rw[show p+(i-p)=i by omega] at this
  exact (this.2 hn).symm
 ·have:=RegS.H_leaves (H:=H) (n:=n) (p-i) i (fun k h1 h2=>by
   have hk:k<ops.size:=by have:=I.plt;omega
   rcases Nat.lt_or_ge (cls (Z k).o) 2 with h3|h3
   ·exact small k hk h3
   ·have hki:k≠i:=by rintro rfl;omega
    refine one k hk hki (fun hord=>?_)
    have hok:ops[k]?=some ops[k]:=Array.getElem?_eq_getElem hk
    have h4:=(I.chain k hk h3).2 (by omega)
    have h5:=(ready_before T.edges I.closed ho hi he hok hki (.inl hord)).1 h4
    omega)
  rw[show i+(p-i)=p by omega] at this
  obtain⟨b,hb⟩:=hb
  exact this.2 (get_lt hb)
theorem rd_in {op:Op} {x:XOp} {y:Operand} (c1:compOp P op=some x) (e1:rdOpd x=some y):y∈op.operands.toList∧okOpd y=true:=by
 have hco:=cls_op c1
 cases op with
 | load t y'=>
  obtain⟨h1,h2⟩:=ite_none c1
  split at h2
  ·cases h2;cases e1;exact⟨by simp[Op.operands],h1⟩
  ·cases h2;cases e1;exact⟨by simp[Op.operands],h1⟩
  ·cases h2
 | slice t y' lo hi' mx=>
  obtain⟨h1,h2⟩:=ite_none c1
  simp only[Bool.and_eq_true] at h1
  split at h2
  ·split at h2
   ·split at h2
    ·cases h2;cases e1
    ·split at h2
     ·obtain⟨_,rfl⟩:=ite_some h2;cases e1
     ·cases h2
    ·cases h2
   ·cases h2
  ·split at h2
   ·split at h2
    ·cases h2;cases e1;exact⟨by simp[Op.operands],h1.1.1⟩
    ·cases h2
   ·cases h2
  ·cases h2
 | _=>
  exfalso
  cases x<;>simp[rdOpd] at e1<;>simp[clsOk,cls] at hco
theorem zero_sound {o:Oper} {e:TypeId} {sz:Nat} {z:List Value} (c1:compOp P o.op=some (.bslice e sz 0 z [])) :
  ∃ v' w',(execOp a.eval o).run P w=.ok (.value v') w'∧v'=.slice (some ⟨w.heap.size,0,none⟩) 0 0∧w'=w.alloc (.cells #[] e):=by
 obtain⟨dst,op,ty,pos,after,guard⟩:=o
 simp only at c1
 cases op with
 | buildSlice t n parts=>
  simp only[compOp] at c1
  split at c1
  ·rename_i e' hu
   split at c1
   ·rename_i z' i hz hi
    obtain⟨h1,h2⟩:=ite_none c1
    obtain⟨l,hl,h3⟩:=map_some h2
    simp only[XOp.bslice.injEq] at h3
    obtain⟨rfl,rfl,rfl,rfl,rfl⟩:=h3
    have hp:parts.toList=[]:=by
     cases hq:parts.toList with
     | nil=>rfl
     | cons q r=>
      rw[hq] at hl
      obtain⟨q1,q2⟩:=q
      simp only[partsT] at hl
      split at hl
      ·split at hl<;>simp at hl
      ·cases hl
    have hpa:parts=#[]:=by rw[←Array.toArray_toList (xs:=parts),hp]
    subst hpa
    refine⟨_,_,?_,rfl,rfl⟩
    have hsz:(sizeOf e').run P w=.ok i.size w:=by simp[sizeOf,typeInfo,hi]
    have hb:(Instr.buildSlice t 0 ((#[]:Array (Nat×Operand)).map fun (i,x)=>(i,a.eval x))).run P w=.ok (.slice (some ⟨w.heap.size,0,none⟩) 0 0) (w.alloc (.cells #[] e')):=by
     unfold Instr.buildSlice
     rw[Sem.run_bind,run_und hu,Result.andThen_ok]
     simp only[]
     rw[Sem.run_bind,hsz,Result.andThen_ok,if_neg (by omega),if_pos (by omega),Sem.run_bind,Sem.run_pure,Result.andThen_ok]
     simp[Instr.fill]
     rw[show Array.map (fun _=>(default:Value)) (Array.range 0)=#[] from by simp[Array.range]]
     rfl
    simp only[execOp,Sem.run_bind,hb,Result.andThen_ok,Sem.run_pure]
   ·cases c1
  ·cases c1
 | _=>
  exfalso
  first
  | (have:=cls_op c1;simp[clsOk,cls] at this;done)
  | (simp only[compOp] at c1;(repeat' split at c1)<;>simp at c1;done)
theorem Inv.next (hS:CSound P C) (T:RegS P C nt ops F H Z fs) (hZd:∀ z∈fs,z.d<nt) {L:Nat→Bool} {p:Nat} {pb:Nat→Nat} (I:Inv P B nt ops F H Z fs γ0 h0 w0 a0 L a w γ p pb) {i:Nat} {o:Oper} (ho:ops[i]?=some o) (hi:L i=false)
  (he:∀ e∈o.after.toList,Region.binds .any e=true→L e.on=true) {K:Act→World→Prop} {Q:Exit→Act→World→Prop}
  (hK:∀ a' w' γ' p' pb',Inv P B nt ops F H Z fs γ0 h0 w0 a0 (setL L i) a' w' γ' p' pb'→K a' w'):wpOp P ops Q i K a w:=by
 have hilt:i<ops.size:=(Array.getElem?_eq_some_iff.1 ho).1
 unfold wpOp
 rw[ho]
 show if Region.wanted o (yielded ops a.tmps)=true then _ else _
 by_cases hfz:∃ z∈fs,z.i=i
 · -- a fused variable is made
  obtain⟨z,hz,rfl⟩:=hfz
  obtain⟨_,_,oi,oj,t,zc,q1,q2,q3,q4,q5,q6,q7,q8,q9,q10,q11,q12,q13,q14,q15⟩:=fusedAt_some (T.fus z hz)
  rw[ho] at q1;cases q1
  obtain⟨inf,y,hi1,hy,rfl,hok,hlen,hpos⟩:=zeroT_some q13
  rw[if_pos (by simp[Region.wanted,q5])]
  left
  have hrun:(execOp a.eval o).run P w=.ok (.value (.pointer (some ⟨w.heap.size,0,none⟩))) (w.alloc (.cells y.cells z.e)):=by
   obtain⟨dst,op,ty,pos,after,guard⟩:=o
   simp only at q3
   subst q3
   simp[execOp,Instr.alloc,zeroValue,typeInfo,hi1,hy,newVar,newRow]
  refine upon_ok rfl hrun (hK _ _ γ p (fun k=>if k=z.i then w.heap.size else pb k) ?_)
  have hnop:=T.nop z.i ⟨z,hz,.inl rfl⟩
  have hzi:∀ z'∈fs,z'.i=z.i→z'=z:=fun z' hz' e=>T.apart z' hz' z hz (.inl e)
  have hzij:∀ z'∈fs,z'.j≠z.i:=fun z' hz' e=>by
   have:=T.apart z hz z' hz' (.inr (.inr e.symm))
   subst this
   omega
  have hdd:∀ z'∈fs,z'.d=z.d→z'=z:=fun z' hz' e=>by
   obtain⟨_,_,oi',oj',t',zc',p1,p2,p3,p4,_⟩:=fusedAt_some (T.fus z' hz')
   exact hzi z' hz' (T.uniq z'.i z.i oi' o z.d p1 ho (by rw[p4,e]) q4)
  have hsz:z.d<a.tmps.size:=Nat.lt_of_lt_of_le (hZd z hz) I.size
  refine⟨by rw[put_tmps];exact I.size,(put_defers _ _ _).trans I.defers,I.closed.set (by rw[Array.getElem?_toList];exact ho) he,I.plt,?_,I.sim.besideAlloc _,?_,?_,?_,?_⟩
  ·intro k hk hck
   have hki:k≠z.i:=by rintro rfl;rw[hnop] at hck;simp[X.nop,cls] at hck
   rw[setL_ne L hki];exact I.chain k hk hck
  ·intro d hd k ok hk hkd hl
   have hne:o.dst≠some d:=by rw[q4];intro e;cases e;exact hd z hz rfl
   have hki:k≠z.i:=by rintro rfl;rw[ho] at hk;cases hk;exact hne hkd
   rw[getD_put _ _ _ _ (fun e=>absurd e hne),if_neg hne]
   rw[setL_ne L hki] at hl
   exact I.done d hd k ok hk hkd hl
  ·intro d hd hall
   have hne:o.dst≠some d:=by rw[q4];intro e;cases e;exact hd z hz rfl
   rw[getD_put _ _ _ _ (fun e=>absurd e hne),if_neg hne]
   refine I.todo d hd (fun k ok hk hkd=>?_)
   have hki:k≠z.i:=by rintro rfl;rw[ho] at hk;cases hk;exact hne hkd
   have:=hall k ok hk hkd
   rwa [setL_ne L hki] at this
  ·intro z' hz' hl
   by_cases e:z'.i=z.i
   ·have:=hzi z' hz' e
    subst this
    rw[getD_put _ _ _ _ (fun _=>hsz),if_pos q4]
    simp only[if_true]
    refine⟨trivial,I.sim.rel.base,I.sim.size,by simp,fun hown=>?_,y.cells,heap_alloc_new w _,by rw[←q15];simp,fun hj=>?_⟩
    ·have:=own_lt I.sim.rel hown
     omega
    ·exfalso
     rw[setL_ne L (hzij z' hz')] at hj
     -- the store stands behind
     have hne':z'.i≠z'.j:=by omega
     have hord:ord ops.toList z'.j z'.i∨ord ops.toList z'.i z'.j:=by
      by_cases h1:ord ops.toList z'.i z'.j
      ·exact .inr h1
      ·have:=(T.pair z'.i z'.j o oj ho q2 hne' h1).2 z'.d q4
       exact absurd (by simp[looks,q6,Op.operands,opdTmp]) this
     have:=(ready_before T.edges I.closed ho hi he q2 (by omega) hord).1 hj
     omega
   ·rw[setL_ne L e] at hl
    obtain⟨r1,r2,r3,r4,r5,cur,r6,r7,r8⟩:=I.pend z' hz' hl
    have hne:o.dst≠some z'.d:=by rw[q4];intro e';exact e (by rw[hdd z' hz' (Option.some.inj e').symm])
    rw[getD_put _ _ _ _ (fun e=>absurd e hne),if_neg hne]
    simp only[if_neg e]
    refine⟨r1,r2,r3,by simp;omega,r5,cur,by rw[heap_alloc_old w _ r4];exact r6,r7,fun hj=>?_⟩
    rw[setL_ne L (hzij z' hz')] at hj
    exact r8 hj
  ·intro z1 hz1 z2 hz2 hl1 hl2 hne
   by_cases e1:z1.i=z.i
   ·have e2:z2.i≠z.i:=fun e=>hne (e1.trans e.symm)
    rw[setL_ne L e2] at hl2
    obtain⟨_,_,_,r4,_⟩:=I.pend z2 hz2 hl2
    simp only[if_pos e1,if_neg e2]
    omega
   ·by_cases e2:z2.i=z.i
    ·rw[setL_ne L e1] at hl1
     obtain⟨_,_,_,r4,_⟩:=I.pend z1 hz1 hl1
     simp only[if_neg e1,if_pos e2]
     omega
    ·rw[setL_ne L e1] at hl1
     rw[setL_ne L e2] at hl2
     simp only[if_neg e1,if_neg e2]
     exact I.sep z1 hz1 z2 hz2 hl1 hl2 hne
 ·by_cases hfj:∃ z∈fs,z.j=i
  · -- a fused variable is set
   obtain⟨z,hz,rfl⟩:=hfj
   obtain⟨_,_,oi,oj,t,zc,q1,q2,q3,q4,q5,q6,q7,q8,q9,q10,q11,q12,q13,q14,q15⟩:=fusedAt_some (T.fus z hz)
   rw[ho] at q2;cases q2
   rw[if_pos (by simp[Region.wanted,q8])]
   left
   have hij:z.i≠z.j:=by omega
   have hlooks:z.d∈looks ops o:=by simp[looks,q6,Op.operands,opdTmp]
   have hli:L z.i=true:=by
    have hord:ord ops.toList z.i z.j:=by
     by_cases h1:ord ops.toList z.i z.j
     ·exact h1
     ·exact absurd hlooks ((T.pair z.i z.j oi o q1 ho hij h1).2 z.d q4)
    exact (ready_before T.edges I.closed ho hi he q1 hij (.inl hord)).2 q9
   obtain⟨r1,r2,r3,r4,r5,cur,r6,r7,r8⟩:=I.pend z hz hli
   -- what is set
   have hx:VR γ (ev (F ops.size) z.x) (a.eval z.x):=by
    cases hzx:z.x with
    | const u=>exact okConst_refl (by rw[hzx] at q10;exact q10)
    | func g=>exact .func g _ _ rfl fun i a b h=>by simp at h
    | global g=>rw[hzx] at q10;simp[okOpd] at q10
    | tmp y=>
     have hyl:y∈looks ops o:=by simp[looks,q6,Op.operands,opdTmp,hzx]
     have hyd:∀ z'∈fs,z'.d≠y:=by
      intro z' hz' e
      obtain⟨_,_,oi',oj',t',zc',p1,p2,p3,p4,p5,p6,p7,p8,p9,p10,p11,p12,_⟩:=fusedAt_some (T.fus z' hz')
      rcases (p12 z.j o (by simpa using hilt) ho).1 with e'|e'
      ·have:=T.apart z hz z' hz' (.inr (.inl e'))
       subst this
       exact p11 (by rw[hzx,e])
      ·exact e' (by rw[e];exact hyl)
     have:=I.slot T ho hi he hyl hyd
     have e:F ops.size y=F z.j y:=by
      have:=T.F_const (d:=y) (ops.size-z.j) z.j (by omega) (fun m h1 h2 hm=>by
       have hom:ops[m]?=some ops[m]:=Array.getElem?_eq_getElem (by omega)
       have:=(q12 m _ (by simp;omega) hom).2 y (T.dstZ hom hm).1 hzx
       omega)
      rwa [show z.j+(ops.size-z.j)=ops.size by omega] at this
     show VR γ (F ops.size y) (a.tmps.getD y undef)
     rw[e];exact this
   obtain⟨f1,f2⟩:=T.fine z hz
   have hcl:=hx.cells
   have hsize:(a.eval z.x).cells.size=z.n:=by have:=hcl.1;simp at this f1;omega
   have hst:=run_storeCells_at (P:=P) (pb z.i) 0 z.e (a.eval z.x).cells.toList 0 cur w r6 (by simp;omega) (hcl.one f2)
   have hd:a.eval (.tmp z.d)=.pointer (some ⟨pb z.i,0,none⟩):=r1
   have hrun:(execOp a.eval o).run P w=.ok .skip (w.setRow (pb z.i) (cur.toList.take 0++(a.eval z.x).cells.toList++cur.toList.drop (0+(a.eval z.x).cells.toList.length)).toArray):=by
    obtain⟨dst,op,ty,pos,after,guard⟩:=o
    simp only at q6
    subst q6
    simp only[Nat.add_zero,Nat.zero_add] at hst ⊢
    simp only[execOp,Instr.storeAt,hd,Instr.sureAddr,storeVar,Sem.run_bind,Sem.run_pure,Result.andThen_ok,run_size q14,hsize,ne_eq,not_true_eq_false,if_false,hst]
   have harr:(cur.toList.take 0++(a.eval z.x).cells.toList++cur.toList.drop (0+(a.eval z.x).cells.toList.length)).toArray=(a.eval z.x).cells:=by
    rw[List.drop_of_length_le (by simp;omega)]
    simp
   rw[harr] at hrun
   refine upon_ok rfl hrun (hK _ _ γ p pb ?_)
   rw[q7]
   have hnop:=T.nop z.j ⟨z,hz,.inr rfl⟩
   have hzj:∀ z'∈fs,z'.j=z.j→z'=z:=fun z' hz' e=>T.apart z' hz' z hz (.inr (.inl e))
   have hzij:∀ z'∈fs,z'.i≠z.j:=fun z' hz' e=>by
    have:=T.apart z' hz' z hz (.inr (.inr e))
    subst this
    omega
   refine⟨I.size,I.defers,I.closed.set (by rw[Array.getElem?_toList];exact ho) he,I.plt,?_,I.sim.besideSet r2 r5 r3 _,?_,?_,?_,?_⟩
   ·intro k hk hck
    have hki:k≠z.j:=by rintro rfl;rw[hnop] at hck;simp[X.nop,cls] at hck
    rw[setL_ne L hki];exact I.chain k hk hck
   ·intro d hd' k ok hk hkd hl
    have hki:k≠z.j:=by rintro rfl;rw[ho] at hk;cases hk;rw[q7] at hkd;cases hkd
    rw[setL_ne L hki] at hl
    exact I.done d hd' k ok hk hkd hl
   ·intro d hd' hall
    refine I.todo d hd' (fun k ok hk hkd=>?_)
    have hki:k≠z.j:=by rintro rfl;rw[ho] at hk;cases hk;rw[q7] at hkd;cases hkd
    have:=hall k ok hk hkd
    rwa [setL_ne L hki] at this
   ·intro z' hz' hl
    rw[setL_ne L (hzij z' hz')] at hl
    obtain⟨s1,s2,s3,s4,s5,cur',s6,s7,s8⟩:=I.pend z' hz' hl
    by_cases e:z'.i=z.i
    ·have:=T.apart z' hz' z hz (.inl e)
     subst this
     exact⟨s1,s2,s3,by simpa using s4,s5,_,setRow_heap w (pb z'.i) cur _ z'.e (0,0) r6,by rw[hsize],fun _=>hcl⟩
    ·have hne:=I.sep z' hz' z hz hl hli e
     refine⟨s1,s2,s3,by simpa using s4,s5,cur',by rw[setRow_other w (pb z.i) _ _ hne];exact s6,s7,fun hj=>?_⟩
     have:z'.j≠z.j:=fun e'=>e (by rw[hzj z' hz' e'])
     rw[setL_ne L this] at hj
     exact s8 hj
   ·intro z1 hz1 z2 hz2 hl1 hl2 hne
    rw[setL_ne L (hzij z1 hz1)] at hl1
    rw[setL_ne L (hzij z2 hz2)] at hl2
    exact I.sep z1 hz1 z2 hz2 hl1 hl2 hne
  · -- any other
   have hnf:∀ z∈fs,z.i≠i∧z.j≠i:=fun z hz=>⟨fun e=>hfz ⟨z,hz,e⟩,fun e=>hfj ⟨z,hz,e⟩⟩
   obtain⟨x,hcx,hxo,hxd,hxg⟩:=T.comp i o ho hnf
   obtain⟨c1,c2,c3,_,c4⟩:=compOper_some hcx
   have hlf:∀ d,d∈looks ops o→∀ z∈fs,z.d≠d:=by
    intro d hd z hz e
    obtain⟨_,_,oi',oj',t',zc',p1,p2,p3,p4,p5,p6,p7,p8,p9,p10,p11,p12,_⟩:=fusedAt_some (T.fus z hz)
    rcases (p12 i o (by simpa using hilt) ho).1 with e'|e'
    ·exact (hnf z hz).2 e'.symm
    ·exact e' (by rw[e];exact hd)
   have hslot:∀ d,d∈looks ops o→VR γ (F i d) (a.tmps.getD d undef):=fun d hd=>I.slot T ho hi he hd (hlf d hd)
   have hvo:VO γ (F i) a o.op.operands:=by
    intro y hy hok
    cases y with
    | const u=>exact okConst_refl hok
    | func g=>exact .func g _ _ rfl fun i a b h=>by simp at h
    | global g=>simp[okOpd] at hok
    | tmp d=>
     refine hslot d ?_
     simp only[looks,List.mem_append,List.mem_filterMap]
     exact .inl ⟨.tmp d,hy,rfl⟩
   have hstep:=T.step i hilt
   have hgd:∀ d b,x.g=some (d,b)→VR γ (F i d) (a.tmps.getD d undef):=by
    intro d b hg
    refine hslot d ?_
    unfold guardSlot at c2
    split at c2
    ·rw[hg] at c2;cases c2
    ·rename_i j b' hgj
     split at c2
     ·rename_i d' hd'
      rw[hg] at c2
      cases c2
      simp only[looks,hgj,List.mem_append]
      exact .inr (by rw[hd'];simp)
     ·cases c2
   rw[want_iff (γ:=γ) (f:=F i) c2 hgd,←hxg]
   have chain0:cls (Z i).o<2→∀ k,k<ops.size→2≤cls (Z k).o→(setL L i k=true↔k<p):=by
    intro hlt k hk hck
    have hki:k≠i:=by rintro rfl;omega
    rw[setL_ne L hki];exact I.chain k hk hck
   rcases hxo with hxo|⟨⟨ze,zsz,zz,hzo⟩,hxo⟩
   case inr=>
    have hcz:cls (Z i).o=0:=by rw[hxo];rfl
    rcases xstep_some hstep with⟨hw,v,hr,_,hF⟩|⟨hw,hF,hH⟩
    ·rw[if_pos hw]
     left
     have hFd:∀ d,o.dst=some d→F (i+1) d=v:=by
      intro d hd
      rw[hF,hxd,c3,hd]
      simp[updo,upd]
     rw[hxo] at hr
     simp only[xrun,xop,Option.some.injEq,Prod.mk.injEq] at hr
     obtain⟨rfl,_⟩:=hr
     rw[hzo] at c1
     obtain⟨v',w',q1,q2,q3⟩:=zero_sound (o:=o) (a:=a) (w:=w) c1
     refine upon_ok rfl q1 (hK _ _ γ p pb (I.plain T ho hi he hnf I.plt (chain0 (by omega)) (fun d hd=>⟨c4 d hd,by rw[hFd d hd,q2];exact .zcap _⟩) ?_))
     rw[q3]
     exact (Sim.refl I.sim.rel).besideAlloc _
    ·rw[if_neg (by rw[hw];decide)]
     have hFd:∀ d,o.dst=some d→F (i+1) d=undef:=by
      intro d hd
      rw[hF,hxd,c3,hd]
      simp[updo,upd]
     exact hK _ _ γ p pb (I.plain T ho hi he hnf I.plt (chain0 (by omega)) (fun d hd=>⟨c4 d hd,by rw[hFd d hd];exact VR.undef γ⟩) (Sim.refl I.sim.rel))
   rcases xstep_some hstep with⟨hw,v,hr,_,hF⟩|⟨hw,hF,hH⟩
   ·rw[if_pos hw]
    left
    have hFd:∀ d,o.dst=some d→F (i+1) d=v:=by
     intro d hd
     rw[hF,hxd,c3,hd]
     simp[updo,upd]
    rcases cls_cases (Z i).o with k0|k1|k2|k3|k4
    ·rw[xrun_other (by omega)] at hr
     rw[hxo] at hr k0
     obtain⟨_,nx,v',q1,q2,q3⟩:=pure_sound (w:=w) c1 k0 hr hvo
     refine upon_ok q2 q1 (hK _ _ γ p pb (I.plain T ho hi he hnf I.plt (chain0 (by rw[hxo];omega)) (fun d hd=>⟨c4 d hd,by rw[hFd d hd];exact q3⟩) (Sim.refl I.sim.rel)))
    ·rw[xrun_other (by omega)] at hr
     rw[hxo] at hr
     obtain⟨_,y,n,off,sp,e1,e2,e3,e4⟩:=read_block (by rw[←hxo];exact k1) hr
     have e1':rdOpd (Z i).o=some y:=by rw[hxo];exact e1
     have hyin:=rd_in c1 e1
     have hyr:=hvo y hyin.1 hyin.2
     rw[e2] at hyr
     obtain⟨_,g,hg,_⟩:=hyr.ptr_inv
     have hnlt:n<(H p).length:=by rw[←I.sim.rel.len];exact (List.getElem?_eq_some_iff.1 hg).1
     have hget:=I.read T ho hi he k1 hw e1' e2 hnlt e3
     have hr2:=e4 (H p) hget
     obtain⟨_,nx,v',q1,q2,q3⟩:=read_sound c1 (by rw[←hxo];exact k1) hr2 hvo I.sim.rel
     refine upon_ok q2 q1 (hK _ _ γ p pb (I.plain T ho hi he hnf I.plt (chain0 (by omega)) (fun d hd=>⟨c4 d hd,by rw[hFd d hd];exact q3⟩) (Sim.refl I.sim.rel)))
    all_goals
     obtain⟨hHp,hch⟩:=I.heap T ho hi he (by omega)
     rw[←hHp] at hr
     rw[hxo] at hr
     refine op_wp hS c1 hr hvo I.sim.rel fun γ' v' w' g1 g2=>hK _ _ γ' (i+1) pb ?_
     exact I.plain T ho hi he hnf (by omega) hch (fun d hd=>⟨c4 d hd,by rw[hFd d hd];exact g1⟩) g2
   ·rw[if_neg (by rw[hw];decide)]
    have hFd:∀ d,o.dst=some d→F (i+1) d=undef:=by
     intro d hd
     rw[hF,hxd,c3,hd]
     simp[updo,upd]
    rcases Nat.lt_or_ge (cls (Z i).o) 2 with hlt|hge
    ·exact hK _ _ γ p pb (I.plain T ho hi he hnf I.plt (chain0 hlt) (fun d hd=>⟨c4 d hd,by rw[hFd d hd];exact VR.undef γ⟩) (Sim.refl I.sim.rel))
    ·obtain⟨hHp,hch⟩:=I.heap T ho hi he hge
     have S:Sim P B γ (H p) w γ (H (i+1)) w:=by rw[hH,←hHp];exact Sim.refl I.sim.rel
     exact hK _ _ γ (i+1) pb (I.plain T ho hi he hnf (by omega) hch (fun d hd=>⟨c4 d hd,by rw[hFd d hd];exact VR.undef γ⟩) S)
variable {P:Program} {B:Nat} {γ γ0:List G} {h h' h0:AH} {w w0:World} {f f':Fr} {a a0:Act} {v v':Value} {C:FuncId→List Value→AH→Option (Value×AH)} {nt:Nat}
variable {ops:Array Oper} {F:Nat→Fr} {H:Nat→AH} {Z:Nat→XI} {fs:List Fused}
theorem filter_less {p q:Nat→Bool} {i:Nat} (hq:∀ k,q k=(p k&&!(k==i))) (hi:p i=true):∀ (l:List Nat),(l.filter q).length≤(l.filter p).length∧(i∈l→(l.filter q).length<(l.filter p).length)
 | []=>⟨Nat.le_refl _,fun h=>by simp at h⟩
 | x::l=>by
  obtain⟨h1,h2⟩:=filter_less hq hi l
  by_cases e:x=i
  ·subst e
   have e1:q x=false:=by rw[hq];simp
   rw[List.filter_cons_of_pos hi,List.filter_cons_of_neg (by rw[e1];decide)]
   simp only[List.length_cons]
   exact⟨by omega,fun _=>by omega⟩
  ·have e1:q x=p x:=by rw[hq];simp[e]
   cases hp:p x with
   | true=>
    rw[List.filter_cons_of_pos hp,List.filter_cons_of_pos (by rw[e1];exact hp)]
    simp only[List.length_cons]
    exact⟨by omega,fun hm=>by
     rcases List.mem_cons.1 hm with h|h
     ·exact absurd h.symm e
     ·have:=h2 h;omega⟩
   | false=>
    rw[List.filter_cons_of_neg (p:=q) (by rw[e1,hp];decide),List.filter_cons_of_neg (p:=p) (by rw[hp];decide)]
    exact⟨h1,fun hm=>by
     rcases List.mem_cons.1 hm with h|h
     ·exact absurd h.symm e
     ·exact h2 h⟩
def Ls (L:Array Bool):Nat→Bool:=fun i=>L.getD i false
theorem ready_mem {L:Array Bool} (hs:L.size=ops.size) {i:Nat} (hi:i∈Region.ready .any ops L):∃ o,ops[i]?=some o∧Ls L i=false∧i<ops.size∧∀ e∈o.after.toList,Region.binds .any e=true→Ls L e.on=true:=by
 simp only[Region.ready,List.mem_filter,List.mem_range,Bool.and_eq_true,Bool.not_eq_true'] at hi
 obtain⟨hlt,h1,h2⟩:=hi
 refine⟨ops[i],Array.getElem?_eq_getElem hlt,?_,hlt,?_⟩
 ·have hl:i<L.size:=by omega
  simp only[Ls,Array.getD_eq_getD_getElem?,Array.getElem?_eq_getElem hl,Option.getD_some] at h1 ⊢
  exact h1
 ·rw[Array.getElem?_eq_getElem hlt] at h2
  simp only[Option.map_some,Option.getD_some] at h2
  intro e he hb
  have:=(Array.all_eq_true_iff_forall_mem.1 h2) e (by simpa using he)
  simpa [hb,Ls] using this
theorem ready_nil {L:Array Bool} (hs:L.size=ops.size) (hE:edgesFine ops.toList=true) (hr:Region.ready .any ops L=[]):∀ i,i<ops.size→Ls L i=true:=by
 intro i
 induction i using Nat.strongRecOn with
 | _ i ih=>
  intro hlt
  cases hl:Ls L i with
  | true=>rfl
  | false=>
   exfalso
   have hm:i∈Region.ready .any ops L:=by
    simp only[Region.ready,List.mem_filter,List.mem_range,Bool.and_eq_true,Bool.not_eq_true']
    refine⟨hlt,?_,?_⟩
    ·have hl2:i<L.size:=by omega
     simp only[Ls,Array.getD_eq_getD_getElem?,Array.getElem?_eq_getElem hl2,Option.getD_some] at hl ⊢
     exact hl
    ·rw[Array.getElem?_eq_getElem hlt]
     simp only[Option.map_some,Option.getD_some]
     refine Array.all_eq_true_iff_forall_mem.2 fun e he=>?_
     cases hb:Region.binds .any e with
     | false=>rfl
     | true=>
      have hEi:=List.all_eq_true.1 hE i (by simpa using hlt)
      rw[Array.getElem?_toList,Array.getElem?_eq_getElem hlt] at hEi
      have:=List.all_eq_true.1 hEi e (by simpa using he)
      have hon:e.on<i:=by simpa [hb] using this
      have:=ih e.on hon (by omega)
      simpa [Ls] using this
   rw[hr] at hm
   cases hm
theorem Ls_set {L:Array Bool} (hs:L.size=ops.size) {i:Nat} (hi:i<ops.size):Ls (L.setIfInBounds i true)=setL (Ls L) i:=by
 funext k
 simp only[Ls,setL,Array.getD_eq_getD_getElem?]
 by_cases e:k=i
 ·subst e
  simp[show k<L.size by omega]
 ·rw[if_neg e,Array.getElem?_setIfInBounds_ne (Ne.symm e)]
theorem inv_any (hS:CSound P C) (T:RegS P C nt ops F H Z fs) (hZd:∀ z∈fs,z.d<nt) {Q:Exit→Act→World→Prop}
  (hQ:∀ a w γ p pb L,(∀ i,i<ops.size→L i=true)→Inv P B nt ops F H Z fs γ0 h0 w0 a0 L a w γ p pb→Q .normal a w) :
  ∀ (fuel:Nat) (L:Array Bool) (a:Act) (w:World) (γ:List G) (p:Nat) (pb:Nat→Nat),L.size=ops.size→((List.range ops.size).filter fun i=>!(Ls L i)).length≤fuel →
   Inv P B nt ops F H Z fs γ0 h0 w0 a0 (Ls L) a w γ p pb→wpAny P .any ops Q fuel L a w
 | 0,L,a,w,γ,p,pb,hs,hf,I=>by
  have hall:∀ i,i<ops.size→Ls L i=true:=by
   intro i hi
   have h1:(List.range ops.size).filter (fun i=>!(Ls L i))=[]:=List.eq_nil_of_length_eq_zero (by omega)
   have:=List.filter_eq_nil_iff.1 h1 i (by simpa using hi)
   simpa using this
  refine⟨?_,hQ a w γ p pb _ hall I⟩
  refine List.eq_nil_iff_forall_not_mem.2 fun i hi=>?_
  obtain⟨o,_,h2,h3,_⟩:=ready_mem hs hi
  rw[hall i h3] at h2;cases h2
 | fuel+1,L,a,w,γ,p,pb,hs,hf,I=>by
  refine⟨fun hr=>hQ a w γ p pb _ (ready_nil hs T.edges hr) I,fun i hi=>?_⟩
  obtain⟨o,h1,h2,h3,h4⟩:=ready_mem hs hi
  refine I.next hS T hZd h1 h2 h4 fun a' w' γ' p' pb' I'=>?_
  rw[←Ls_set hs h3] at I'
  refine inv_any hS T hZd hQ fuel _ a' w' γ' p' pb' (by simpa using hs) ?_ I'
  have:=(filter_less (p:=fun k=>!(Ls L k)) (q:=fun k=>!(Ls (L.setIfInBounds i true) k)) (i:=i) (fun k=>by
   rw[Ls_set hs h3]
   simp only[setL]
   by_cases e:k=i
   ·simp[e]
   ·simp[e]) (by simp[h2]) (List.range ops.size)).2 (by simpa using h3)
  omega
theorem fused_run (T:RegS P C nt ops F H Z fs) {t:Array Value} {w:World} {pb:Nat→Nat} (hZd:∀ z∈fs,z.d<nt):∀ (l:List Fused) (fc:Fr) (hc:AH) (γ:List G),(∀ z∈l,z∈fs)→(l.map (·.i)).Nodup→xops C (fusedOps l) fc hc=some (f',h') →
  (∀ z∈l,ev fc z.x=ev (F ops.size) z.x)→(∀ d,(∀ z∈l,z.d≠d)→VR γ (fc d) (t.getD d undef)) →
  (∀ z∈l,t.getD z.d undef=.pointer (some ⟨pb z.i,0,none⟩)∧B≤pb z.i∧w0.heap.size≤pb z.i∧¬ Own γ hc (pb z.i)∧∃ cur,w.heap[pb z.i]?=some (.cells cur z.e (0,0))∧VRL γ (ev (F ops.size) z.x).cells.toList cur.toList) →
  (∀ z∈l,∀ z'∈l,z.i≠z'.i→pb z.i≠pb z'.i)→Sim P B γ0 h0 w0 γ hc w→∃ γ',Sim P B γ0 h0 w0 γ' h' w∧FR γ' f' t
 | [],fc,hc,γ,_,_,hx,_,hfr,_,_,S=>by
  simp only[fusedOps,List.map_nil,xops,Option.some.injEq,Prod.mk.injEq] at hx
  obtain⟨rfl,rfl⟩:=hx
  exact⟨γ,S,fun d=>hfr d (fun z hz=>by simp at hz)⟩
 | z::l,fc,hc,γ,hin,hnd,hx,hev,hfr,hp,hsep,S=>by
  have hz:=hin z (by simp)
  simp only[fusedOps,List.map_cons,xops] at hx
  split at hx
  ·rename_i f1 h1 hst
   rcases xstep_some hst with⟨_,v,hr,_,rfl⟩|⟨hw,_,_⟩
   ·simp only[xrun,xop] at hr
    obtain⟨⟨q1,q2⟩,q3⟩:=ite_some hr
    simp only[Prod.mk.injEq] at q3
    obtain⟨rfl,rfl⟩:=q3
    obtain⟨r1,r2,r3,r4,cur,r5,r6⟩:=hp z (by simp)
    rw[←hev z (by simp)] at r6
    have S1:=S.adopt r2 r4 r3 (ev fc z.x).cells.toList z.e cur r5 q2 r6
    have hpre:γ<+:γ++[(⟨pb z.i,0,(ev fc z.x).cells.toList.length⟩:G)]:=List.prefix_append _ _
    have hni:∀ z'∈l,z'.i≠z.i:=fun z' hz' e=>(List.nodup_cons.1 hnd).1 (List.mem_map.2 ⟨z',hz',e⟩)
    refine fused_run T hZd l _ _ _ (fun z' hz'=>hin z' (by simp[hz'])) (List.nodup_cons.1 hnd).2 hx ?_ ?_ ?_ (fun z1 h1 z2 h2=>hsep z1 (by simp[h1]) z2 (by simp[h2])) S1
    ·intro z' hz'
     rw[←hev z' (by simp[hz'])]
     have hz'f:=hin z' (by simp[hz'])
     cases hzx:z'.x with
     | tmp y=>
      have hne:y≠z.d:=by
       rintro rfl
       obtain⟨_,_,oi,oj,tt,zc,p1,p2,p3,p4,p5,p6,p7,p8,p9,p10,p11,p12,_⟩:=fusedAt_some (T.fus z' hz'f)
       obtain⟨_,_,oi',oj',tt',zc',p1',p2',p3',p4',p5',p6',p7',p8',p9',p10',p11',p12',_⟩:=fusedAt_some (T.fus z hz)
       have hlt:z'.j<ops.size:=(Array.getElem?_eq_some_iff.1 p2).1
       rcases (p12' z'.j oj (by simpa using hlt) p2).1 with e|e
       ·have:=T.apart z' hz'f z hz (.inr (.inl e))
        exact hni z' hz' (by rw[this])
       ·exact e (by simp[looks,p6,Op.operands,opdTmp,hzx])
      simp[ev,updo,upd,hne]
     | _=>rfl
    ·intro d hd
     by_cases e:d=z.d
     ·subst e
      have hsz:VR (γ++[(⟨pb z.i,0,(ev fc z.x).cells.toList.length⟩:G)]) (.pointer (some ⟨hc.length,0,none⟩)) (.pointer (some ⟨pb z.i,0,none⟩)):=new_ptr S.rel.len ⟨pb z.i,0,(ev fc z.x).cells.toList.length⟩ rfl
      rw[r1]
      simpa [updo,upd] using hsz
     ·have:=(hfr d (fun z' hz'=>by
       rcases List.mem_cons.1 hz' with h|h
       ·subst h;exact fun e'=>e e'.symm
       ·exact hd z' h)).mono hpre
      simpa [updo,upd,e] using this
    ·intro z' hz'
     obtain⟨s1,s2,s3,s4,cur',s5,s6⟩:=hp z' (by simp[hz'])
     refine⟨s1,s2,s3,?_,cur',s5,s6.mono hpre⟩
     rintro⟨n,blk,g,g1,g2,g3,g4⟩
     rcases get_new_cases g1 with k1|⟨k1,k2⟩
     ·rw[List.getElem?_append_left (by rw[S.rel.len];exact get_lt k1)] at g2
      exact s4 ⟨n,blk,g,k1,g2,g3,g4⟩
     ·subst k1
      rw[←S.rel.len,List.getElem?_concat_length] at g2
      cases g2
      exact hsep z (by simp) z' (by simp[hz']) (hni z' hz').symm g4
   ·simp[want] at hw
  ·cases hx
variable {P:Program} {B:Nat} {γ γ0:List G} {h h' h0:AH} {w w0:World} {f f':Fr} {a a0:Act} {v v':Value} {C:FuncId→List Value→AH→Option (Value×AH)} {nt:Nat}
theorem marked_get (ms:List Nat) (ys:List XI) (i:Nat) (y:XI) (hy:ys[i]?=some y):(marked P ms ys)[i]?=some { y with q:=owes P ms ys i y.o }:=by
 have hl:=(List.getElem?_eq_some_iff.1 hy).1
 simp only[marked,List.getElem?_map,List.getElem?_range hl,Option.map_some,hy]
theorem others_mem {ms:List Nat} {ys:List XI} {i j:Nat} {p:XOp→Bool} {y:XI} {a:Operand} (hji:j<i) (hy:ys[j]?=some y) (hp:p y.o=true) (hno:ordered ms i j=false) (ha:adrOf y.o=some a):a∈others ms ys i p:=by
 unfold others
 rw[List.mem_filterMap]
 refine⟨j,by simpa using hji,?_⟩
 simp only[hy,hp,hno,Bool.not_false,Bool.and_self,if_true,ha]
theorem openTo_of {ms:List Nat} {ys:List XI} {i j:Nat} {p:XOp→Bool} {y:XI} (hj:ys[j]?=some y) (hp:p y.o=true) (hno:ordered ms i j=false):openTo ms ys i p=true:=by
 unfold openTo
 rw[List.any_eq_true]
 refine⟨j,by simpa using (List.getElem?_eq_some_iff.1 hj).1,?_⟩
 simp[hj,hp,hno]
theorem moves_adr {x:XOp} (h:moves P x=true):∃ a,adrOf x=some a:=by
 cases x<;>simp[moves] at h
 case store n a x=>exact⟨a,rfl⟩
 case call f l=>
  cases l with
  | nil=>cases f<;>simp[moves] at h
  | cons a l=>exact⟨a,rfl⟩
theorem rd_adr {x:XOp} {y:Operand} (h:rdOpd x=some y):adrOf x=some y:=by
 cases x<;>simp[rdOpd] at h<;>simp[adrOf,h]
theorem ordered_symm {ms:List Nat} {i j:Nat} (hne:i≠j):ordered ms i j=ordered ms j i:=by
 unfold ordered
 rcases Nat.lt_or_gt_of_ne hne with h|h
 ·rw[if_pos h,if_neg (by omega)]
 ·rw[if_neg (by omega),if_pos h]
theorem store_kp {n:Nat} {a x:Operand} {f:Fr} {h h':AH} {v:Value} (hx:xop (.store n a x) f h=some (v,h')):∃ m,blkV (ev f a)=some m∧Kp m h h':=by
 simp only[xop] at hx
 split at hx
 ·rename_i m off sp he
  obtain⟨_,h4⟩:=ite_none hx
  split at h4
  ·rename_i h2 hw
   simp only[Option.some.injEq,Prod.mk.injEq] at h4
   obtain⟨_,rfl⟩:=h4
   obtain⟨b,hb,_,_,rfl⟩:=wr_some hw
   refine⟨m,by rw[he];rfl,by simp,fun k _ hk=>?_⟩
   unfold AH.get
   rw[List.getElem?_set_ne (Ne.symm hk)]
  ·cases h4
 ·cases hx
theorem less_get (fs:List Fused) (xs:List XI) (i:Nat) (hi:i<xs.length):(lessFused fs xs)[i]?=some (if fs.any (fun f=>f.i==i||f.j==i) then nop else xs.getD i nop):=by
 simp[lessFused,List.getElem?_range hi]
theorem fusedOps_fine:∀ (l:List Fused) (fc fN:Fr) (hc:AH) (r:Fr×AH),xops C (fusedOps l) fc hc=some r→(∀ z∈l,∀ z'∈l,z'.x≠.tmp z.d)→(∀ z∈l,ev fc z.x=ev fN z.x) →
  ∀ z∈l,(ev fN z.x).cells.toList.length=z.n∧(ev fN z.x).cells.toList.all isOne=true
 | [],_,_,_,_,_,_,_,z,hz=>by simp at hz
 | y::l,fc,fN,hc,r,hx,hne,hev,z,hz=>by
  simp only[fusedOps,List.map_cons,xops] at hx
  split at hx
  ·rename_i f1 h1 hst
   rcases xstep_some hst with⟨_,v,hr,_,rfl⟩|⟨hw,_,_⟩
   ·simp only[xrun,xop] at hr
    obtain⟨q1,_⟩:=ite_some hr
    rcases List.mem_cons.1 hz with rfl|hz
    ·rw[←hev z (by simp)];exact q1
    ·refine fusedOps_fine l _ fN _ r hx (fun a ha b hb=>hne a (by simp[ha]) b (by simp[hb])) (fun z' hz'=>?_) z hz
     rw[←hev z' (by simp[hz'])]
     have:=hne y (by simp) z' (by simp[hz'])
     cases hzx:z'.x with
     | tmp k=>
      have:k≠y.d:=fun e=>this (by rw[hzx,e])
      simp[ev,updo,upd,this]
     | _=>rfl
   ·simp[want] at hw
  ·cases hx
theorem zap_d (x:XI):(zap x).d=x.d:=by unfold zap;split<;>rfl
theorem zap_g (x:XI):(zap x).g=x.g:=by unfold zap;split<;>rfl
theorem zap_o (x:XI):(zap x).o=x.o∨(∃ e sz z,x.o=.bslice e sz 0 z [])∧(zap x).o=.mkz:=by
 unfold zap
 split
 ·rename_i e sz z h
  exact .inr ⟨⟨e,sz,z,h⟩,rfl⟩
 ·exact .inl rfl
theorem zap_eq (x:XI) (h:(zap x).o=x.o):zap x=x:=by
 by_cases hc:∃ e sz z,x.o=.bslice e sz 0 z []
 ·obtain⟨e,sz,z,hc⟩:=hc
  unfold zap at h
  simp only[hc,reduceCtorEq] at h
 ·unfold zap
  split
  ·rename_i e sz z h3
   exact absurd ⟨e,sz,z,h3⟩ hc
  ·rfl
theorem zapstep_wp {ops:Array Oper} {o:Oper} {i:XI} (hS:CSound P C) (hc:compOper P nt ops o=some i) (hx:xstep C (zap i) f h=some (f',h')) (hf:FR γ f a.tmps) (hn:nt≤a.tmps.size) (R:Rel P B γ h w)
  {K:Act→World→Prop} {Q:Exit→Act→World→Prop} (hK:Post P B γ h w nt a f' h' K):if Region.wanted o (yielded ops a.tmps) then o.wp P a w K Q else K (a.put o.dst undef) w:=by
 rcases zap_o i with e|⟨⟨e,sz,z,hzo⟩,hxo⟩
 ·rw[zap_eq i e] at hx
  exact step_wp hS hc hx hf hn R hK
 ·obtain⟨h1,h2,h3,_,h4⟩:=compOper_some hc
  rw[want_iff (γ:=γ) (f:=f) h2 (fun d b _=>hf d)]
  rcases xstep_some hx with⟨hw,v,hr,_,rfl⟩|⟨hw,rfl,rfl⟩
  ·rw[zap_g] at hw
   rw[if_pos hw]
   rw[hxo] at hr
   simp only[xrun,xop,Option.some.injEq,Prod.mk.injEq] at hr
   obtain⟨rfl,rfl⟩:=hr
   rw[hzo] at h1
   obtain⟨v',w',q1,q2,q3⟩:=zero_sound (o:=o) (a:=a) (w:=w) h1
   refine upon_ok rfl q1 (hK γ _ w' ?_ (by rw[put_tmps];exact hn) (put_defers _ _ _) ?_)
   ·rw[zap_d,h3]
    exact hf.put (by rw[q2];exact .zcap _) o.dst (fun d hd=>Nat.lt_of_lt_of_le (h4 d hd) hn)
   ·rw[q3]
    exact (Sim.refl R).besideAlloc _
  ·rw[zap_g] at hw
   rw[if_neg (by rw[hw];decide)]
   refine hK γ _ w ?_ (by rw[put_tmps];exact hn) (put_defers _ _ _) (Sim.refl R)
   rw[zap_d,h3]
   exact hf.put (VR.undef γ) o.dst (fun d hd=>Nat.lt_of_lt_of_le (h4 d hd) hn)
theorem zapops_wp {ops:Array Oper} {Q:Exit→Act→World→Prop} (hS:CSound P C):∀ (l:List Oper) (xs:List XI) (f:Fr) (h:AH) (γ:List G) (a:Act) (w:World),compOpers P nt ops l=some xs→xops C (xs.map zap) f h=some (f',h') →
  FR γ f a.tmps→nt≤a.tmps.size→Rel P B γ h w→Post P B γ h w nt a f' h' (Q .normal)→wpList P ops Q l a w
 | [],xs,f,h,γ,a,w,hc,hx,hf,hn,R,hK=>by
  simp[compOpers] at hc
  subst hc
  simp only[List.map_nil,xops,Option.some.injEq,Prod.mk.injEq] at hx
  obtain⟨rfl,rfl⟩:=hx
  exact wpList_nil (hK γ a w hf hn rfl (Sim.refl R))
 | o::l,xs,f,h,γ,a,w,hc,hx,hf,hn,R,hK=>by
  simp only[compOpers] at hc
  split at hc
  ·rename_i i xs' h1 h2
   cases hc
   simp only[List.map_cons,xops] at hx
   split at hx
   ·rename_i f1 h1' hstep
    refine wpList_step fun K hKK=>?_
    refine zapstep_wp hS h1 hstep hf hn R fun γ1 a1 w1 q1 q2 q3 q4=>hKK _ _ ?_
    exact zapops_wp hS l xs' f1 h1' γ1 a1 w1 h2 hx q1 q2 q4.rel (hK.step q4 q3)
   ·cases hx
  ·cases hc
theorem draw_wp {ops:Array Oper} {id:Nat} {Q:Exit→Act→World→Prop} (hS:CSound P C) (hm:P.follows .mixedOrders=true) {xs0 xs:List XI} (hc:compOpers P nt ops ops.toList=some xs0)
  (hg:xs.length=xs0.length∧∀ (i:Nat) (x:XI),xs0[i]?=some x→∃ y,xs[i]?=some y∧y.d=x.d∧y.g=x.g∧(y.o=x.o∨(∃ e sz z,x.o=.bslice e sz 0 z [])∧y.o=.mkz))
  (hd:drawFine P ops (lessFused (fusedOf P ops) xs) (masks ops.toList)=true) (hff:fusedFine (fusedOf P ops)=true)
  (hx:xops C ((marked P (masks ops.toList) (lessFused (fusedOf P ops) xs)).filter (fun x=>!isNop x)++fusedOps (fusedOf P ops)) f h=some (f',h'))
  (hf:FR γ f a.tmps) (hn:nt≤a.tmps.size) (R:Rel P B γ h w) (hK:Post P B γ h w nt a f' h' (Q .normal)):(Code.region id ops true).wp P Q a w:=by
 obtain⟨fN,hN,hx1,hx2⟩:=xops_append _ _ f h _ hx
 rw[xops_filter] at hx1
 obtain⟨F,H,hF0,hH0,hFH,hst⟩:=xops_states _ f h _ hx1
 have hxl:xs.length=ops.size:=by have:=(compOpers_get ops.toList xs0 hc).1;rw[hg.1];simpa using this
 have hyl:(lessFused (fusedOf P ops) xs).length=ops.size:=by simp[lessFused,hxl]
 have hzl:(marked P (masks ops.toList) (lessFused (fusedOf P ops) xs)).length=ops.size:=by simp[marked,hyl]
 rw[hzl] at hFH
 simp only[Prod.mk.injEq] at hFH
 obtain⟨rfl,rfl⟩:=hFH
 have hfus:∀ z∈fusedOf P ops,fusedAt P ops ops.toList z.i z.j=some z:=fun z hz=>fusedOf_mem hz
 have hzlt:∀ z∈fusedOf P ops,z.i<ops.size∧z.j<ops.size∧z.i<z.j:=by
  intro z hz
  obtain⟨_,_,oi,oj,t,zc,q1,q2,_,_,_,_,_,_,q9,_⟩:=fusedAt_some (hfus z hz)
  exact⟨(Array.getElem?_eq_some_iff.1 q1).1,(Array.getElem?_eq_some_iff.1 q2).1,q9⟩
 let ys:=lessFused (fusedOf P ops) xs
 let Z:Nat→XI:=fun i=>(marked P (masks ops.toList) ys).getD i nop
 -- what stands at a place
 have hys:∀ i,i<ops.size→ys[i]?=some (if (fusedOf P ops).any (fun f=>f.i==i||f.j==i) then nop else xs.getD i nop):=fun i hi=>less_get _ _ i (by rw[hxl];exact hi)
 have hZ:∀ i,i<ops.size→∃ y q,ys[i]?=some y∧Z i={ y with q:=q }∧q=owes P (masks ops.toList) ys i y.o:=by
  intro i hi
  have h1:=marked_get (P:=P) (masks ops.toList) ys i _ (hys i hi)
  exact⟨_,_,hys i hi,by simp only[Z,List.getD_eq_getElem?_getD,h1,Option.getD_some],rfl⟩
 have hZo:∀ i y,ys[i]?=some y→i<ops.size→(Z i).o=y.o:=by
  intro i y hy hi
  obtain⟨y',q,h1,h2,_⟩:=hZ i hi
  rw[hy] at h1;cases h1
  rw[h2]
 simp only[drawFine,Bool.and_eq_true] at hd
 obtain⟨⟨hE,hD⟩,hpairs⟩:=hd
 have hpf:∀ i j,i<ops.size→j<ops.size→pairFine P ops ys (masks ops.toList) i j=true:=fun i j hi hj=>List.all_eq_true.1 (List.all_eq_true.1 hpairs i (by simpa using hi)) j (by simpa using hj)
 have hnd:((fusedOf P ops).flatMap fun f=>[f.i,f.j]).Nodup:=by simpa [fusedFine] using hff
 have hapart:∀ z∈fusedOf P ops,∀ z'∈fusedOf P ops,(z.i=z'.i∨z.j=z'.j∨z.i=z'.j)→z=z':=by
  have gen:∀ (l:List Fused),(l.flatMap fun f=>[f.i,f.j]).Nodup→∀ z∈l,∀ z'∈l,∀ k,(z.i=k∨z.j=k)→(z'.i=k∨z'.j=k)→z=z':=by
   intro l
   induction l with
   | nil=>intro _ z hz;simp at hz
   | cons y l ih=>
    intro hn z hz z' hz' k hk hk'
    simp only[List.flatMap_cons,List.nodup_append] at hn
    obtain⟨_,hn2,hn3⟩:=hn
    have hmem:∀ u∈l,(u.i=k∨u.j=k)→k∈l.flatMap fun f=>[f.i,f.j]:=fun u hu hku=>List.mem_flatMap.2 ⟨u,hu,by rcases hku with e|e<;>simp[e]⟩
    rcases List.mem_cons.1 hz with e1|hz1<;>rcases List.mem_cons.1 hz' with e2|hz2
    ·rw[e1,e2]
    ·subst e1
     exact absurd rfl (hn3 k (by rcases hk with e|e<;>simp[e]) k (hmem z' hz2 hk'))
    ·subst e2
     exact absurd rfl (hn3 k (by rcases hk' with e|e<;>simp[e]) k (hmem z hz1 hk))
    ·exact ih hn2 z hz1 z' hz2 k hk hk'
  intro z hz z' hz' he
  rcases he with e|e|e
  ·exact gen _ hnd z hz z' hz' z.i (.inl rfl) (.inl e.symm)
  ·exact gen _ hnd z hz z' hz' z.j (.inr rfl) (.inr e.symm)
  ·exact gen _ hnd z hz z' hz' z.i (.inl rfl) (.inr e.symm)
 have hnoself:∀ z∈fusedOf P ops,∀ z'∈fusedOf P ops,z'.x≠.tmp z.d:=by
  intro z hz z' hz' e
  obtain⟨_,_,oi,oj,tt,zc,p1,p2,p3,p4,p5,p6,p7,p8,p9,p10,p11,p12,_⟩:=fusedAt_some (hfus z' hz')
  obtain⟨_,_,oi',oj',tt',zc',p1',p2',p3',p4',p5',p6',p7',p8',p9',p10',p11',p12',_⟩:=fusedAt_some (hfus z hz)
  rcases (p12' z'.j oj (by simpa using (hzlt z' hz').2.1) p2).1 with e'|e'
  ·have:=hapart z' hz' z hz (.inr (.inl e'))
   subst this
   exact p11 e
  ·exact e' (by simp[looks,p6,Op.operands,opdTmp,e])
 have T:RegS P C nt ops F H Z (fusedOf P ops):=by
  refine⟨?_,?_,?_,?_,?_,?_,hE,hfus,hapart,?_⟩
  ·intro i o ho hnf
   have hi:i<ops.size:=(Array.getElem?_eq_some_iff.1 ho).1
   obtain⟨x,h1,h2⟩:=(compOpers_get ops.toList xs0 hc).2 i o (by rw[Array.getElem?_toList];exact ho)
   obtain⟨x',h1',gd,gg,go⟩:=hg.2 i x h1
   have hany:(fusedOf P ops).any (fun f=>f.i==i||f.j==i)=false:=by
    rw[List.any_eq_false]
    intro z hz
    have:=hnf z hz
    simp[this.1,this.2]
   obtain⟨y,q,h3,h4,_⟩:=hZ i hi
   rw[hys i hi,hany] at h3
   simp only[Bool.false_eq_true,if_false,Option.some.injEq,List.getD_eq_getElem?_getD,h1',Option.getD_some] at h3
   subst h3
   exact⟨x,h2,by rw[h4];exact go,by rw[h4];exact gd,by rw[h4];exact gg⟩
  ·rintro i ⟨z,hz,he⟩
   have hi:i<ops.size:=by rcases he with rfl|rfl;exact (hzlt z hz).1;exact (hzlt z hz).2.1
   have hany:(fusedOf P ops).any (fun f=>f.i==i||f.j==i)=true:=by
    rw[List.any_eq_true]
    exact⟨z,hz,by rcases he with e|e<;>simp[e]⟩
   obtain⟨y,q,h3,h4,h5⟩:=hZ i hi
   rw[hys i hi,hany] at h3
   simp only[if_true,Option.some.injEq] at h3
   subst h3
   rw[h4,h5]
   have:owes P (masks ops.toList) ys i nop.o=.f:=by
    simp[owes,nop,cls,moves]
   rw[this]
   rfl
  ·intro i hi
   have:(marked P (masks ops.toList) ys)[i]?=some (Z i):=by
    simp only[Z,List.getD_eq_getElem?_getD,List.getElem?_eq_getElem (show i<(marked P (masks ops.toList) ys).length by rw[hzl];exact hi),Option.getD_some]
   exact hst i _ this
  ·intro i j oi oj hoi hoj hne hno
   have hi:i<ops.size:=(Array.getElem?_eq_some_iff.1 hoi).1
   have hj:j<ops.size:=(Array.getElem?_eq_some_iff.1 hoj).1
   have:=hpf i j hi hj
   obtain⟨yi,_,g3,_,_⟩:=hZ i hi
   obtain⟨yj,_,g3',_,_⟩:=hZ j hj
   unfold pairFine at this
   rw[hoi,hoj,g3,g3'] at this
   simp only[Bool.or_eq_true,beq_iff_eq,Bool.and_eq_true] at this
   rcases this with (h1|h1)|⟨h1,h2⟩
   ·exact absurd h1 hne
   ·exact absurd h1 hno
   ·rw[hZo i _ g3 hi,hZo j _ g3' hj]
    refine⟨?_,fun d hdd=>?_⟩
    ·unfold meetFine at h1
     split at h1
     ·rename_i h3
      simp only[Bool.and_eq_true,beq_iff_eq] at h3
      exact .inr (.inl h3.1)
     ·split at h1
      ·rename_i h3
       simp only[Bool.and_eq_true,beq_iff_eq] at h3
       exact .inr (.inr h3.2)
      ·split at h1
       ·rename_i h3
        simp only[Bool.and_eq_true,beq_iff_eq] at h3
        exact .inr (.inl h3.1)
       ·split at h1
        ·rename_i h3
         simp only[Bool.and_eq_true,beq_iff_eq] at h3
         exact .inr (.inr h3.2)
        ·exact .inl h1
    ·rw[hdd] at h2
     simp only[Bool.and_eq_true,Bool.not_eq_true'] at h2
     simpa using h2.1
  ·intro i j hi hj hci hcj hno hwj
   have hne:i≠j:=by rintro rfl;omega
   have hno':ordered (masks ops.toList) i j=false:=by
    cases ho:ordered (masks ops.toList) i j with
    | false=>rfl
    | true=>exact absurd ho hno
   have hno2:ordered (masks ops.toList) j i=false:=by rw[←ordered_symm hne];exact hno'
   obtain⟨yi,qi,h3,h4,h5⟩:=hZ i hi
   obtain⟨yj,qj,h3',h4',h5'⟩:=hZ j hj
   have hst':∀ k,k<ops.size→xstep C (Z k) (F k) (H k)=some (F (k+1),H (k+1)):=fun k hk=>by
    have:(marked P (masks ops.toList) ys)[k]?=some (Z k):=by
     simp only[Z,List.getD_eq_getElem?_getD,List.getElem?_eq_getElem (show k<(marked P (masks ops.toList) ys).length by rw[hzl];exact hk),Option.getD_some]
    exact hst k _ this
   have oi:(Z i).o=yi.o:=by rw[h4]
   have oj:(Z j).o=yj.o:=by rw[h4']
   rw[oi] at hci
   rw[oj] at hcj
   have opi:openTo (masks ops.toList) ys i (fun y=>cls y==1)=true:=openTo_of h3' (by simpa using hcj) hno'
   -- the step of i
   rcases xstep_some (hst' i hi) with⟨_,v,hr,hq,_⟩|⟨_,_,e⟩
   case inr=>left;rw[e];exact List.prefix_refl _
   -- what stands in the two operations' looks
   have hpij:=hpf i j hi hj
   unfold pairFine at hpij
   have hoi:ops[i]?=some ops[i]:=Array.getElem?_eq_getElem hi
   have hoj:ops[j]?=some ops[j]:=Array.getElem?_eq_getElem hj
   rw[hoi,hoj,h3,h3'] at hpij
   simp only[Bool.or_eq_true,beq_iff_eq,Bool.and_eq_true] at hpij
   have hmeet:meetFine P ops i j yi.o yj.o=true:=by
    rcases hpij with (h1|h1)|⟨h1,_⟩
    ·exact absurd h1 hne
    ·exact absurd h1 hno
    ·exact h1
   have hnci:(cls yi.o==1)=false:=by simp;omega
   -- slots that are not written any more
   have keep:∀ (s k d:Nat),steady ops s d=true→s≤k→k≤ops.size→F k d=F s d:=by
    intro s k d hs hsk hk
    have step1:∀ c,s+c≤ops.size→F (s+c) d=F s d:=by
     intro c
     induction c with
     | zero=>intro _;rfl
     | succ c ih=>
      intro hc'
      rw[←ih (by omega),←Nat.add_assoc]
      have hk1:s+c<ops.size:=by omega
      have hsd:=List.all_eq_true.1 hs (s+c) (by simpa using hk1)
      rw[Array.getElem?_eq_getElem hk1] at hsd
      simp only[Bool.or_eq_true,decide_eq_true_eq,bne_iff_ne,ne_eq] at hsd
      have hdd:ops[s+c].dst≠some d:=by
       rcases hsd with h|h
       ·omega
       ·exact h
      have hzd:(Z (s+c)).d≠some d:=by
       obtain⟨y,q,g1,g2,_⟩:=hZ (s+c) hk1
       rw[g2]
       simp only
       rw[hys (s+c) hk1] at g1
       split at g1
       ·cases g1;simp[nop]
       ·cases g1
        obtain⟨x,q1,q2⟩:=(compOpers_get ops.toList xs0 hc).2 (s+c) ops[s+c] (by rw[Array.getElem?_toList];exact Array.getElem?_eq_getElem hk1)
        obtain⟨x',r1,r2,_,_⟩:=hg.2 (s+c) x q1
        simp only[List.getD_eq_getElem?_getD,r1,Option.getD_some]
        rw[r2,(compOper_some q2).2.2.1]
        exact hdd
      rcases xstep_some (hst' (s+c) hk1) with⟨_,v,_,_,e⟩|⟨_,e,_⟩<;>rw[e] <;>
      ·cases hz:(Z (s+c)).d with
       | none=>rfl
       | some d'=>
        have:d≠d':=fun e=>hzd (by rw[hz,e])
        simp[updo,upd,this]
    have:=step1 (k-s) (by omega)
    rwa [show s+(k-s)=k by omega] at this
   cases hmv:moves P yi.o with
   | false=>
    -- a call that leaves all blocks,or none that can be here
    have hmeet':=hmeet
    unfold meetFine at hmeet
    rw[hnci,hmv,hcj] at hmeet
    simp only[Bool.false_and,Bool.false_eq_true,if_false,beq_self_eq_true,Bool.and_true] at hmeet
    cases hwi:wild P yi.o with
    | false=>
     rw[hwi] at hmeet
     simp only[Bool.false_eq_true,if_false] at hmeet
     have hc3:cls yi.o=3:=by
      unfold pairOk at hmeet
      simp only[Bool.or_eq_true,beq_iff_eq,Bool.and_eq_true,decide_eq_true_eq] at hmeet
      omega
     have hqi:qi=.t:=by
      rw[h5]
      unfold owes
      rw[hnci,opi,hmv,hc3,hwi]
      simp
     left
     rw[h4] at hq
     simp only[hqi] at hq
     exact hq
    | true=>
     rw[hwi] at hmeet
     simp only[if_true] at hmeet
     have hc3:cls yi.o=3:=by
      cases hyo:yi.o<;>rw[hyo] at hwi<;>simp[wild] at hwi
      simp[cls]
     have hqi:qi=.u (opens (masks ops.toList) ys i (fun y=>cls y==1)):=by
      rw[h5]
      unfold owes
      rw[hnci,opi,hmv,hc3,hwi]
      simp
     rw[h4] at hq
     simp only[hqi,qok] at hq
     obtain⟨m,hkp,hl⟩:=hq
     refine .inr ⟨m,hkp,fun y p hy hev=>?_⟩
     rw[oj] at hy
     have hya:=rd_adr hy
     unfold stillFine at hmeet
     split at hmeet
     case h_2=>cases hmeet
     rename_i t ht
     obtain rfl:y=.tmp t:=by
      unfold adrTmp at ht
      rw[hya] at ht
      cases y<;>simp[opdTmp] at ht
      rw[ht]
     have hmem:Operand.tmp t∈opens (masks ops.toList) ys i (fun y=>cls y==1):=by
      unfold opens
      rw[List.mem_filterMap]
      refine⟨j,by simpa using (List.getElem?_eq_some_iff.1 h3').1,?_⟩
      simp only[h3',hcj,hno',beq_self_eq_true,Bool.not_false,Bool.and_self,if_true,hya]
     obtain⟨n,s1,s2⟩:=hl _ hmem
     simp only[ev] at s1 hev
     have e1:=keep (min i j) i t hmeet (Nat.min_le_left i j) (by omega)
     have e2:=keep (min i j) j t hmeet (Nat.min_le_right i j) (by omega)
     rw[e1,←e2,hev] at s1
     cases s1
     exact s2
   | true=>
    obtain⟨ai,hai⟩:=moves_adr hmv
    have hap:apartFine ops j i yj.o yi.o=true:=by
     unfold meetFine at hmeet
     rw[hnci,hmv,hcj] at hmeet
     simpa using hmeet
    unfold apartFine at hap
    split at hap
    case h_2=>cases hap
    rename_i t u ht hu
    simp only[Bool.and_eq_true] at hap
    have hajt:∀ y,adrOf yj.o=some y→y=.tmp t:=fun y hy=>by
     unfold adrTmp at ht
     rw[hy] at ht
     cases y<;>simp[opdTmp] at ht
     rw[ht]
    have haiu:ai=.tmp u:=by
     unfold adrTmp at hu
     rw[hai] at hu
     cases ai<;>simp[opdTmp] at hu
     rw[hu]
    -- only its own block changes
    have hkp:∃ m,blkV (ev (F i) ai)=some m∧Kp m (H i) (H (i+1)):=by
     cases hyo:yi.o with
     | store n a x=>
      rw[hyo] at hai
      cases hai
      rw[oi,hyo,xrun_other (by simp[cls])] at hr
      exact store_kp hr
     | call fo as=>
      have hqi:∃ l,qi=.s true l:=by
       rw[h5]
       unfold owes
       rw[hnci,opi,hmv,hyo]
       simp[cls]
      obtain⟨l,hqi⟩:=hqi
      rw[h4] at hq
      simp only[hqi,qok] at hq
      obtain⟨a,m,r1,r2,r3,r4⟩:=hq
      rw[hai] at r1
      cases r1
      exact⟨m,r2,r4 (by simp)⟩
     | _=>rw[hyo] at hmv;simp[moves] at hmv
    obtain⟨m,hm,hkp⟩:=hkp
    refine .inr ⟨m,hkp,fun y p hy hev=>?_⟩
    rw[oj] at hy
    have hya:=rd_adr hy
    obtain rfl:=hajt y hya
    rcases Nat.lt_or_gt_of_ne hne with hlt|hgt
    · -- the reading stands behind
     have hmem:=others_mem (p:=moves P) hlt h3 hmv hno2 hai
     have hqj:qj=.s false (others (masks ops.toList) ys j (moves P)):=by
      rw[h5']
      unfold owes
      rw[show (cls yj.o==1)=true by simpa using hcj]
      simp only[if_true]
      rw[if_neg]
      simp only[List.isEmpty_iff]
      intro e
      rw[e] at hmem
      cases hmem
     rcases xstep_some (hst' j hj) with⟨_,v',hr',hq',_⟩|⟨hw',_,_⟩
     ·rw[h4'] at hq'
      simp only[hqj,qok] at hq'
      obtain⟨a,m',r1,r2,r3,_⟩:=hq'
      rw[hya] at r1
      cases r1
      obtain⟨n,s1,s2⟩:=r3 _ hmem
      rw[hev] at r2
      cases r2
      rw[haiu] at s1 hm
      simp only[ev] at s1 hm
      rw[keep i j u hap.2 (by omega) (by omega),hm] at s1
      cases s1
      exact fun e=>s2 e.symm
     ·rw[hwj] at hw';cases hw'
    · -- the reading stands ahead
     have hmem:=others_mem (p:=fun y=>cls y==1) (i:=i) hgt h3' (by simpa using hcj) hno' hya
     have hqi:∃ b,qi=.s b (others (masks ops.toList) ys i (fun y=>cls y==1)):=by
      rw[h5]
      unfold owes
      rw[hnci,opi,hmv]
      simp only[Bool.false_eq_true,if_false,if_true]
      rw[if_pos]
      ·exact⟨_,rfl⟩
      ·simp only[Bool.or_eq_true,Bool.not_eq_true']
       right
       cases e:(others (masks ops.toList) ys i (fun y=>cls y==1)) with
       | nil=>rw[e] at hmem;cases hmem
       | cons a l=>rfl
     obtain⟨b,hqi⟩:=hqi
     rw[h4] at hq
     simp only[hqi,qok] at hq
     obtain⟨a,m',r1,r2,r3,_⟩:=hq
     rw[hai] at r1
     cases r1
     rw[hm] at r2
     cases r2
     obtain⟨n,s1,s2⟩:=r3 _ hmem
     simp only[ev] at s1 hev
     rw[keep j i t hap.1 (by omega) (by omega),hev] at s1
     cases s1
     exact s2
  ·intro i j oi oj d hoi hoj hdi hdj
   have hD':(ops.toList.filterMap (·.dst)).Nodup:=by simpa [dstsFine] using hD
   exact nodup_dst ops.toList hD' i j oi oj d (by rw[Array.getElem?_toList];exact hoi) (by rw[Array.getElem?_toList];exact hoj) hdi hdj
  ·exact fusedOps_fine _ (F ops.size) (F ops.size) (H ops.size) _ hx2 hnoself (fun z _=>rfl)
 have hZd:∀ z∈fusedOf P ops,z.d<nt:=by
  intro z hz
  obtain⟨_,_,oi,oj,t,zc,q1,q2,q3,q4,_⟩:=fusedAt_some (hfus z hz)
  obtain⟨x,_,h2⟩:=(compOpers_get ops.toList xs0 hc).2 z.i oi (by rw[Array.getElem?_toList];exact q1)
  exact (compOper_some h2).2.2.2.2 z.d q4
 have I0:Inv P B nt ops F H Z (fusedOf P ops) γ h w a (Ls (Array.replicate ops.size false)) a { w with drawn:=w.drawn+1 } γ 0 (fun _=>0):=by
  have hL:∀ k,Ls (Array.replicate ops.size false) k=false:=by
   intro k
   simp only[Ls,Array.getD_eq_getD_getElem?,Array.getElem?_replicate]
   split<;>rfl
  refine⟨hn,rfl,?_,Nat.zero_le _,?_,?_,?_,?_,?_,?_⟩
  ·intro i o _ hl;rw[hL] at hl;cases hl
  ·intro i _ _;rw[hL];simp
  ·rw[hH0];exact Sim.drawn R
  ·intro d _ i o _ _ hl;rw[hL] at hl;cases hl
  ·intro d _ _;rw[hF0];exact hf d
  ·intro z _ hl;rw[hL] at hl;cases hl
  ·intro z _ z' _ hl;rw[hL] at hl;cases hl
 refine wp_region_any hm (inv_any hS T hZd ?_ ops.size _ a _ γ 0 _ (by simp) (by refine Nat.le_trans (List.length_filter_le _ _) ?_;simp) I0)
 intro a1 w1 γ1 p pb L hall I
 have hHp:H p=H ops.size:=by
  have:=T.H_const (ops.size-p) p (by have:=I.plt;omega) (fun k h1 h2=>by
   rcases Nat.lt_or_ge (cls (Z k).o) 2 with h3|h3
   ·exact h3
   ·exfalso
    have:=(I.chain k (by have:=I.plt;omega) h3).1 (hall k (by have:=I.plt;omega))
    omega)
  rw[show p+(ops.size-p)=ops.size by have:=I.plt;omega] at this
  exact this.symm
 have S:=I.sim
 rw[hHp] at S
 obtain⟨γ2,S2,hf2⟩:=fused_run (t:=a1.tmps) (pb:=pb) T hZd (fusedOf P ops) (F ops.size) (H ops.size) γ1 (fun z hz=>hz) (by
   have:∀ (l:List Fused),(l.flatMap fun f=>[f.i,f.j]).Nodup→(l.map (·.i)).Nodup:=by
    intro l
    induction l with
    | nil=>intro _;simp
    | cons y l ih=>
     intro hn
     simp only[List.flatMap_cons,List.nodup_append] at hn
     obtain⟨_,hn2,hn3⟩:=hn
     refine List.nodup_cons.2 ⟨fun hm=>?_,ih hn2⟩
     obtain⟨z,hz,e⟩:=List.mem_map.1 hm
     exact hn3 y.i (by simp) y.i (List.mem_flatMap.2 ⟨z,hz,by simp[e]⟩) rfl
   exact this _ hnd) hx2 (fun z _=>rfl) (fun d hd=>by
    by_cases hw:∃ (k:Nat) (o:Oper),ops[k]?=some o∧o.dst=some d
    ·obtain⟨k,o,hk,hkd⟩:=hw
     exact I.done d hd k o hk hkd (hall k (Array.getElem?_eq_some_iff.1 hk).1)
    ·have:=I.todo d hd (fun i o hi hid=>absurd ⟨i,o,hi,hid⟩ hw)
     have e:F ops.size d=F 0 d:=by
      have:=T.F_const (d:=d) ops.size 0 (by omega) (fun m _ h2 hz=>by
       have hom:ops[m]?=some ops[m]:=Array.getElem?_eq_getElem (by omega)
       exact hw ⟨m,_,hom,(T.dstZ hom hz).1⟩)
      rwa [Nat.zero_add] at this
     rw[e];exact this) (fun z hz=>by
    obtain⟨q1,q2,q3,q4,q5,cur,q6,q7,q8⟩:=I.pend z hz (hall z.i (hzlt z hz).1)
    rw[hHp] at q5
    exact⟨q1,q2,q3,q5,cur,q6,q8 (hall z.j (hzlt z hz).2.1)⟩) (fun z hz z' hz' hne=>I.sep z hz z' hz' (hall z.i (hzlt z hz).1) (hall z'.i (hzlt z' hz').1) hne) S
 exact hK γ2 a1 w1 hf2 I.size I.defers S2
theorem reg_wp {ops:Array Oper} {id:Nat} {draw:Bool} {xs:List XI} {Q:Exit→Act→World→Prop} (hS:CSound P C) (hm:P.follows .mixedOrders=true) (hc:compReg P nt ops draw=some xs) (hx:xops C xs f h=some (f',h'))
  (hf:FR γ f a.tmps) (hn:nt≤a.tmps.size) (R:Rel P B γ h w) (hK:Post P B γ h w nt a f' h' (Q .normal)):(Code.region id ops draw).wp P Q a w:=by
 unfold compReg at hc
 split at hc
 ·cases hc
 ·rename_i xs' hxs
  cases draw with
  | true=>
   simp only[if_true] at hc
   by_cases h1:(!zapFirst xs'&&drawFine P ops (lessFused (fusedOf P ops) xs') (masks ops.toList)&&fusedFine (fusedOf P ops))=true
   ·rw[if_pos h1] at hc
    obtain rfl:=Option.some.inj hc
    simp only[Bool.and_eq_true] at h1
    exact draw_wp hS hm hxs ⟨rfl,fun i x hx=>⟨x,hx,rfl,rfl,.inl rfl⟩⟩ h1.1.2 h1.2 hx hf hn R hK
   ·rw[if_neg h1] at hc
    obtain⟨h2,rfl⟩:=ite_some hc
    simp only[Bool.and_eq_true] at h2
    exact draw_wp hS hm hxs ⟨by simp,fun i x hx=>⟨zap x,by rw[List.getElem?_map,hx];rfl,zap_d x,zap_g x,zap_o x⟩⟩ h2.1 h2.2 hx hf hn R hK
  | false=>
   simp only[Bool.false_eq_true,if_false] at hc
   cases hz:zapFirst xs' with
   | true=>
    rw[hz] at hc
    simp only[if_true,Option.some.injEq] at hc
    subst hc
    exact wp_region_list (zapops_wp hS ops.toList xs' f h γ a w hxs hx hf hn R hK)
   | false=>
    rw[hz] at hc
    simp only[Bool.false_eq_true,if_false,Option.some.injEq] at hc
    subst hc
    exact wp_region_list (ops_wp hS ops.toList xs' f h γ a w hxs hx hf hn R hK)
def cv:XE→Exit
 | .normal=>.normal
 | .exit id=>.exit id
 | .ret=>.ret
theorem code_wp (hS:CSound P C) (hm:P.follows .mixedOrders=true) (n:Nat):∀ (c:Code) (ir:IR),compCode P nt c=some ir→∀ (f:Fr) (h:AH) (e:XE) (f':Fr) (h':AH) (γ:List G) (a:Act) (w:World) (Q:Exit→Act→World→Prop),
  xcode C n ir f h=some (e,f',h')→FR γ f a.tmps→nt≤a.tmps.size→Rel P B γ h w→Post P B γ h w nt a f' h' (Q (cv e))→c.wp P Q a w:=by
 intro c
 induction c with
 | skip=>
  intro ir hc f h e f' h' γ a w Q hx hf hn R hK
  cases hc
  simp only[xcode,Option.some.injEq,Prod.mk.injEq] at hx
  obtain⟨rfl,rfl,rfl⟩:=hx
  exact wp_skip (hK γ a w hf hn rfl (Sim.refl R))
 | region id ops draw=>
  intro ir hc f h e f' h' γ a w Q hx hf hn R hK
  obtain⟨xs,h1,rfl⟩:=map_some hc
  simp only[xcode] at hx
  split at hx
  ·rename_i f1 h1' hxs
   simp only[Option.some.injEq,Prod.mk.injEq] at hx
   obtain⟨rfl,rfl,rfl⟩:=hx
   exact reg_wp hS hm h1 hxs hf hn R hK
  ·cases hx
 | seq x y ihx ihy=>
  intro ir hc f h e f' h' γ a w Q hx hf hn R hK
  simp only[compCode] at hc
  split at hc
  ·rename_i xi yi h1 h2
   cases hc
   simp only[xcode] at hx
   refine wp_seq ?_
   split at hx
   ·rename_i f1 hh1 hx1
    refine ihx xi h1 f h .normal f1 hh1 γ a w _ hx1 hf hn R fun γ1 a1 w1 q1 q2 q3 q4=>?_
    exact ihy yi h2 f1 hh1 e f' h' γ1 a1 w1 Q hx q1 q2 q4.rel (hK.step q4 q3)
   ·rename_i hne
    refine ihx xi h1 f h e f' h' γ a w _ hx hf hn R fun γ1 a1 w1 q1 q2 q3 q4=>?_
    have:=hK γ1 a1 w1 q1 q2 q3 q4
    cases e with
    | normal=>exact absurd hx (hne f' h')
    | exit id=>exact this
    | ret=>exact this
  ·cases hc
 | cond c x y ihx ihy=>
  intro ir hc f h e f' h' γ a w Q hx hf hn R hK
  simp only[compCode] at hc
  split at hc
  ·rename_i xi yi h1 h2
   obtain⟨hok,rfl⟩:=ite_some hc
   have hv:=hf.ev hok
   simp only[xcode] at hx
   split at hx
   ·rename_i he
    rw[he] at hv
    exact wp_cond_true hv.bool_inv (ihx xi h1 f h e f' h' γ a w Q hx hf hn R hK)
   ·rename_i he
    rw[he] at hv
    exact wp_cond_false hv.bool_inv (ihy yi h2 f h e f' h' γ a w Q hx hf hn R hK)
   ·cases hx
  ·cases hc
 | block id x ihx=>
  intro ir hc f h e f' h' γ a w Q hx hf hn R hK
  obtain⟨xi,h1,rfl⟩:=map_some hc
  simp only[xcode] at hx
  refine wp_block ?_
  split at hx
  ·rename_i id' f1 hh1 hx1
   split at hx
   ·rename_i hid
    simp only[Option.some.injEq,Prod.mk.injEq] at hx
    obtain⟨rfl,rfl,rfl⟩:=hx
    refine ihx xi h1 f h (.exit id') _ _ γ a w _ hx1 hf hn R fun γ1 a1 w1 q1 q2 q3 q4=>?_
    show Exit.inBlock id Q (.exit id') a1 w1
    simp only[Exit.inBlock,hid,if_true]
    exact hK γ1 a1 w1 q1 q2 q3 q4
   ·rename_i hid
    simp only[Option.some.injEq,Prod.mk.injEq] at hx
    obtain⟨rfl,rfl,rfl⟩:=hx
    refine ihx xi h1 f h (.exit id') _ _ γ a w _ hx1 hf hn R fun γ1 a1 w1 q1 q2 q3 q4=>?_
    show Exit.inBlock id Q (.exit id') a1 w1
    simp only[Exit.inBlock,hid,if_false]
    exact hK γ1 a1 w1 q1 q2 q3 q4
  ·rename_i hne
   refine ihx xi h1 f h e f' h' γ a w _ hx hf hn R fun γ1 a1 w1 q1 q2 q3 q4=>?_
   have:=hK γ1 a1 w1 q1 q2 q3 q4
   cases e with
   | normal=>exact this
   | exit id'=>exact absurd hx (hne id' f' h')
   | ret=>exact this
 | loop x ihx=>
  intro ir hc f h e f' h' γ a w Q hx hf hn R hK
  obtain⟨xi,h1,rfl⟩:=map_some hc
  simp only[xcode] at hx
  have key:∀ (m:Nat) (f:Fr) (h:AH) (γ:List G) (a:Act) (w:World),xloop (fun f h=>xcode C n xi f h) m f h=some (e,f',h')→FR γ f a.tmps→nt≤a.tmps.size→Rel P B γ h w →
    Post P B γ h w nt a f' h' (Q (cv e))→Code.rounds P x Q m a w:=by
   intro m
   induction m with
   | zero=>intro f h γ a w hx;simp[xloop] at hx
   | succ m ih=>
    intro f h γ a w hx hf hn R hK
    rw[rounds_succ]
    simp only[xloop] at hx
    split at hx
    ·rename_i f1 hh1 hx1
     refine ihx xi h1 f h .normal f1 hh1 γ a w _ hx1 hf hn R fun γ1 a1 w1 q1 q2 q3 q4=>?_
     exact ih f1 hh1 γ1 a1 w1 hx q1 q2 q4.rel (hK.step q4 q3)
    ·rename_i hne
     refine ihx xi h1 f h e f' h' γ a w _ hx hf hn R fun γ1 a1 w1 q1 q2 q3 q4=>?_
     have:=hK γ1 a1 w1 q1 q2 q3 q4
     cases e with
     | normal=>exact absurd hx (hne f' h')
     | exit id=>exact this
     | ret=>exact this
  exact wp_loop_rounds n (key n f h γ a w hx hf hn R hK)
 | exit id=>
  intro ir hc f h e f' h' γ a w Q hx hf hn R hK
  cases hc
  simp only[xcode,Option.some.injEq,Prod.mk.injEq] at hx
  obtain⟨rfl,rfl,rfl⟩:=hx
  exact wp_exit (hK γ a w hf hn rfl (Sim.refl R))
 | ret=>
  intro ir hc f h e f' h' γ a w Q hx hf hn R hK
  cases hc
  simp only[xcode,Option.some.injEq,Prod.mk.injEq] at hx
  obtain⟨rfl,rfl,rfl⟩:=hx
  exact wp_ret (hK γ a w hf hn rfl (Sim.refl R))
 | _=>intro ir hc;simp[compCode] at hc
variable {P:Program} {B:Nat} {γ:List G} {h h':AH} {w w0:World} {f:Fr} {a:Act} {v v':Value}
def rvSem (t:Array Value):ResultVar→Sem Value
 | .tmp i=>pure (t.getD i undef)
 | .cell i ty=>do loadVar ty (←asAddr (t.getD i undef))
theorem res1_sound {r:ResultVar} {x:XRes} (hc:compRes P r=some x) (hx:xres1 f h x=some v) (hf:FR γ f a.tmps) (R:Rel P B γ h w) :
  ∃ v',(rvSem a.tmps r).run P w=.ok v' w∧VR γ v v':=by
 cases r with
 | tmp t=>
  cases hc
  simp only[xres1,Option.some.injEq] at hx
  subst hx
  exact⟨_,rfl,hf t⟩
 | cell t ty=>
  simp only[compRes] at hc
  split at hc
  ·rename_i n ha hs
   cases hc
   simp only[xres1] at hx
   split at hx
   ·rename_i m off sp he
    have hv:=hf t
    rw[he] at hv
    obtain⟨_,g,hg,e1⟩:=hv.ptr_inv
    obtain⟨c,hc',rfl⟩:=map_some hx
    obtain⟨b,hb,h3⟩:=Option.bind_eq_some_iff.1 hc'
    obtain⟨h4,rfl⟩:=ite_some h3
    obtain⟨cs,g1,g2⟩:=R.cells hb hg
    have hlen:((cs.drop off).take n).length=n:=by have:=g1.1;simp;omega
    have hl:=load_cells (P:=P) w g.b (g.o+off) ((cs.drop off).take n) (fun j u hu=>by
     rw[List.getElem?_take] at hu
     split at hu
     ·rw[List.getElem?_drop] at hu
      rw[Nat.add_assoc]
      exact g2 _ _ hu
     ·cases hu)
    rw[hlen] at hl
    refine⟨_,?_,VR.aggL ((g1.drop off).take n)⟩
    simp only[rvSem,e1,asAddr,loadVar,Sem.run_bind,Sem.run_pure,Result.andThen_ok,run_isAgg ha,if_true,run_size hs,hl]
   ·cases hx
  ·rename_i n ha hs
   cases hc
   simp only[xres1] at hx
   split at hx
   ·rename_i m off sp he
    have hv:=hf t
    rw[he] at hv
    obtain⟨_,g,hg,e1⟩:=hv.ptr_inv
    obtain⟨b,hb,h3⟩:=Option.bind_eq_some_iff.1 hx
    obtain⟨_,u',h5,h6⟩:=R.cell m b g hb hg off v h3
    refine⟨u',?_,h6⟩
    simp only[rvSem,e1,asAddr,loadVar,Sem.run_bind,Sem.run_pure,Result.andThen_ok,run_isAgg ha,Bool.false_eq_true,if_false,run_load,h5]
   ·cases hx
  ·cases hc
theorem resl_sound (hf:FR γ f a.tmps) (R:Rel P B γ h w):∀ (rs:List ResultVar) (xs:List XRes) (vs:List Value),compRess P rs=some xs→xresl f h xs=some vs →
  ∃ us:List Value,(rs.mapM (rvSem a.tmps)).run P w=.ok us w∧VRL γ vs us
 | [],xs,vs,hc,hx=>by
  simp[compRess] at hc
  subst hc
  simp[xresl] at hx
  subst hx
  exact⟨[],rfl,VRL.nil γ⟩
 | r::rs,xs,vs,hc,hx=>by
  simp only[compRess] at hc
  split at hc
  ·rename_i x l h1 h2
   cases hc
   simp only[xresl] at hx
   split at hx
   ·rename_i u us h3 h4
    cases hx
    obtain⟨u',q1,q2⟩:=res1_sound h1 h3 hf R
    obtain⟨us',q3,q4⟩:=resl_sound hf R rs l us h2 h4
    refine⟨u'::us',?_,VRL.cons q2 q4⟩
    simp only[List.mapM_cons,Sem.run_bind,q1,Result.andThen_ok,q3,Sem.run_pure]
   ·cases hx
  ·cases hc
theorem res_sound {fn:Func} {xs:List XRes} (hc:compRess P fn.results.toList=some xs) (hx:xres f h xs=some v) (hf:FR γ f a.tmps) (R:Rel P B γ h w) :
  ∃ v',(results fn a.tmps).run P w=.ok v' w∧VR γ v v':=by
 unfold xres at hx
 have gen:∀ vs,xresl f h xs=some vs→∃ us:List Value,(results fn a.tmps).run P w=.ok (if hu:us.toArray.size=1 then us.toArray[0] else .tuple us.toArray) w∧VRL γ vs us:=by
  intro vs hvs
  obtain⟨us,q1,q2⟩:=resl_sound hf R _ xs vs hc hvs
  refine⟨us,?_,q2⟩
  have e:results fn a.tmps=((List.toArray <$> fn.results.toList.mapM (rvSem a.tmps)) >>= fun vs=>pure (if h:vs.size=1 then vs[0] else Value.tuple vs)):=by
   rw[←Array.mapM_eq_mapM_toList]
   unfold results
   congr 1
  rw[e,Sem.run_bind,Sem.run_map,q1,Result.andThen_ok,Result.andThen_ok]
  rfl
 split at hx
 ·rename_i u hu
  cases hx
  obtain⟨us,q1,q2⟩:=gen _ hu
  obtain⟨u',hu'⟩:=List.length_eq_one_iff.1 (show us.length=1 by rw[←q2.1];rfl)
  subst hu'
  exact⟨u',q1,q2.2 0 _ _ rfl rfl⟩
 ·rename_i vs hne hvs
  cases hx
  obtain⟨us,q1,q2⟩:=gen _ hvs
  have hne':¬ us.toArray.size=1:=by
   intro e
   obtain⟨u,hu⟩:=List.length_eq_one_iff.1 (show vs.length=1 by rw[q2.1];simpa using e)
   exact hne u hu
  rw[dif_neg hne'] at q1
  exact⟨_,q1,VR.tupleL q2⟩
 ·cases hx
theorem enter_FR {args args':List Value} (hv:VRL γ args args') (n:Nat):FR γ (fun j=>args.getD j undef) (args'.toArray++Array.replicate n undef):=by
 intro i
 by_cases hi:i<args.length
 ·have h1:args[i]?=some args[i]:=List.getElem?_eq_getElem hi
  obtain⟨b,hb,hr⟩:=hv.get h1
  have hb':i<args'.length:=(List.getElem?_eq_some_iff.1 hb).1
  simp only[List.getD_eq_getElem?_getD,h1,Option.getD_some,Array.getD_eq_getD_getElem?]
  rw[Array.getElem?_append_left (by simpa using hb'),List.getElem?_toArray,hb]
  exact hr
 ·have h1:args[i]?=none:=List.getElem?_eq_none (by omega)
  have hl:¬ i<args'.length:=by rw[←hv.1];exact hi
  simp only[List.getD_eq_getElem?_getD,h1,Option.getD_none,Array.getD_eq_getD_getElem?]
  rw[Array.getElem?_append_right (by simpa using Nat.le_of_not_lt hl),Array.getElem?_replicate]
  split
  ·exact VR.undef γ
  ·exact VR.undef γ
def ESound (P:Program) (E:FuncId→Option (List Value→AH→Option (Value×AH))):Prop:=∀ g p,E g=some p→CSound P fun g' args h=>if g'=g then p args h else none
def TSound (P:Program) (T:FuncId→Option XFn):Prop:=∀ g x,T g=some x→∃ fn,P.funcs[g]?=some fn∧compFn P fn=some x
theorem xcall_sound {E:FuncId→Option (List Value→AH→Option (Value×AH))} {T:FuncId→Option XFn} (hm:P.follows .mixedOrders=true) (hE:ESound P E) (hT:TSound P T):∀ k,CSound P (xcall E T k)
 | 0=>fun g args h v h' hx=>by simp[xcall] at hx
 | k+1=>by
  intro g args h v h' hx
  simp only[xcall] at hx
  split at hx
  ·rename_i p hp
   have:=hE g p hp g args h v h' (by simp only[if_true];exact hx)
   exact this
  ·split at hx
   ·cases hx
   ·rename_i x hg
    obtain⟨fn,h1,h2⟩:=hT g x hg
    unfold compFn at h2
    split at h2
    ·cases h2
    ·rename_i c hb
     split at h2
     ·cases h2
     ·rename_i hname
      split at h2
      ·rename_i b r hbc hrc
       cases h2
       refine⟨⟨fn,h1,by rw[hb];rfl,by simpa using hname⟩,fun B γ w args' R hv=>?_⟩
       split at hx
       ·cases hx
       ·rename_i e f1 h1' hnx hcode
        split at hx
        ·rename_i u hu
         simp only[Option.some.injEq,Prod.mk.injEq] at hx
         obtain⟨rfl,rfl⟩:=hx
         refine calls_of_wp h1 hb ?_
         refine code_wp (nt:=fn.ntmps) (xcall_sound hm hE hT k) hm (k+1) c b hbc _ h e f1 h1' γ _ w _ hcode (enter_FR hv _) (by simp;omega) R fun γ1 a1 w1 q1 q2 q3 q4=>?_
         obtain⟨u',r1,r2⟩:=res_sound hrc hu q1 q4.rel
         cases e with
         | normal=>exact⟨q3,u',r1,γ1,u',rfl,r2,q4⟩
         | exit id=>exact (hnx id rfl).elim
         | ret=>exact⟨q3,u',r1,γ1,u',rfl,r2,q4⟩
        ·cases hx
       ·cases hx
      ·cases h2
end Go.Proofs.Ytapafdpnmakekaa.X
