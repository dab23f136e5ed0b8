/- Texts of one claim, put together by merge.py: XMA, XBC, XMB, XBH, XBI, XBN, XBJ, XBK, XBO. -/
import Derived.Test.YtigpfopobpoamaaGreatRE10
set_option linter.unusedVariables false
set_option linter.unusedSimpArgs false
set_option maxRecDepth 20000
set_option maxHeartbeats 4000000
namespace Go.Proofs.YtigpfopobpoamaaGreat.X
open Go Go.RowKit
def lead:List Int→Int
 | []=>0
 | a::l=>if a=0 then lead l else a
theorem lead_map {g:Int→Int} (g0:g 0=0):∀ {l:List Int},(∀ a∈l,g a=0→a=0)→lead (l.map g)=g (lead l)
 | [],_=>g0.symm
 | a::l,h=>by
  rw[List.map_cons,lead,lead]
  by_cases e:a=0
  ·rw[e,g0,if_pos rfl,if_pos rfl]
   exact lead_map g0 fun b hb=>h b (by simp[hb])
  ·rw[if_neg e,if_neg (fun x=>e (h a (by simp) x))]
theorem lead_mem:∀ {l:List Int},lead l≠0→lead l∈l
 | [],h=>absurd rfl h
 | a::l,h=>by
  rw[lead] at h ⊢
  by_cases e:a=0
  ·rw[if_pos e] at h ⊢
   exact List.mem_cons_of_mem _ (lead_mem h)
  ·rw[if_neg e]
   exact List.mem_cons_self
theorem lead_zero:∀ {l:List Int},lead l=0→∀ a∈l,a=0
 | [],_=>by simp
 | a::l,h=>by
  rw[lead] at h
  by_cases e:a=0
  ·rw[if_pos e] at h
   intro b hb
   rcases List.mem_cons.1 hb with rfl|hb
   ·exact e
   ·exact lead_zero h b hb
  ·rw[if_neg e] at h
   exact absurd h e
structure Fm (p:Int) (f:List Int):Prop where
 len:f.length=9
 n:∀ a∈f,0≤a∧a<p
section
variable {p k t:Int} {f g q r:List Int}
theorem Fm.of (h:By 9 f) (hn:∀ j,j<9→f.getD j 0<p):Fm p f:=⟨h.1,fun a ha=>by
 obtain⟨i,hi,rfl⟩:=List.getElem_of_mem ha
 have h1:=(h.2 i (by have:=h.1;omega)).1
 have h2:=hn i (by have:=h.1;omega)
 rw[List.getD_eq_getElem?_getD,List.getElem?_eq_getElem hi,Option.getD_some] at h1 h2
 exact⟨h1,h2⟩⟩
theorem Fm.at (h:Fm p f) {j:Nat} (hj:j<9):0≤f.getD j 0∧f.getD j 0<p:=by
 rw[List.getD_eq_getElem?_getD,List.getElem?_eq_getElem (by rw[h.len];exact hj),Option.getD_some]
 exact h.n _ (List.getElem_mem _)
theorem isZ_lead (h:Fm p f):isZ f=false↔lead f≠0:=by
 constructor
 ·intro hz e
  have:=lead_zero e
  have e2:f=z9:=by
   have:f=List.replicate 9 0:=List.eq_replicate_iff.2 ⟨h.len,this⟩
   rw[this]
   rfl
  rw[e2] at hz
  cases hz
 ·intro hl
  cases hz:isZ f with
  | false=>rfl
  | true=>
   have e:f=z9:=by simpa [isZ] using hz
   rw[e] at hl
   exact absurd rfl hl
theorem Fm.lead (h:Fm p f) (hz:isZ f=false):1≤X.lead f∧X.lead f<p:=by
 have h1:=(isZ_lead h).1 hz
 have:=h.n _ (lead_mem h1)
 omega
def scF (p:Int) (f:List Int) (k:Int):List Int:=addF p z9 f k 9
theorem z9_at {j:Nat}:z9.getD j 0=0:=isZ_at (q:=z9) rfl
theorem scF_map (hf:f.length=9):scF p f k=f.map fun a=>md p (k*a):=by
 have l:(scF p f k).length=9:=addF_len rfl (Nat.le_refl _)
 refine List.ext_getElem (by rw[l,List.length_map,hf]) fun j h1 h2=>?_
 have e:(scF p f k).getD j 0=md p (k*f.getD j 0):=by
  unfold scF
  rw[addF_get (by omega),z9_at,Int.zero_add]
 rw[List.getD_eq_getElem?_getD,List.getElem?_eq_getElem h1,List.getD_eq_getElem?_getD,List.getElem?_eq_getElem (by omega)] at e
 rw[List.getElem_map]
 exact e
theorem scF_at {j:Nat} (hj:j<9):(scF p f k).getD j 0=md p (k*f.getD j 0):=by
 unfold scF
 rw[addF_get hj,z9_at,Int.zero_add]
theorem prm (hp:isP p=true) {a b:Int} (h:p∣a*b):p∣a∨p∣b:=by
 have hpp:p=2∨p=3∨p=5:=by simpa [isP] using hp
 rw[Int.dvd_iff_emod_eq_zero,Int.mul_emod] at h
 rw[Int.dvd_iff_emod_eq_zero,Int.dvd_iff_emod_eq_zero]
 rcases hpp with rfl|rfl|rfl
 ·have h1:a%2=0∨a%2=1:=by omega
  have h2:b%2=0∨b%2=1:=by omega
  rcases h1 with h1|h1<;>rcases h2 with h2|h2<;>simp_all
 ·have h1:a%3=0∨a%3=1∨a%3=2:=by omega
  have h2:b%3=0∨b%3=1∨b%3=2:=by omega
  rcases h1 with h1|h1|h1<;>rcases h2 with h2|h2|h2<;>simp_all
 ·have h1:a%5=0∨a%5=1∨a%5=2∨a%5=3∨a%5=4:=by omega
  have h2:b%5=0∨b%5=1∨b%5=2∨b%5=3∨b%5=4:=by omega
  rcases h1 with h1|h1|h1|h1|h1<;>rcases h2 with h2|h2|h2|h2|h2<;>simp_all
theorem md_zero {x:Int} (hp:2≤p) (h:md p x=0):p∣x:=by
 have:=md_dvd p x
 rwa [h,Int.sub_zero] at this
theorem small_dvd {x:Int} (h:p∣x) (h0:0≤x∧x<p):x=0:=dvd_small h h0
theorem scF_lead (hp:isP p=true) (hf:Fm p f) (hk:¬ p∣k):lead (scF p f k)=md p (k*lead f):=by
 have pp:=isP_in hp
 rw[scF_map hf.len]
 refine lead_map (g:=fun a=>md p (k*a)) ?_ fun a ha h=>?_
 ·show md p (k*0)=0
  rw[Int.mul_zero]
  exact md_small (by omega)
 ·rcases prm hp (md_zero pp.1 h) with h|h
  ·exact absurd h hk
  ·exact small_dvd h (hf.n a ha)
theorem scF_Fm (hp:2≤p):Fm p (scF p f k):=⟨addF_len rfl (Nat.le_refl _),fun a ha=>by
 obtain⟨i,hi,rfl⟩:=List.getElem_of_mem ha
 have l:(scF p f k).length=9:=addF_len rfl (Nat.le_refl _)
 have e:=scF_at (p:=p) (f:=f) (k:=k) (j:=i) (by omega)
 rw[List.getD_eq_getElem?_getD,List.getElem?_eq_getElem hi,Option.getD_some] at e
 rw[e]
 exact md_in hp⟩
theorem scF_nz (hp:isP p=true) (hf:Fm p f) (hk:¬ p∣k) (hz:isZ f=false):isZ (scF p f k)=false:=by
 have pp:=isP_in hp
 refine (isZ_lead (scF_Fm pp.1)).2 ?_
 rw[scF_lead hp hf hk]
 intro h
 have hl:=hf.lead hz
 rcases prm hp (md_zero pp.1 h) with h|h
 ·exact hk h
 ·have:=small_dvd h (by omega)
  omega
theorem scF_one (hp:2≤p) (hf:Fm p f):scF p f 1=f:=by
 rw[scF_map hf.len]
 have:∀ a∈f,(fun a=>md p (1*a)) a=a:=fun a ha=>by
  show md p (1*a)=a
  rw[Int.one_mul]
  exact md_small (hf.n a ha)
 exact (List.map_congr_left this).trans (List.map_id _)
theorem scF_cong {k':Int} (hp:2≤p) (hf:f.length=9) (h:Cg p k k'):scF p f k=scF p f k':=by
 rw[scF_map hf,scF_map hf]
 refine List.map_congr_left fun a _=>?_
 exact dvd_eq ((md_cg.trans (h.mul .rfl')).trans md_cg.symm) (md_in hp) (md_in hp)
open Classical in
noncomputable def inv (p n:Int):Int:=if h:∃ w,IsInv p n w then Classical.choose h else 0
theorem inv_spec {n:Int} (hp:isP p=true) (hn:1≤n∧n<p):IsInv p n (inv p n):=by
 have h:=inv_is hp hn
 unfold inv
 rw[dif_pos h]
 exact Classical.choose_spec h
theorem inv_one (hp:isP p=true):inv p 1=1:=by
 have pp:=isP_in hp
 obtain⟨h1,h2,h3,h4⟩:=inv_spec (n:=1) hp (by omega)
 refine Decidable.byContradiction fun h=>h4 1 (by omega) (by omega) ?_
 exact Int.tmod_eq_of_lt (by omega) (by omega)
theorem invc {n:Int} (hp:isP p=true) (hn:1≤n∧n<p):Cg p (inv p n*n) 1:=by
 obtain⟨q,hq⟩:=inv_dvd (inv_spec hp hn)
 exact⟨q,by omega⟩
theorem inv_nd {n:Int} (hp:isP p=true) (hn:1≤n∧n<p):¬ p∣inv p n:=by
 have h:=inv_spec hp hn
 intro hd
 have:=small_dvd hd (by have:=h.1;have:=h.2.1;omega)
 have:=h.1
 omega
noncomputable def nrm (p:Int) (q:List Int):List Int:=scF p (seg q 0) (inv p (lead (seg q 0)))++scF p (seg q 1) (inv p (lead (seg q 1)))++scF p (seg q 2) (lead (seg q 0)*lead (seg q 1))
structure Pr (p:Int) (q:List Int):Prop where
 bb:By 27 q
 f:∀ j,j<3→Fm p (seg q j)
 z:∀ j,j<3→isZ (seg q j)=false
theorem hasZ_iff:hasZ q=false↔∀ j,j<3→isZ (seg q j)=false:=by
 unfold hasZ
 simp only[Bool.or_eq_false_iff]
 constructor
 ·rintro⟨⟨h0,h1⟩,h2⟩ j hj
  have:j=0∨j=1∨j=2:=by omega
  rcases this with rfl|rfl|rfl
  ·exact h0
  ·exact h1
  ·exact h2
 ·intro h
  exact⟨⟨h 0 (by omega),h 1 (by omega)⟩,h 2 (by omega)⟩
theorem Pr.of {x:Sch} (hb:By 27 q) (h:okProd x q=true):Pr x.p q:=by
 obtain⟨h1,h2⟩:=okProd_iff.1 h
 exact⟨hb,fun j hj=>Fm.of (seg_by hb hj) fun i hi=>(okForm_gt (h1 j hj) hi).1,hasZ_iff.1 h2⟩
theorem Pr.ld (h:Pr p q) {j:Nat} (hj:j<3):1≤lead (seg q j)∧lead (seg q j)<p:=(h.f j hj).lead (h.z j hj)
theorem app3_seg {a b c:List Int} (ha:a.length=9) (hb:b.length=9) (hc:c.length=9):seg (a++b++c) 0=a∧seg (a++b++c) 1=b∧seg (a++b++c) 2=c:=by
 have l:(a++b).length=18:=by rw[List.length_append];omega
 unfold seg
 refine⟨?_,?_,?_⟩
 ·rw[Nat.zero_mul,List.drop_zero,List.append_assoc,List.take_append_of_le_length (by omega),List.take_of_length_le (by omega)]
 ·rw[Nat.one_mul,List.append_assoc,List.drop_append_of_le_length (by omega),List.drop_of_length_le (by omega),List.nil_append,List.take_append_of_le_length (by omega),List.take_of_length_le (by omega)]
 ·rw[List.drop_append_of_le_length (by omega),List.drop_of_length_le (by omega),List.nil_append,List.take_of_length_le (by omega)]
theorem scF_len:(scF p f k).length=9:=addF_len rfl (Nat.le_refl _)
theorem nrm_seg:seg (nrm p q) 0=scF p (seg q 0) (inv p (lead (seg q 0)))∧seg (nrm p q) 1=scF p (seg q 1) (inv p (lead (seg q 1)))∧seg (nrm p q) 2=scF p (seg q 2) (lead (seg q 0)*lead (seg q 1)):=app3_seg scF_len scF_len scF_len
theorem seg3 (hq:q.length=27):seg q 0++seg q 1++seg q 2=q:=by
 unfold seg
 rw[Nat.zero_mul,List.drop_zero,Nat.one_mul,List.append_assoc,show (q.drop (2*9)).take 9=(q.drop 9).drop 9 from by rw[List.drop_drop,List.take_of_length_le (by rw[List.length_drop];omega)],List.take_append_drop,List.take_append_drop]
theorem lead2_nd (hp:isP p=true) (h:Pr p q):¬ p∣lead (seg q 0)*lead (seg q 1):=by
 intro hd
 have h0:=h.ld (j:=0) (by omega)
 have h1:=h.ld (j:=1) (by omega)
 rcases prm hp hd with hd|hd
 ·have:=small_dvd hd (by omega);omega
 ·have:=small_dvd hd (by omega);omega
theorem nrm_Pr (hp:isP p=true) (h:Pr p q):Pr p (nrm p q):=by
 have pp:=isP_in hp
 obtain⟨e0,e1,e2⟩:=nrm_seg (p:=p) (q:=q)
 have hf:∀ j,j<3→Fm p (seg (nrm p q) j)∧isZ (seg (nrm p q) j)=false:=fun j hj=>by
  have:j=0∨j=1∨j=2:=by omega
  rcases this with rfl|rfl|rfl
  ·rw[e0]
   exact⟨scF_Fm pp.1,scF_nz hp (h.f 0 (by omega)) (inv_nd hp (h.ld (by omega))) (h.z 0 (by omega))⟩
  ·rw[e1]
   exact⟨scF_Fm pp.1,scF_nz hp (h.f 1 (by omega)) (inv_nd hp (h.ld (by omega))) (h.z 1 (by omega))⟩
  ·rw[e2]
   exact⟨scF_Fm pp.1,scF_nz hp (h.f 2 (by omega)) (lead2_nd hp h) (h.z 2 (by omega))⟩
 have l:(nrm p q).length=27:=by
  unfold nrm
  rw[List.length_append,List.length_append,scF_len,scF_len,scF_len]
 refine⟨⟨l,fun j hj=>?_⟩,fun j hj=>(hf j hj).1,fun j hj=>(hf j hj).2⟩
 have hj':j=j / 9*9+j%9:=by omega
 rw[hj',←seg_at (by omega)]
 have:=(hf (j / 9) (by omega)).1.at (j:=j%9) (by omega)
 omega
def Nm (q:List Int):Prop:=lead (seg q 0)=1∧lead (seg q 1)=1
theorem nrm_Nm (hp:isP p=true) (h:Pr p q):Nm (nrm p q):=by
 have pp:=isP_in hp
 obtain⟨e0,e1,e2⟩:=nrm_seg (p:=p) (q:=q)
 have one:∀ {n:Int},1≤n∧n<p→md p (inv p n*n)=1:=fun {n} hn=>dvd_eq (md_cg.trans (invc hp hn)) (md_in pp.1) (by omega)
 exact⟨by rw[e0,scF_lead hp (h.f 0 (by omega)) (inv_nd hp (h.ld (by omega)))];exact one (h.ld (by omega)),by rw[e1,scF_lead hp (h.f 1 (by omega)) (inv_nd hp (h.ld (by omega)))];exact one (h.ld (by omega))⟩
theorem nrm_id (hp:isP p=true) (h:Pr p q) (n:Nm q):nrm p q=q:=by
 have pp:=isP_in hp
 unfold nrm
 rw[n.1,n.2,inv_one hp,Int.one_mul,scF_one pp.1 (h.f 0 (by omega)),scF_one pp.1 (h.f 1 (by omega)),scF_one pp.1 (h.f 2 (by omega)),seg3 h.bb.1]
theorem nrm_tm (hp:isP p=true) (h:Pr p q) {a b c:Nat} (ha:a<9) (hb:b<9) (hc:c<9):Cg p (tm (nrm p q) a b c) (tm q a b c):=by
 obtain⟨e0,e1,e2⟩:=nrm_seg (p:=p) (q:=q)
 rw[tm_seg ha hb hc,tm_seg ha hb hc,e0,e1,e2,scF_at ha,scF_at hb,scF_at hc]
 have h0:=invc hp (h.ld (j:=0) (by omega))
 have h1:=invc hp (h.ld (j:=1) (by omega))
 refine Cg.trans (md_cg.mul md_cg |>.mul md_cg) ?_
 obtain⟨u,hu⟩:=h0
 obtain⟨v,hv⟩:=h1
 generalize inv p (lead (seg q 0))=i0 at *
 generalize inv p (lead (seg q 1))=i1 at *
 generalize lead (seg q 0)=l0 at *
 generalize lead (seg q 1)=l1 at *
 generalize (seg q 0).getD a 0=A at *
 generalize (seg q 1).getD b 0=B at *
 generalize (seg q 2).getD c 0=C at *
 exact⟨A*B*C*(u+v+p*u*v),by grind⟩
theorem okForm_sc {n:Int} (hp:2≤p) (hf:okForm p n f=true):okForm p n (scF p f k)=true:=by
 refine okForm_add hp (okForm_t fun j hj=>?_) hf
 unfold okAt
 rw[z9_at]
 exact decide_eq_true ⟨by omega,fun _=>rfl⟩
theorem nrm_ok {x:Sch} (hP:isP x.p=true) (hb:By 27 q) (h:okProd x q=true):okProd x (nrm x.p q)=true:=by
 have pp:=isP_in hP
 have hpr:=Pr.of hb h
 obtain⟨h1,h2⟩:=okProd_iff.1 h
 obtain⟨e0,e1,e2⟩:=nrm_seg (p:=x.p) (q:=q)
 refine okProd_iff.2 ⟨fun j hj=>?_,hasZ_iff.2 (nrm_Pr hP hpr).z⟩
 have:j=0∨j=1∨j=2:=by omega
 rcases this with rfl|rfl|rfl
 ·rw[e0];exact okForm_sc pp.1 (h1 0 hj)
 ·rw[e1];exact okForm_sc pp.1 (h1 1 hj)
 ·rw[e2];exact okForm_sc pp.1 (h1 2 hj)
noncomputable def tms (p:Int) (f g:List Int):Int:=if scF p f ((lead g*inv p (lead f)).tmod p)=g then (lead g*inv p (lead f)).tmod p else 0
theorem tms_in (hp:2≤p) (hg:0≤lead g) (hi:0≤inv p (lead f)):0≤tms p f g∧tms p f g<p:=by
 unfold tms
 split
 ·exact tmod_nn (Int.mul_nonneg hg hi) (by omega)
 ·omega
theorem tms_sc (h:tms p f g≠0):scF p f (tms p f g)=g:=by
 unfold tms at h ⊢
 split
 ·rename_i e
  exact e
 ·rename_i e
  rw[if_neg e] at h
  exact absurd rfl h
theorem tms_some {s:Int} (hp:isP p=true) (hf:Fm p f) (hz:isZ f=false) (hs:1≤s∧s<p) (e:scF p f s=g):tms p f g=s:=by
 have pp:=isP_in hp
 have hl:=hf.lead hz
 have nd:¬ p∣s:=fun h=>by have:=small_dvd h (by omega);omega
 have el:lead g=md p (s*lead f):=by rw[←e];exact scF_lead hp hf nd
 have h1:=invc hp hl
 have h2:=inv_spec hp hl
 have lg:=md_in (x:=s*lead f) pp.1
 have et:(lead g*inv p (lead f)).tmod p=s:=by
  refine dvd_eq ?_ (tmod_nn (Int.mul_nonneg (by rw[el];exact lg.1) (by have:=h2.1;omega)) (by omega)) (by omega)
  refine Cg.trans (Cg.tmod _ _) ?_
  rw[el]
  refine Cg.trans (md_cg.mul .rfl') ?_
  obtain⟨u,hu⟩:=h1
  generalize inv p (lead f)=i0 at *
  generalize lead f=l0 at *
  exact⟨s*u,by grind⟩
 unfold tms
 rw[et,if_pos e]
theorem tms_none (hp:isP p=true) (hf:Fm p f) (hz:isZ f=false) (hg:0≤lead g) (h:∀ s,1≤s→s<p→scF p f s≠g):tms p f g=0:=by
 have pp:=isP_in hp
 refine Decidable.byContradiction fun h0=>?_
 have hi:=inv_spec hp (hf.lead hz)
 have:=tms_in (f:=f) (g:=g) pp.1 hg (by have:=hi.1;omega)
 exact h _ (by omega) this.2 (tms_sc h0)
noncomputable def mrg (p:Int) (q r:List Int):Option (List Int):=
 if seg q 0=seg r 0∧seg q 1=seg r 1 then some (wth q 2 (addF p (seg q 2) (seg r 2) 1 9))
 else if seg q 0=seg r 0∧tms p (seg q 2) (seg r 2)≠0 then some (wth q 1 (addF p (seg q 1) (seg r 1) (tms p (seg q 2) (seg r 2)) 9))
 else if seg q 1=seg r 1∧tms p (seg q 2) (seg r 2)≠0 then some (wth q 0 (addF p (seg q 0) (seg r 0) (tms p (seg q 2) (seg r 2)) 9))
 else none
theorem mrg_of {m:List Int} (h:mrg p q r=some m):∃ j k,j<3∧m=wth q j (addF p (seg q j) (seg r j) k 9)∧((j=2∧k=1∧seg q 0=seg r 0∧seg q 1=seg r 1)∨(j=1∧seg q 0=seg r 0∧scF p (seg q 2) k=seg r 2)∨(j=0∧seg q 1=seg r 1∧scF p (seg q 2) k=seg r 2)):=by
 unfold mrg at h
 split at h
 ·rename_i e
  cases h
  exact⟨2,1,by omega,rfl,.inl ⟨rfl,rfl,e⟩⟩
 ·split at h
  ·rename_i e
   cases h
   exact⟨1,_,by omega,rfl,.inr (.inl ⟨rfl,e.1,tms_sc e.2⟩)⟩
  ·split at h
   ·rename_i e
    cases h
    exact⟨0,_,by omega,rfl,.inr (.inr ⟨rfl,e.1,tms_sc e.2⟩)⟩
   ·cases h
theorem mrg_by {m:List Int} (hp:2≤p∧p≤5) (hq:By 27 q) (h:mrg p q r=some m):By 27 m:=by
 obtain⟨j,k,hj,rfl,-⟩:=mrg_of h
 exact wth_by hq (addF_by hp (seg_by hq hj) (Nat.le_refl _)) hj
theorem mrg_tm {m:List Int} (hq:q.length=27) (h:mrg p q r=some m) {a b c:Nat} (ha:a<9) (hb:b<9) (hc:c<9):Cg p (tm m a b c) (tm q a b c+tm r a b c):=by
 obtain⟨j,k,hj,rfl,hc'⟩:=mrg_of h
 have s1:∀ i,i<3→seg (wth q j (addF p (seg q j) (seg r j) k 9)) i=if i=j then addF p (seg q j) (seg r j) k 9 else seg q i:=fun i hi=>seg_wth hq (addF_len (seg_n9 hq hj) (Nat.le_refl _)) hj hi
 rw[tm_seg ha hb hc,tm_seg ha hb hc,tm_seg ha hb hc,s1 0 (by omega),s1 1 (by omega),s1 2 (by omega)]
 rcases hc' with⟨rfl,rfl,e0,e1⟩|⟨rfl,e0,e2⟩|⟨rfl,e1,e2⟩
 ·rw[if_neg (by decide),if_neg (by decide),if_pos rfl,addF_get hc,←e0,←e1]
  obtain⟨u,hu⟩:=md_cg (p:=p) (x:=(seg q 2).getD c 0+1*(seg r 2).getD c 0)
  generalize md p _=M at *
  generalize (seg q 0).getD a 0=A at *
  generalize (seg q 1).getD b 0=B at *
  exact⟨A*B*u,by grind⟩
 ·rw[if_neg (by decide),if_pos rfl,if_neg (by decide),addF_get hb,←e0,←e2,scF_at hc]
  obtain⟨u,hu⟩:=md_cg (p:=p) (x:=(seg q 1).getD b 0+k*(seg r 1).getD b 0)
  obtain⟨v,hv⟩:=md_cg (p:=p) (x:=k*(seg q 2).getD c 0)
  generalize md p (k*(seg q 2).getD c 0)=M2 at *
  generalize md p _=M at *
  generalize (seg q 0).getD a 0=A at *
  generalize (seg q 2).getD c 0=C at *
  generalize (seg r 1).getD b 0=B' at *
  generalize (seg q 1).getD b 0=B at *
  exact⟨A*u*C-A*B'*v,by grind⟩
 ·rw[if_pos rfl,if_neg (by decide),if_neg (by decide),addF_get ha,←e1,←e2,scF_at hc]
  obtain⟨u,hu⟩:=md_cg (p:=p) (x:=(seg q 0).getD a 0+k*(seg r 0).getD a 0)
  obtain⟨v,hv⟩:=md_cg (p:=p) (x:=k*(seg q 2).getD c 0)
  generalize md p (k*(seg q 2).getD c 0)=M2 at *
  generalize md p _=M at *
  generalize (seg q 1).getD b 0=B at *
  generalize (seg q 2).getD c 0=C at *
  generalize (seg r 0).getD a 0=A' at *
  generalize (seg q 0).getD a 0=A at *
  exact⟨u*B*C-A'*B*v,by grind⟩
theorem mrg_ok {x:Sch} {m:List Int} (hp:2≤x.p) (hq:q.length=27) (oq:∀ j,j<3→okForm x.p (pl x j) (seg q j)=true) (or:∀ j,j<3→okForm x.p (pl x j) (seg r j)=true) (h:mrg x.p q r=some m):∀ j,j<3→okForm x.p (pl x j) (seg m j)=true:=by
 obtain⟨j,k,hj,rfl,-⟩:=mrg_of h
 intro i hi
 rw[seg_wth hq (addF_len (seg_n9 hq hj) (Nat.le_refl _)) hj hi]
 split
 ·rename_i e
  rw[e]
  exact okForm_add hp (oq j hj) (or j hj)
 ·exact oq i hi
end
end Go.Proofs.YtigpfopobpoamaaGreat.X

set_option linter.unusedVariables false
set_option linter.unusedSimpArgs false
set_option maxRecDepth 20000
set_option maxHeartbeats 4000000
namespace Go.Proofs.YtigpfopobpoamaaGreat.X
open Go Go.RowKit
open Nat (reduceEqDiff reduceAdd reduceSub reduceLeDiff)
theorem z9_by:By 9 z9:=⟨rfl,fun j _=>by rw[z9_at];omega⟩
theorem zeros9z:([.int .u8 0,.int .u8 0,.int .u8 0,.int .u8 0,.int .u8 0,.int .u8 0,.int .u8 0,.int .u8 0,.int .u8 0]:List Value)=cel .u8 z9:=rfl
theorem sp9q {q:List Int} (hq:q.length=9):splice (cel .u8 (List.replicate 9 0)) 0 (cel .u8 q)=cel .u8 q:=by
 rw[cel_splice]
 simp[hq]
theorem s_l01Scale {p k:Int} {q:List Int} {h:AH} {Q:Value→AH→Prop} (hp:2≤p∧p≤5) (hq:By 9 q) (hk:-1000≤k∧k≤1000) (hQ:∀ h',h<+:h'→Q (aggV .u8 (scF p q k)) h'):WF S 64 [I64 p,aggV .u8 q,I64 k] h Q:=by
 refine WF_fn (fn:=c64) rfl rfl ?_
 dsimp only[c64,oO,oM,oS,oG,oK,oE,oL,oF,oX,oN]
 have q9:=hq.1
 have tq:(cel .u8 q).take 9=cel .u8 q:=List.take_of_length_le (by rw[cel_len,q9];exact Nat.le_refl _)
 ((try simp (maxSteps:=3000000) (dsimp:=false) (disch:=first|omega|simp only[lnx];omega) only[↓ypre,ypost,↓reduceIte,reduceEqDiff,reduceAdd,reduceSub,reduceLeDiff,zz0,ynew,aggV,cellsL_cel,cel_all]);try simp only[yback])
 generalize hH1:AH.new h _=H1
 obtain⟨hb1,p1,n1⟩:=new_facts hH1
 generalize hH2:AH.new H1 _=H2
 obtain⟨hb2,p2,n2⟩:=new_facts hH2
 have g1:=pre_get p2 hb1
 ((try simp (maxSteps:=3000000) (dsimp:=false) (disch:=first|omega|simp only[lnx];omega) only[↓ypre,ypost,↓reduceIte,reduceEqDiff,reduceAdd,reduceSub,reduceLeDiff,zz0,ynew,fillL,zeros9z,cel_all,rdn_of g1,cel_len,q9,tq]);try simp only[yback])
 refine s_l01Add (a:=z9) (b:=q) hp z9_by hq hk fun H3 p3=>?_
 have g2:=pre_get p3 hb2
 have l2:=get_lt g2
 have sl:(scF p q k).length=9:=scF_len
 have e:addF p z9 q k 9=scF p q k:=rfl
 have w9:=wr_full (vs:=cel .u8 (scF p q k)) g2 (by rw[cel_len,sl];rfl)
 have ts:(cel .u8 (scF p q k)).take 9=cel .u8 (scF p q k):=List.take_of_length_le (by rw[cel_len,sl];exact Nat.le_refl _)
 rw[e]
 ((try simp (maxSteps:=3000000) (dsimp:=false) (disch:=first|omega|simp only[lnx];omega) only[↓ypre,ypost,↓reduceIte,reduceEqDiff,reduceAdd,reduceSub,reduceLeDiff,zz0,ynew,aggV,cellsL_cel,cel_len,sl,cel_all,w9,rdn_put_same,ts]);try simp only[yback])
 exact hQ _ (pre_put (p1.trans (p2.trans p3)) (by omega))
theorem scF_by {p k:Int} {q:List Int} (hp:2≤p∧p≤5):By 9 (scF p q k):=addF_by hp z9_by (Nat.le_refl _)
theorem s_l03Draw {h0 h:AH} {n:Nat} {Q:Value→AH→Prop} (s:Src h0 h n)
  (hQ:∀ (x:Sch) (v:Value) (h':AH),Kp n h h'→Src h0 h' n→SchD h.length h' v x→SchB x→NK v→Q (schV x v) h'):WF S 24 [srcP n] h Q:=by
 refine WF_fn (fn:=c24) rfl rfl ?_
 dsimp only[c24,oO,oM,oS,oG,oK,oE,oL,oF,oX,oN]
 have lt:=s.lt
 have l0:=pre_len s.p
 ((try simp (maxSteps:=3000000) (dsimp:=false) (disch:=first|omega|simp only[lnx];omega) only[↓ypre,ypost,↓reduceIte,reduceEqDiff,reduceAdd,reduceSub,reduceLeDiff,zz0,ynew]);try simp only[yback])
 generalize hH1:AH.new h _=H1
 obtain⟨hb1,p1,n1⟩:=new_facts hH1
 refine s_l01Draw (s.kp p1) fun x v H2 k2 s2 sd hx nk=>?_
 have g1:=k2.get (by omega) hb1
 have xb:=isX_SchB hx sd.now
 have k2l:=k2.len
 have o1:isOne v=true:=sd.now.one
 have zp:=(isX_sz hx).1.p
 have h30:=(isX_sz hx).2
 ((try simp (maxSteps:=3000000) (dsimp:=false) (disch:=first|omega|simp only[lnx];omega) only[↓ypre,ypost,↓reduceIte,reduceEqDiff,reduceAdd,reduceSub,reduceLeDiff,zz0,ynew,schV,o1]);try simp only[yback])
 generalize hH3:AH.new H2 _=H3
 obtain⟨hb3,p3,n3⟩:=new_facts hH3
 have s3:=s2.kp p3
 have k3:Kp n h H3:=((Kp.of p1).trans k2).trans (Kp.of p3)
 have g1:=pre_get p3 g1
 have sd3:SchD H1.length H3 v x:=KN.pre sd p3
 have vl:=sd3.now.1.len
 have fin:∀ (x':Sch) (v':Value) (h':AH),Kp n h h'→Src h0 h' n→SchD H1.length h' v' x'→SchB x'→NK v'→Q (schV x' v') (h'.put h.length ⟨[I64 x'.p,I64 x'.n,I64 x'.m,I64 x'.k,v'],26,false,true⟩):=fun x' v' h' kk ss sd' xb' nk'=>
  hQ x' v' _ (kk.putb (Nat.le_refl _)) (ss.putb (by omega) (by omega)) ((KN.put sd' (by omega)).mono (by omega)) xb' nk'
 by_cases c1:(x.ps.length:Int)>1
 case neg=>
  ((try simp (maxSteps:=3000000) (dsimp:=false) (disch:=first|omega|simp only[lnx];omega) only[↓ypre,ypost,↓reduceIte,reduceEqDiff,reduceAdd,reduceSub,reduceLeDiff,zz0,ynew,rd1_of hb3,rdn_of hb3,vl,decide_eq_false c1,yWG_un]);try simp only[yback])
  refine s_l01Bad (lo:=H1.length) s3 xb.1 (by omega) sd3 xb.2 nk fun x' v' H4 k4 s4 sd' xb' nk'=>?_
  have g1:=k4.get (by omega) g1
  have lg:=get_lt g1
  ((try simp (maxSteps:=3000000) (dsimp:=false) (disch:=first|omega|simp only[lnx];omega) only[↓ypre,ypost,↓reduceIte,reduceEqDiff,reduceAdd,reduceSub,reduceLeDiff,zz0,ynew,schV,nk'.one,wr_of g1,splice_eq,rdn_put_same]);try simp only[yback])
  exact fin x' v' H4 (k3.trans k4) s4 sd' xb' nk'
 ((try simp (maxSteps:=3000000) (dsimp:=false) (disch:=first|omega|simp only[lnx];omega) only[↓ypre,ypost,↓reduceIte,reduceEqDiff,reduceAdd,reduceSub,reduceLeDiff,zz0,ynew,rd1_of hb3,vl,decide_eq_true c1]);try simp only[yback])
 refine s_l01Next s3 fun r H4 k4 l4 s4 hr _=>?_
 have g1:=k4.get (by omega) g1
 have g3:=k4.get (by omega) hb3
 have sd4:SchD H1.length H4 v x:=KN.kp sd3 k4 (by omega)
 have k04:=k3.trans k4
 by_cases r0:r=0
 case neg=>
  ((try simp (maxSteps:=3000000) (dsimp:=false) (disch:=first|omega|simp only[lnx];omega) only[↓ypre,ypost,↓reduceIte,reduceEqDiff,reduceAdd,reduceSub,reduceLeDiff,zz0,ynew,decide_eq_false r0,rdn_of g3]);try simp only[yback])
  refine s_l01Bad (lo:=H1.length) s4 xb.1 (by omega) sd4 xb.2 nk fun x' v' H5 k5 s5 sd' xb' nk'=>?_
  have g1:=k5.get (by omega) g1
  have lg:=get_lt g1
  ((try simp (maxSteps:=3000000) (dsimp:=false) (disch:=first|omega|simp only[lnx];omega) only[↓ypre,ypost,↓reduceIte,reduceEqDiff,reduceAdd,reduceSub,reduceLeDiff,zz0,ynew,schV,nk'.one,wr_of g1,splice_eq,rdn_put_same]);try simp only[yback])
  exact fin x' v' H5 (k04.trans k5) s5 sd' xb' nk'
 have w27:Wid 27 x.ps:=sd4.now.1.widL
 ((try simp (maxSteps:=3000000) (dsimp:=false) (disch:=first|omega|simp only[lnx];omega) only[↓ypre,ypost,↓reduceIte,reduceEqDiff,reduceAdd,reduceSub,reduceLeDiff,zz0,ynew,decide_eq_true r0,fillL,zrep,rd1_of g3]);try simp only[yback])
 refine copy_zero sd4.now.1 (by omega) (by omega) fun H5 l5 p5 gB=>?_
 have s5:=s4.kp p5
 have g1:=pre_get p5 g1
 have g3:=pre_get p5 g3
 refine WO_cut (fun f:Fr=>f 0=srcP n∧f 2=.pointer (some ⟨h.length,0,none⟩)∧f 3=.pointer (some ⟨H2.length,0,none⟩)∧f 4=I64 x.ps.length∧f 25=.slice (some ⟨H4.length+1,0,none⟩) x.ps.length 27∧True) ⟨(by first|rfl|simp[upd_apply]),(by first|rfl|simp[upd_apply]),(by first|rfl|simp[upd_apply]),(by first|rfl|simp[upd_apply]),(by first|rfl|simp[upd_apply]),trivial⟩ ?_
 rintro f ⟨f0,f2,f3,f4,f25,-⟩
 ((try simp (maxSteps:=3000000) (dsimp:=false) (disch:=first|omega|simp only[lnx];omega) only[↓ypre,ypost,↓reduceIte,reduceEqDiff,reduceAdd,reduceSub,reduceLeDiff,zz0,ynew,f0,f2,f3,f4,f25]);try simp only[yback])
 refine s_l01Next s5 fun a H6 k6 l6 s6 ha _=>?_
 have ha:=ha (by omega)
 obtain⟨a,rfl⟩:∃ a':Nat,a=a':=⟨a.toNat,by omega⟩
 ((try simp (maxSteps:=3000000) (dsimp:=false) (disch:=first|omega|simp only[lnx];omega) only[↓ypre,ypost,↓reduceIte,reduceEqDiff,reduceAdd,reduceSub,reduceLeDiff,zz0,ynew,f0,f2,f3,f4,f25]);try simp only[yback])
 refine s_l01Next s6 fun b H7 k7 l7 s7 hb' _=>?_
 have hb':=hb' (by omega)
 obtain⟨b,rfl⟩:∃ a':Nat,b=a':=⟨b.toNat,by omega⟩
 have kA:=k6.trans k7
 have g1:=kA.get (by omega) g1
 have g3:=kA.get (by omega) g3
 have n3:=s3.lt
 have gB:=kA.get (by omega) gB
 refine WO_cut (fun f:Fr=>f 0=srcP n∧f 2=.pointer (some ⟨h.length,0,none⟩)∧f 3=.pointer (some ⟨H2.length,0,none⟩)∧f 5=.slice (some ⟨H4.length+1,0,none⟩) x.ps.length 27∧f 28=I64 a∧f 31=I64 b∧True) ⟨(by first|rfl|exact f0|simp[upd_apply,f0]),(by first|rfl|exact f2|simp[upd_apply,f2]),(by first|rfl|exact f3|simp[upd_apply,f3]),(by first|rfl|simp[upd_apply]),(by first|rfl|simp[upd_apply]),(by first|rfl|simp[upd_apply]),trivial⟩ ?_
 rintro f ⟨f0,f2,f3,f5,f28,f31,-⟩
 ((try simp (maxSteps:=3000000) (dsimp:=false) (disch:=first|omega|simp only[lnx];omega) only[↓ypre,ypost,↓reduceIte,reduceEqDiff,reduceAdd,reduceSub,reduceLeDiff,zz0,ynew,f0,f2,f3,f5,f28,f31]);try simp only[yback])
 refine WC_loop_inv (fun m f K1=>∃ (u:Nat) (L:List (List Int)),m=3-u∧u≤3∧f 0=srcP n∧f 2=.pointer (some ⟨h.length,0,none⟩)∧f 3=.pointer (some ⟨H2.length,0,none⟩)∧f 5=.slice (some ⟨H4.length+1,0,none⟩) x.ps.length 27∧f 6=I64 a∧f 7=I64 b∧f 8=I64 u∧(Kp n h K1)∧(Src h0 K1 n)∧(K1.get h.length=some ⟨_,_,false,true⟩)∧(K1.get H2.length=some ⟨_,_,false,true⟩)∧(K1.get (H4.length+1)=some ⟨cel .u8 L.flatten,53,false,false⟩)∧(Wid 27 L)∧(Byt 27 L)∧(L.length=x.ps.length)) ?_ (3-0) _ _ ⟨0,x.ps,rfl,by omega,(by first|rfl|exact f0|(simp[upd_apply];done)),(by first|rfl|exact f2|(simp[upd_apply];done)),(by first|rfl|exact f3|(simp[upd_apply];done)),(by first|rfl|exact f5|(simp[upd_apply];done)),(by first|rfl|simp[upd_apply]),(by first|rfl|simp[upd_apply]),(by first|rfl|simp[upd_apply]),(k04.trans (Kp.of p5)).trans kA,s7,g1,g3,gB,w27,sd4.now.2,rfl⟩
 rintro m f K1 ⟨u,L,rfl,hu,f0,f2,f3,f5,f6,f7,f8,kk,ss,g1,g3,gB,wL,bL,lL⟩
 by_cases hu:(u:Int)<3
 ·((try simp (maxSteps:=3000000) (dsimp:=false) (disch:=first|omega|simp only[lnx];omega) only[↓ypre,ypost,↓reduceIte,reduceEqDiff,reduceAdd,reduceSub,reduceLeDiff,zz0,ynew,f0,f2,f3,f5,f6,f7,f8,decide_eq_true hu]);try simp only[yback])
  have hu':u<3:=by omega
  have kkl:=kk.len
  refine s_l01Next ss fun r1 K2 k2' l2' s2' hr1 _=>?_
  have ltn:=ss.lt
  have g1:=k2'.get (by omega) g1
  have g3:=k2'.get (by omega) g3
  have gB:=k2'.get (by omega) gB
  have kk2:=kk.trans k2'
  have lgB2:=get_lt gB
  have lg32:=get_lt g3
  have lg12:=get_lt g1
  by_cases r1z:r1=0
  case neg=>
   ((try simp (maxSteps:=3000000) (dsimp:=false) (disch:=first|omega|simp only[lnx];omega) only[↓ypre,ypost,↓reduceIte,reduceEqDiff,reduceAdd,reduceSub,reduceLeDiff,zz0,ynew,f0,f2,f3,f5,f6,f7,f8,decide_eq_false r1z,wrap64_in]);try simp only[yback])
   refine InvQ_go (3-(u+1)) (by omega) ⟨(u+1),L,rfl,by omega,(by first|rfl|exact f0|(simp only[upd_apply];rfl)|(show I64 _=_;congr 1;omega)),(by first|rfl|exact f2|(simp only[upd_apply];rfl)|(show I64 _=_;congr 1;omega)),(by first|rfl|exact f3|(simp only[upd_apply];rfl)|(show I64 _=_;congr 1;omega)),(by first|rfl|exact f5|(simp only[upd_apply];rfl)|(show I64 _=_;congr 1;omega)),(by first|rfl|exact f6|(simp only[upd_apply];rfl)|(show I64 _=_;congr 1;omega)),(by first|rfl|exact f7|(simp only[upd_apply];rfl)|(show I64 _=_;congr 1;omega)),(by first|rfl|exact f8|(simp only[upd_apply];rfl)|(show I64 _=_;congr 1;omega)),kk2,s2',g1,g3,gB,wL,bL,lL⟩
  obtain⟨na,oa,ixa,rda⟩:=(show Els .u8 27 K2 (.slice (some ⟨H4.length+1,0,none⟩) x.ps.length 27) L from by rw[←lL];exact (blk_kN (lo:=0) gB wL (Nat.zero_le _)).now).at (i:=a) (by omega)
  have bya:=getD_byL wL bL (i:=a) (by omega)
  have ra:AH.rdn K2 na oa 27=some (cel .u8 (L.getD a [])):=by
   have:=rda.1 0 27 (by omega)
   rwa [Nat.add_zero,List.drop_zero,List.take_of_length_le (by have:=bya.1;omega)] at this
  ((try simp (maxSteps:=3000000) (dsimp:=false) (disch:=first|omega|simp only[lnx];omega) only[↓ypre,ypost,↓reduceIte,reduceEqDiff,reduceAdd,reduceSub,reduceLeDiff,zz0,ynew,f0,f2,f3,f5,f6,f7,f8,decide_eq_true r1z,ixa,ra]);try simp only[yback])
  refine s_l03Factor (q:=L.getD a []) bya hu' fun K3 p3'=>?_
  have byF0:=seg_by bya hu'
  have lF0:=byF0.1
  have kk3l:=kk2.len
  ((try simp (maxSteps:=3000000) (dsimp:=false) (disch:=first|omega|simp only[lnx];omega) only[↓ypre,ypost,↓reduceIte,reduceEqDiff,reduceAdd,reduceSub,reduceLeDiff,zz0,ynew,f0,f2,f3,f5,f6,f7,f8,aggV,cellsL_cel,cel_len,lF0,cel_all,zeros9,sp9q lF0,List.length_replicate]);try simp only[yback])
  generalize hK4:AH.new K3 _=K4
  obtain⟨gF,p4',n4'⟩:=new_facts hK4
  have P4:=p3'.trans p4'
  have g1:=pre_get P4 g1
  have g3:=pre_get P4 g3
  have gB:=pre_get P4 gB
  have s4':=s2'.kp P4
  have kk4:=kk2.trans (Kp.of P4)
  have q3:=pre_len p3'
  refine s_l01Next s4' fun r2 K5 k5' l5' s5' hr2 _=>?_
  have ln4:=s4'.lt
  have lg3:=get_lt g3
  have lgB:=get_lt gB
  have g1:=k5'.get (by omega) g1
  have g3:=k5'.get (by omega) g3
  have gB:=k5'.get (by omega) gB
  have gF:=k5'.get (by omega) gF
  have kk5:=kk4.trans k5'
  by_cases r2z:r2=0
  case neg=>
   have byF:=byF0
   have kkK:=kk5
   have ssK:=s5'
   obtain⟨nb,ob,ixb,rdb⟩:=(show Els .u8 27 K5 (.slice (some ⟨H4.length+1,0,none⟩) x.ps.length 27) L from by rw[←lL];exact (blk_kN (lo:=0) gB wL (Nat.zero_le _)).now).at (i:=b) (by omega)
   have byb:=getD_byL wL bL (i:=b) (by omega)
   have rb:AH.rdn K5 nb ob 27=some (cel .u8 (L.getD b [])):=by
    have:=rdb.1 0 27 (by omega)
    rwa [Nat.add_zero,List.drop_zero,List.take_of_length_le (by have:=byb.1;omega)] at this
   have tF:(cel .u8 (seg (L.getD a []) u)).take 9=cel .u8 (seg (L.getD a []) u):=List.take_of_length_le (by rw[cel_len,byF.1];exact Nat.le_refl _)
   have lF:=byF.1
   ((try simp (maxSteps:=3000000) (dsimp:=false) (disch:=first|omega|simp only[lnx];omega) only[↓ypre,ypost,↓reduceIte,reduceEqDiff,reduceAdd,reduceSub,reduceLeDiff,zz0,ynew,f0,f2,f3,f5,f6,f7,f8,decide_eq_false r2z,ixb,rb,rdn_of gF,cel_len,lF,tF]);try simp only[yback])
   refine s_l03With (q:=L.getD b []) (r:=seg (L.getD a []) u) byb byF (by omega) fun KZ pz=>?_
   have by3:=wth_by (f:=u) byb byF (by omega)
   have l3:=by3.1
   have sf:=splice_flat (k:=.u8) l3 wL (j:=b) (by omega)
   have fl:=flat_len wL
   have gBz:=pre_get pz gB
   have w3:AH.wr KZ (H4.length+1) (b*27) (cel .u8 (wth (L.getD b []) u (seg (L.getD a []) u)))=_:=wr_of gBz
   simp only[cel_len,l3,fl,sf] at w3
   rw[if_pos ⟨trivial,by omega⟩] at w3
   have ib:ixsV 27 (.slice (some ⟨H4.length+1,0,none⟩) x.ps.length 27) (I64 b)=some (.pointer (some ⟨H4.length+1,b*27,none⟩)):=by
    rw[ixsV_some,if_pos (by omega),Int.toNat_natCast,Nat.zero_add]
   ((try simp (maxSteps:=3000000) (dsimp:=false) (disch:=first|omega|simp only[lnx];omega) only[↓ypre,ypost,↓reduceIte,reduceEqDiff,reduceAdd,reduceSub,reduceLeDiff,zz0,ynew,f0,f2,f3,f5,f6,f7,f8,aggV,cellsL_cel,cel_all,cel_len,l3,ib,w3,wrap64_in]);try simp only[yback])
   refine InvQ_go (3-(u+1)) (by omega) ⟨(u+1),(L.set b (wth (L.getD b []) u (seg (L.getD a []) u))),rfl,by omega,(by first|rfl|exact f0|(simp only[upd_apply];rfl)|(show I64 _=_;congr 1;omega)),(by first|rfl|exact f2|(simp only[upd_apply];rfl)|(show I64 _=_;congr 1;omega)),(by first|rfl|exact f3|(simp only[upd_apply];rfl)|(show I64 _=_;congr 1;omega)),(by first|rfl|exact f5|(simp only[upd_apply];rfl)|(show I64 _=_;congr 1;omega)),(by first|rfl|exact f6|(simp only[upd_apply];rfl)|(show I64 _=_;congr 1;omega)),(by first|rfl|exact f7|(simp only[upd_apply];rfl)|(show I64 _=_;congr 1;omega)),(by first|rfl|exact f8|(simp only[upd_apply];rfl)|(show I64 _=_;congr 1;omega)),((kkK.trans (Kp.of pz)).putb (by omega)),((ssK.kp pz).putb (by omega) (by omega)),(by rw[get_put_ne (by omega)];exact pre_get pz g1),(by rw[get_put_ne (by omega)];exact pre_get pz g3),(get_put_same (get_lt gBz)),(wid_set wL l3),(byt_setq bL by3),(by rw[List.length_set];exact lL)⟩
  have tF0:(cel .u8 (seg (L.getD a []) u)).take 9=cel .u8 (seg (L.getD a []) u):=List.take_of_length_le (by rw[cel_len,lF0];exact Nat.le_refl _)
  ((try simp (maxSteps:=3000000) (dsimp:=false) (disch:=first|omega|simp only[lnx];omega) only[↓ypre,ypost,↓reduceIte,reduceEqDiff,reduceAdd,reduceSub,reduceLeDiff,zz0,ynew,f0,f2,f3,f5,f6,f7,f8,decide_eq_true r2z,rd1_of g3,rdn_of gF,cel_len,lF0,tF0,wrap64_in]);try simp only[yback])
  refine⟨⟨by omega,by omega⟩,?_⟩
  refine s_l01Next s5' fun r3 K6 k6' l6' s6' hr3 _=>?_
  have hr3:=hr3 (by omega)
  refine⟨⟨n,rfl,k6'⟩,?_⟩
  have g1:=k6'.get (by omega) g1
  have g3:=k6'.get (by omega) g3
  have gB:=k6'.get (by omega) gB
  have gF:=k6'.get (by omega) gF
  ((try simp (maxSteps:=3000000) (dsimp:=false) (disch:=first|omega|simp only[lnx];omega) only[↓ypre,ypost,↓reduceIte,reduceEqDiff,reduceAdd,reduceSub,reduceLeDiff,zz0,ynew,f0,f2,f3,f5,f6,f7,f8,wrap64_in]);try simp only[yback])
  refine s_l01Scale (q:=seg (L.getD a []) u) (k:=1+r3) zp byF0 (by omega) fun K7 p7'=>?_
  have byF:=scF_by (p:=x.p) (k:=1+r3) (q:=seg (L.getD a []) u) zp
  have gF:=pre_get p7' gF
  have wF:=wr_full (vs:=cel .u8 (scF x.p (seg (L.getD a []) u) (1+r3))) gF (by rw[cel_len,cel_len,lF0,byF.1])
  generalize hK8:AH.put K7 _ _=K8 at wF
  have lK8:K8.length=K7.length:=by rw[←hK8,len_put]
  have lgF:=get_lt gF
  have gF:AH.get K8 K3.length=some ⟨cel .u8 (scF x.p (seg (L.getD a []) u) (1+r3)),34,false,true⟩:=by rw[←hK8];exact get_put_same lgF
  have kp8:∀ m c,m≠K3.length→AH.get K7 m=some c→AH.get K8 m=some c:=fun m c hm g=>by rw[←hK8,get_put_ne (Ne.symm hm)];exact g
  have g1:=kp8 _ _ (by omega) (pre_get p7' g1)
  have g3:=kp8 _ _ (by omega) (pre_get p7' g3)
  have gB:=kp8 _ _ (by omega) (pre_get p7' gB)
  have kkK:Kp n h K8:=by rw[←hK8];exact ((kk5.trans k6').trans (Kp.of p7')).putb (by omega)
  have ssK:Src h0 K8 n:=by rw[←hK8];exact (s6'.kp p7').putb (by omega) (by omega)
  obtain⟨nb,ob,ixb,rdb⟩:=(show Els .u8 27 K8 (.slice (some ⟨H4.length+1,0,none⟩) x.ps.length 27) L from by rw[←lL];exact (blk_kN (lo:=0) gB wL (Nat.zero_le _)).now).at (i:=b) (by omega)
  have byb:=getD_byL wL bL (i:=b) (by omega)
  have rb:AH.rdn K8 nb ob 27=some (cel .u8 (L.getD b [])):=by
   have:=rdb.1 0 27 (by omega)
   rwa [Nat.add_zero,List.drop_zero,List.take_of_length_le (by have:=byb.1;omega)] at this
  have tF:(cel .u8 (scF x.p (seg (L.getD a []) u) (1+r3))).take 9=cel .u8 (scF x.p (seg (L.getD a []) u) (1+r3)):=List.take_of_length_le (by rw[cel_len,byF.1];exact Nat.le_refl _)
  have lF:=byF.1
  ((try simp (maxSteps:=3000000) (dsimp:=false) (disch:=first|omega|simp only[lnx];omega) only[↓ypre,ypost,↓reduceIte,reduceEqDiff,reduceAdd,reduceSub,reduceLeDiff,zz0,ynew,f0,f2,f3,f5,f6,f7,f8,aggV,cellsL_cel,cel_all,byF.1,wF,ixb,rb,rdn_of gF,cel_len,lF,tF]);try simp only[yback])
  refine s_l03With (q:=L.getD b []) (r:=scF x.p (seg (L.getD a []) u) (1+r3)) byb byF (by omega) fun KZ pz=>?_
  have by3:=wth_by (f:=u) byb byF (by omega)
  have l3:=by3.1
  have sf:=splice_flat (k:=.u8) l3 wL (j:=b) (by omega)
  have fl:=flat_len wL
  have gBz:=pre_get pz gB
  have w3:AH.wr KZ (H4.length+1) (b*27) (cel .u8 (wth (L.getD b []) u (scF x.p (seg (L.getD a []) u) (1+r3))))=_:=wr_of gBz
  simp only[cel_len,l3,fl,sf] at w3
  rw[if_pos ⟨trivial,by omega⟩] at w3
  have ib:ixsV 27 (.slice (some ⟨H4.length+1,0,none⟩) x.ps.length 27) (I64 b)=some (.pointer (some ⟨H4.length+1,b*27,none⟩)):=by
   rw[ixsV_some,if_pos (by omega),Int.toNat_natCast,Nat.zero_add]
  ((try simp (maxSteps:=3000000) (dsimp:=false) (disch:=first|omega|simp only[lnx];omega) only[↓ypre,ypost,↓reduceIte,reduceEqDiff,reduceAdd,reduceSub,reduceLeDiff,zz0,ynew,f0,f2,f3,f5,f6,f7,f8,aggV,cellsL_cel,cel_all,cel_len,l3,ib,w3,wrap64_in]);try simp only[yback])
  refine InvQ_go (3-(u+1)) (by omega) ⟨(u+1),(L.set b (wth (L.getD b []) u (scF x.p (seg (L.getD a []) u) (1+r3)))),rfl,by omega,(by first|rfl|exact f0|(simp only[upd_apply];rfl)|(show I64 _=_;congr 1;omega)),(by first|rfl|exact f2|(simp only[upd_apply];rfl)|(show I64 _=_;congr 1;omega)),(by first|rfl|exact f3|(simp only[upd_apply];rfl)|(show I64 _=_;congr 1;omega)),(by first|rfl|exact f5|(simp only[upd_apply];rfl)|(show I64 _=_;congr 1;omega)),(by first|rfl|exact f6|(simp only[upd_apply];rfl)|(show I64 _=_;congr 1;omega)),(by first|rfl|exact f7|(simp only[upd_apply];rfl)|(show I64 _=_;congr 1;omega)),(by first|rfl|exact f8|(simp only[upd_apply];rfl)|(show I64 _=_;congr 1;omega)),((kkK.trans (Kp.of pz)).putb (by omega)),((ssK.kp pz).putb (by omega) (by omega)),(by rw[get_put_ne (by omega)];exact pre_get pz g1),(by rw[get_put_ne (by omega)];exact pre_get pz g3),(get_put_same (get_lt gBz)),(wid_set wL l3),(byt_setq bL by3),(by rw[List.length_set];exact lL)⟩
 ·have l3E:=get_lt g3
  have l1E:=get_lt g1
  have lBE:=get_lt gB
  have kkl:=kk.len
  have sE:=ss.putb (m:=H2.length) (b:=⟨[I64 x.p,I64 x.n,I64 x.m,I64 x.k,.slice (some ⟨H4.length+1,0,none⟩) x.ps.length 27],26,false,true⟩) (by omega) (by omega)
  have kE:=kk.putb (m:=H2.length) (b:=⟨[I64 x.p,I64 x.n,I64 x.m,I64 x.k,.slice (some ⟨H4.length+1,0,none⟩) x.ps.length 27],26,false,true⟩) (by omega)
  have sdE:SchD H1.length (K1.put H2.length ⟨[I64 x.p,I64 x.n,I64 x.m,I64 x.k,.slice (some ⟨H4.length+1,0,none⟩) x.ps.length 27],26,false,true⟩) (.slice (some ⟨H4.length+1,0,none⟩) x.ps.length 27) (wps x L):=fun h2 d1 d2=>⟨by rw[←lL];exact blk_kN (lo:=H1.length) (by rw[get_put_ne (by omega)];exact gB) wL (by omega) h2 d1 d2,bL⟩
  have g1E:=(show AH.get (K1.put H2.length ⟨[I64 x.p,I64 x.n,I64 x.m,I64 x.k,.slice (some ⟨H4.length+1,0,none⟩) x.ps.length 27],26,false,true⟩) h.length=AH.get K1 h.length from get_put_ne (by omega)).trans g1
  ((try simp (maxSteps:=3000000) (dsimp:=false) (disch:=first|omega|simp only[lnx];omega) only[↓ypre,ypost,↓reduceIte,reduceEqDiff,reduceAdd,reduceSub,reduceLeDiff,zz0,ynew,f0,f2,f3,f5,f6,f7,f8,decide_eq_false hu,wr_of g3,splice_eq,rdn_put_same]);try simp only[yback])
  generalize AH.put K1 _ _=KE at *
  refine s_l01Bad (x:=wps x L) (lo:=H1.length) sE ⟨xb.1.p,xb.1.n,xb.1.m,xb.1.k,by unfold SmallX;show ((L.length:Nat):Int)≤_;rw[lL];exact xb.1.l⟩ (by have:=get_lt g1E;omega) sdE xb.2 (.inr ⟨_,_,_,rfl⟩) fun x' v' H8 k8 s8 sd' xb' nk'=>?_
  have g1:=k8.get (by omega) g1E
  have lg:=get_lt g1
  ((try simp (maxSteps:=3000000) (dsimp:=false) (disch:=first|omega|simp only[lnx];omega) only[↓ypre,ypost,↓reduceIte,reduceEqDiff,reduceAdd,reduceSub,reduceLeDiff,zz0,ynew,f0,f2,f3,f5,f6,f7,f8,schV,nk'.one,wr_of g1,splice_eq,rdn_put_same]);try simp only[yback])
  exact fin x' v' H8 (kE.trans k8) s8 sd' xb' nk'
end Go.Proofs.YtigpfopobpoamaaGreat.X

set_option linter.unusedVariables false
set_option linter.unusedSimpArgs false
set_option maxRecDepth 20000
set_option maxHeartbeats 4000000
namespace Go.Proofs.YtigpfopobpoamaaGreat.X
open Go Go.RowKit
def rmv (L:List (List Int)) (k:Nat):List (List Int):=L.take k++L.drop (k+1)
section
variable {L R:List (List Int)} {q r m:List Int} {a b c i k:Nat} {p:Int} {x:Sch}
theorem rmv_len (hk:k<L.length):(rmv L k).length=L.length-1:=by
 unfold rmv
 rw[List.length_append,List.length_take,List.length_drop]
 omega
theorem rmv_at (hi:i<k):(rmv L k).getD i []=L.getD i []:=by
 by_cases h:i<L.length
 ·unfold rmv
  rw[getD_app_l (by rw[List.length_take];omega),List.getD_eq_getElem?_getD,List.getElem?_take_of_lt hi,←List.getD_eq_getElem?_getD]
 ·unfold rmv
  rw[List.take_of_length_le (by omega),List.drop_of_length_le (by omega),List.append_nil]
theorem rmv_mem (h:q∈rmv L k):q∈L:=by
 unfold rmv at h
 rcases List.mem_append.1 h with h|h
 ·exact List.mem_of_mem_take h
 ·exact List.mem_of_mem_drop h
theorem split_at (hk:k<L.length):L=L.take k++L.getD k []::L.drop (k+1):=by
 rw[List.getD_eq_getElem?_getD,List.getElem?_eq_getElem hk,Option.getD_some,←List.drop_eq_getElem_cons hk,List.take_append_drop]
theorem rmv_sT (hk:k<L.length):sT (rmv L k) a b c+tm (L.getD k []) a b c=sT L a b c:=by
 have h:=congrArg (fun l=>sT l a b c) (split_at hk)
 simp only[sT_app,sT] at h
 unfold rmv
 rw[sT_app]
 omega
noncomputable def jn (p:Int) (L:List (List Int)) (i k:Nat) (m:List Int):List (List Int):=if hasZ m=true then rmv (rmv L k) i else (rmv L k).set i (nrm p m)
structure IsPair (p:Int) (L:List (List Int)) (i k:Nat) (m:List Int):Prop where
 ik:i<k
 kl:k<L.length
 m:mrg p (L.getD i []) (L.getD k [])=some m
 before:∀ i' k',i'<k'→k'<L.length→(i'<i∨i'=i∧k'<k)→mrg p (L.getD i' []) (L.getD k' [])=none
def NoPair (p:Int) (L:List (List Int)):Prop:=∀ i k,i<k→k<L.length→mrg p (L.getD i []) (L.getD k [])=none
theorem IsPair.uniq {i' k':Nat} {m':List Int} (h:IsPair p L i k m) (g:IsPair p L i' k' m'):i=i'∧k=k'∧m=m':=by
 have e:i=i'∧k=k':=by
  refine Decidable.byContradiction fun hne=>?_
  have:(i<i'∨i=i'∧k<k')∨(i'<i∨i'=i∧k'<k):=by omega
  rcases this with h1|h1
  ·have:=g.before i k h.ik h.kl h1
   rw[h.m] at this
   cases this
  ·have:=h.before i' k' g.ik g.kl h1
   rw[g.m] at this
   cases this
 obtain⟨rfl,rfl⟩:=e
 have:=h.m.symm.trans g.m
 cases this
 exact⟨rfl,rfl,rfl⟩
theorem IsPair.no (h:IsPair p L i k m) (g:NoPair p L):False:=by
 have:=g i k h.ik h.kl
 rw[h.m] at this
 cases this
inductive Red (p:Int):List (List Int)→List (List Int)→Prop
 | stop {L:List (List Int)}:NoPair p L→Red p L L
 | step {L R:List (List Int)} {i k:Nat} {m:List Int}:IsPair p L i k m→Red p (jn p L i k m) R→Red p L R
theorem Red.next (h:Red p L R) (g:IsPair p L i k m):Red p (jn p L i k m) R:=by
 cases h with
 | stop h=>exact (g.no h).elim
 | step h1 h2=>
  obtain⟨rfl,rfl,rfl⟩:=h1.uniq g
  exact h2
theorem Red.end (h:Red p L R) (g:NoPair p L):R=L:=by
 cases h with
 | stop h=>rfl
 | step h1 h2=>exact (h1.no g).elim
theorem jn_len (hk:k<L.length) (hi:i<k):(jn p L i k m).length<L.length:=by
 unfold jn
 split
 ·rw[rmv_len (by rw[rmv_len hk];omega),rmv_len hk]
  omega
 ·rw[List.length_set,rmv_len hk]
  omega
theorem pair_or:NoPair p L∨∃ i k m,IsPair p L i k m:=by
 by_cases h:∃ i k,i<k∧k<L.length∧mrg p (L.getD i []) (L.getD k [])≠none
 ·right
  have key:∀ N i,L.length-i=N→(∀ i' k',i'<i→i'<k'→k'<L.length→mrg p (L.getD i' []) (L.getD k' [])=none)→(∃ i k,i<k∧k<L.length∧mrg p (L.getD i []) (L.getD k [])≠none)→∃ i k m,IsPair p L i k m:=by
   intro N
   induction N with
   | zero=>
    rintro i hN hb ⟨i',k',h1,h2,h3⟩
    exact absurd (hb i' k' (by omega) h1 h2) h3
   | succ N ih=>
    intro i hN hb hex
    have key2:∀ M k,L.length-k=M→i<k→(∀ k',i<k'→k'<k→mrg p (L.getD i []) (L.getD k' [])=none)→(∃ i k m,IsPair p L i k m)∨∀ k',i<k'→k'<L.length→mrg p (L.getD i []) (L.getD k' [])=none:=by
     intro M
     induction M with
     | zero=>exact fun k hM hik hbk=>.inr fun k' h1 h2=>hbk k' h1 (by omega)
     | succ M ih2=>
      intro k hM hik hbk
      cases e:mrg p (L.getD i []) (L.getD k []) with
      | some m=>
       refine .inl ⟨i,k,m,hik,by omega,e,fun i' k' h1 h2 h3=>?_⟩
       rcases h3 with h3|⟨rfl,h3⟩
       ·exact hb i' k' h3 h1 h2
       ·exact hbk k' h1 h3
      | none=>
       refine ih2 (k+1) (by omega) (by omega) fun k' h1 h2=>?_
       by_cases h3:k'=k
       ·rw[h3];exact e
       ·exact hbk k' h1 (by omega)
    rcases key2 _ (i+1) rfl (by omega) (fun k' h1 h2=>by omega) with h1|h1
    ·exact h1
    ·refine ih (i+1) (by omega) (fun i' k' h2 h3 h4=>?_) hex
     by_cases h5:i'=i
     ·rw[h5];exact h1 k' (by omega) h4
     ·exact hb i' k' (by omega) h3 h4
  exact key _ 0 rfl (fun i' k' h1=>by omega) h
 ·left
  intro i k h1 h2
  refine Decidable.byContradiction fun h3=>h ⟨i,k,h1,h2,h3⟩
theorem red_ex:∀ (N:Nat) (L:List (List Int)),L.length≤N→∃ R,Red p L R
 | 0,L,h=>⟨L,.stop fun i k h1 h2=>by omega⟩
 | N+1,L,h=>by
  rcases pair_or (p:=p) (L:=L) with h1|⟨i,k,m,h1⟩
  ·exact⟨L,.stop h1⟩
  ·have:=jn_len (p:=p) (m:=m) h1.kl h1.ik
   obtain⟨R,hR⟩:=red_ex N (jn p L i k m) (by omega)
   exact⟨R,.step h1 hR⟩
noncomputable def redL (p:Int) (L:List (List Int)):List (List Int):=Classical.choose (red_ex (p:=p) L.length L (Nat.le_refl _))
theorem redL_red:Red p L (redL p L):=Classical.choose_spec (red_ex (p:=p) L.length L (Nat.le_refl _))
structure NL (x:Sch) (L:List (List Int)):Prop where
 g:GX (wps x L)
 n:∀ q∈L,Nm q
theorem GX.of {x:Sch} (hs:szX x=true) (hl:L.length≤30) (h:∀ q∈L,By 27 q∧okProd x q=true):GX (wps x L):=by
 have w:Wid 27 L:=fun q hq=>(h q hq).1.1
 refine⟨?_,w,(byt_iff w).2 fun q hq=>(h q hq).1⟩
 unfold isX
 rw[Bool.and_eq_true,Bool.and_eq_true]
 exact⟨⟨hs,decide_eq_true hl⟩,List.all_eq_true.2 fun q hq=>(h q hq).2⟩
theorem isX_parts {x:Sch} (h:isX x=true):szX x=true∧x.ps.length≤30∧∀ q∈x.ps,okProd x q=true:=by
 unfold isX at h
 rw[Bool.and_eq_true,Bool.and_eq_true] at h
 exact⟨h.1.1,of_decide_eq_true h.1.2,List.all_eq_true.1 h.2⟩
theorem GX.parts {x:Sch} (g:GX x):szX x=true∧x.ps.length≤30∧∀ q∈x.ps,By 27 q∧okProd x q=true:=by
 obtain⟨h1,h2,h3⟩:=isX_parts g.ok
 exact⟨h1,h2,fun q hq=>⟨(byt_iff g.w).1 g.b q hq,h3 q hq⟩⟩
theorem GX.pr {x:Sch} (g:GX x) (h:q∈x.ps):Pr x.p q:=by
 obtain⟨h1,h2⟩:=g.parts.2.2 q h
 exact Pr.of h1 h2
theorem szX_isP {x:Sch} (h:szX x=true):isP x.p=true:=by
 unfold szX at h
 simp only[Bool.and_eq_true] at h
 exact h.1.1.1
noncomputable def nrms (p:Int) (L:List (List Int)):List (List Int):=L.map (nrm p)
theorem nrms_sT (hp:isP p=true) (h:∀ q∈L,Pr p q) (ha:a<9) (hb:b<9) (hc:c<9):Cg p (sT (nrms p L) a b c) (sT L a b c):=by
 induction L with
 | nil=>exact .rfl'
 | cons q L ih=>
  show Cg p (tm (nrm p q) a b c+sT (nrms p L) a b c) _
  exact (nrm_tm hp (h q (by simp)) ha hb hc).add (ih fun r hr=>h r (by simp[hr]))
theorem nrms_NL {x:Sch} (g:GX x):NL x (nrms x.p x.ps)∧EqS x (wps x (nrms x.p x.ps)):=by
 obtain⟨h1,h2,h3⟩:=g.parts
 have hp:=szX_isP h1
 refine⟨⟨GX.of h1 (by unfold nrms;rw[List.length_map];exact h2) fun q hq=>?_,fun q hq=>?_⟩,⟨rfl,rfl,rfl,rfl⟩,fun a b c ha hb hc=>(nrms_sT hp (fun q hq=>g.pr hq) ha hb hc).symm⟩
 ·obtain⟨r,hr,rfl⟩:=List.mem_map.1 hq
  exact⟨(nrm_Pr hp (g.pr hr)).bb,nrm_ok hp (h3 r hr).1 (h3 r hr).2⟩
 ·obtain⟨r,hr,rfl⟩:=List.mem_map.1 hq
  exact nrm_Nm hp (g.pr hr)
theorem nrms_id {x:Sch} (n:NL x L):nrms x.p L=L:=by
 have hp:=szX_isP n.g.parts.1
 unfold nrms
 exact (List.map_congr_left (g:=id) fun q hq=>nrm_id hp (n.g.pr hq) (n.n q hq)).trans (List.map_id _)
theorem gd_mem {i:Nat} (hi:i<L.length):L.getD i []∈L:=by
 rw[List.getD_eq_getElem?_getD,List.getElem?_eq_getElem hi]
 exact List.getElem_mem hi
theorem pair_m {x:Sch} (n:NL x L) (h:IsPair x.p L i k m):By 27 m∧(∀ j,j<3→okForm x.p (pl x j) (seg m j)=true)∧(hasZ m=false→okProd x m=true):=by
 have hp:=isP_in (szX_isP n.g.parts.1)
 have hi:i<L.length:=Nat.lt_trans h.ik h.kl
 have qi:=n.g.parts.2.2 _ (gd_mem hi)
 have qk:=n.g.parts.2.2 _ (gd_mem h.kl)
 have ok:=mrg_ok hp.1 qi.1.1 (okProd_iff.1 qi.2).1 (okProd_iff.1 qk.2).1 h.m
 exact⟨mrg_by hp qi.1 h.m,ok,fun hz=>okProd_iff.2 ⟨ok,hz⟩⟩
theorem jn_NL {x:Sch} (n:NL x L) (h:IsPair x.p L i k m):NL x (jn x.p L i k m)∧EqS (wps x L) (wps x (jn x.p L i k m)):=by
 obtain⟨h1,h2,h3⟩:=n.g.parts
 have hP:isP x.p=true:=szX_isP h1
 have hi:i<L.length:=Nat.lt_trans h.ik h.kl
 obtain⟨mb,mo,mz⟩:=pair_m n h
 have hl:=jn_len (p:=x.p) (m:=m) h.kl h.ik
 have hm:∀ q∈jn x.p L i k m,(By 27 q∧okProd x q=true)∧Nm q:=fun q hq=>by
  unfold jn at hq
  split at hq
  ·have:=rmv_mem (rmv_mem hq)
   exact⟨h3 q this,n.n q this⟩
  ·rename_i hz
   rcases List.mem_or_eq_of_mem_set hq with hq|rfl
   ·have:=rmv_mem hq
    exact⟨h3 q this,n.n q this⟩
   ·have hz:hasZ m=false:=by simpa using hz
    have pm:=Pr.of mb (mz hz)
    exact⟨⟨(nrm_Pr hP pm).bb,nrm_ok hP mb (mz hz)⟩,nrm_Nm hP pm⟩
 refine⟨⟨GX.of h1 (by have:L.length≤30:=h2;omega) fun q hq=>(hm q hq).1,fun q hq=>(hm q hq).2⟩,⟨rfl,rfl,rfl,rfl⟩,fun a b c ha hb hc=>?_⟩
 show Cg x.p (sT L a b c) (sT (jn x.p L i k m) a b c)
 have e1:=rmv_sT (a:=a) (b:=b) (c:=c) h.kl
 have e2:Cg x.p (tm m a b c) (tm (L.getD i []) a b c+tm (L.getD k []) a b c):=mrg_tm (n.g.parts.2.2 _ (gd_mem hi)).1.1 h.m ha hb hc
 have li:i<(rmv L k).length:=by rw[rmv_len h.kl];have:=h.ik;have:=h.kl;omega
 unfold jn
 cases hz:hasZ m with
 | true=>
  rw[if_pos rfl]
  have e3:=rmv_sT (a:=a) (b:=b) (c:=c) li
  rw[rmv_at h.ik] at e3
  rw[tm_zero ha hb hc hz] at e2
  obtain⟨u,hu⟩:=e2
  exact⟨-u,by rw[Int.mul_neg];omega⟩
 | false=>
  rw[if_neg (by decide)]
  have e3:=sT_set (q:=nrm x.p m) (a:=a) (b:=b) (c:=c) li
  rw[rmv_at h.ik] at e3
  have e4:Cg x.p (tm (nrm x.p m) a b c) (tm (L.getD i []) a b c+tm (L.getD k []) a b c):=(nrm_tm hP (Pr.of mb (mz hz)) ha hb hc).trans e2
  obtain⟨u,hu⟩:=e4
  exact⟨-u,by rw[Int.mul_neg];omega⟩
theorem red_NL {x:Sch} (h:Red x.p L R) (n:NL x L):NL x R∧EqS (wps x L) (wps x R)∧R.length≤L.length∧NoPair x.p R:=by
 generalize hp:x.p=p at h
 induction h with
 | stop h=>exact⟨n,.rfl',Nat.le_refl _,h⟩
 | @step _ _ _ _ m' h1 h2 ih=>
  rw[←hp] at h1 h2 ih
  have hl:=jn_len (p:=x.p) (m:=m') h1.kl h1.ik
  obtain⟨n',e'⟩:=jn_NL n h1
  obtain⟨a1,a2,a3,a4⟩:=ih n'
  exact⟨a1,e'.trans a2,by omega,hp▸a4⟩
noncomputable def redX (x:Sch):Sch:=wps x (redL x.p (nrms x.p x.ps))
theorem redX_ok {x:Sch} (g:GX x):GX (redX x)∧EqS x (redX x)∧(redX x).ps.length≤x.ps.length:=by
 obtain⟨h1,h2⟩:=nrms_NL g
 obtain⟨n,e,l,-⟩:=red_NL (redL_red (p:=x.p) (L:=nrms x.p x.ps)) h1
 refine⟨n.g,h2.trans e,?_⟩
 have:(nrms x.p x.ps).length=x.ps.length:=List.length_map _
 show (redL x.p (nrms x.p x.ps)).length≤_
 omega
theorem redX_again {x:Sch} (g:GX x):redX (redX x)=redX x:=by
 obtain⟨h1,h2⟩:=nrms_NL g
 obtain⟨n,e,l,np⟩:=red_NL (redL_red (p:=x.p) (L:=nrms x.p x.ps)) h1
 have e1:nrms x.p (redL x.p (nrms x.p x.ps))=redL x.p (nrms x.p x.ps):=nrms_id n
 show wps x (redL x.p (nrms x.p (redL x.p (nrms x.p x.ps))))=wps x _
 rw[e1,redL_red.end np]
theorem told_jn {x:Sch} (n:NL x L) (h:IsPair x.p L i k m):nrms x.p (toldL ((rmv L k).set i m))=jn x.p L i k m:=by
 obtain⟨h1,h2,h3⟩:=n.g.parts
 have hP:isP x.p=true:=szX_isP h1
 obtain⟨mb,mo,mz⟩:=pair_m n h
 have li:i<(rmv L k).length:=by rw[rmv_len h.kl];have:=h.ik;have:=h.kl;omega
 have nz:∀ q∈rmv L k,hasZ q=false:=fun q hq=>(okProd_iff.1 (h3 q (rmv_mem hq)).2).2
 have idr:∀ l:List (List Int),(∀ q∈l,q∈rmv L k)→nrms x.p l=l:=fun l hl=>by
  unfold nrms
  exact (List.map_congr_left (g:=id) fun q hq=>nrm_id hP (n.g.pr (rmv_mem (hl q hq))) (n.n q (rmv_mem (hl q hq)))).trans (List.map_id _)
 have idt:∀ l:List (List Int),(∀ q∈l,q∈rmv L k)→toldL l=l:=fun l hl=>by
  unfold toldL
  rw[List.filter_eq_self]
  intro q hq
  rw[nz q (hl q hq)]
  rfl
 have st:(rmv L k).set i m=(rmv L k).take i++m::(rmv L k).drop (i+1):=by rw[List.set_eq_take_append_cons_drop,if_pos li]
 have ta:∀ q∈(rmv L k).take i,q∈rmv L k:=fun q hq=>List.mem_of_mem_take hq
 have td:∀ q∈(rmv L k).drop (i+1),q∈rmv L k:=fun q hq=>List.mem_of_mem_drop hq
 have t1:=idt _ ta
 have t2:=idt _ td
 unfold jn
 rw[st]
 cases hz:hasZ m with
 | true=>
  rw[if_pos rfl]
  have:toldL ((rmv L k).take i++m::(rmv L k).drop (i+1))=rmv (rmv L k) i:=by
   unfold toldL at t1 t2 ⊢
   rw[List.filter_append,List.filter_cons,if_neg (by simp[hz]),t1,t2]
   rfl
  rw[this]
  exact idr _ fun q hq=>rmv_mem hq
 | false=>
  rw[if_neg (by decide),List.set_eq_take_append_cons_drop,if_pos li]
  have:toldL ((rmv L k).take i++m::(rmv L k).drop (i+1))=(rmv L k).take i++m::(rmv L k).drop (i+1):=by
   unfold toldL at t1 t2 ⊢
   rw[List.filter_append,List.filter_cons,if_pos (by simp[hz]),t1,t2]
  rw[this]
  have i1:=idr _ ta
  have i2:=idr _ td
  unfold nrms at i1 i2 ⊢
  rw[List.map_append,List.map_cons,i1,i2]
end
end Go.Proofs.YtigpfopobpoamaaGreat.X

set_option linter.unusedVariables false
set_option linter.unusedSimpArgs false
set_option maxRecDepth 20000
set_option maxHeartbeats 4000000
namespace Go.Proofs.YtigpfopobpoamaaGreat.X
open Go Go.RowKit
open Nat (reduceEqDiff reduceAdd reduceSub reduceLeDiff)
theorem lead_at:∀ {q:List Int} {i:Nat},(∀ j,j<i→q.getD j 0=0)→q.getD i 0≠0→lead q=q.getD i 0
 | [],i,_,h=>by simp at h
 | a::l,0,_,h=>by
  rw[List.getD_cons_zero] at h ⊢
  rw[lead,if_neg h]
 | a::l,i+1,h0,h=>by
  have:=h0 0 (by omega)
  rw[List.getD_cons_zero] at this
  rw[List.getD_cons_succ] at h ⊢
  rw[lead,if_pos this]
  exact lead_at (fun j hj=>by have:=h0 (j+1) (by omega);rwa [List.getD_cons_succ] at this) h
theorem lead_no:∀ {q:List Int},(∀ j,j<q.length→q.getD j 0=0)→lead q=0
 | [],_=>rfl
 | a::l,h=>by
  have:=h 0 (by simp)
  rw[List.getD_cons_zero] at this
  rw[lead,if_pos this]
  exact lead_no fun j hj=>by have:=h (j+1) (by simpa using hj);rwa [List.getD_cons_succ] at this
theorem i_first {q:List Int} {h:AH} {Q:Value→AH→Prop} (hq:By 9 q) (hQ:∀ h',h<+:h'→Q (I64 (lead q)) h'):WF S 95 [aggV .u8 q] h Q:=by
 refine WF_fn (fn:=c95) rfl rfl ?_
 dsimp only[c95,oO,oM,oS,oG,oK,oE,oL,oF,oX,oN]
 have q9:=hq.1
 have tq:(cel .u8 q).take 9=cel .u8 q:=List.take_of_length_le (by rw[cel_len,q9];exact Nat.le_refl _)
 ((try simp (maxSteps:=3000000) (dsimp:=false) (disch:=first|omega|simp only[lnx];omega) only[↓ypre,ypost,↓reduceIte,reduceEqDiff,reduceAdd,reduceSub,reduceLeDiff,zz0,ynew,aggV,cellsL_cel,cel_all]);try simp only[yback])
 generalize hH1:AH.new h _=H1
 obtain⟨hb1,p1,n1⟩:=new_facts hH1
 ((try simp (maxSteps:=3000000) (dsimp:=false) (disch:=first|omega|simp only[lnx];omega) only[↓ypre,ypost,↓reduceIte,reduceEqDiff,reduceAdd,reduceSub,reduceLeDiff,zz0,ynew,rdn_of hb1,cel_len,q9,tq]);try simp only[yback])
 refine WC_loop_inv (fun m f K1=>∃ (i:Nat),m=9-i∧i≤9∧f 5=.agg (cel .u8 q).toArray∧f 6=I64 i∧K1=H1∧((∀ j,j<i→q.getD j 0=0))) ?_ (9-0) _ _ ⟨0,rfl,by omega,(by first|rfl|simp[upd_apply]),(by first|rfl|simp[upd_apply]),rfl,(fun _ h=>absurd h (Nat.not_lt_zero _))⟩
 rintro m f K1 ⟨i,rfl,hi,f5,f6,rfl,no⟩
 by_cases hlt:(i:Int)<9
 ·have g1:=idx1V_cel (k:=.u8) (q:=q) (n:=9) (j:=i) (kk:=.i64) (by omega) (by omega)
  have b1:=hq.2 i (by omega)
  by_cases c:q.getD i 0≠0
  ·((try simp (maxSteps:=3000000) (dsimp:=false) (disch:=first|omega|simp only[lnx];omega) only[↓ypre,ypost,↓reduceIte,reduceEqDiff,reduceAdd,reduceSub,reduceLeDiff,zz0,ynew,f5,f6,decide_eq_true hlt,↓WX_idx1,g1,decide_eq_true c,wrap64_in]);try simp only[yback])
   rw[lead_at no c] at hQ
   exact hQ _ p1
  ·((try simp (maxSteps:=3000000) (dsimp:=false) (disch:=first|omega|simp only[lnx];omega) only[↓ypre,ypost,↓reduceIte,reduceEqDiff,reduceAdd,reduceSub,reduceLeDiff,zz0,ynew,f5,f6,decide_eq_true hlt,↓WX_idx1,g1,decide_eq_false c,wrap64_in]);try simp only[yback])
   refine InvQ_go (9-(i+1)) (by omega) ⟨(i+1),rfl,by omega,(by first|rfl|exact f5|(simp only[upd_apply];rfl)|(show I64 _=_;congr 1;omega)),(by first|rfl|exact f6|(simp only[upd_apply];rfl)|(show I64 _=_;congr 1;omega)),rfl,(step_all no (Decidable.not_not.1 c))⟩
 ·((try simp (maxSteps:=3000000) (dsimp:=false) (disch:=first|omega|simp only[lnx];omega) only[↓ypre,ypost,↓reduceIte,reduceEqDiff,reduceAdd,reduceSub,reduceLeDiff,zz0,ynew,f5,f6,decide_eq_false hlt]);try simp only[yback])
  rw[lead_no fun j hj=>no j (by omega)] at hQ
  exact hQ _ p1
theorem i_multiple {p k:Int} {q:List Int} {h:AH} {Q:Value→AH→Prop} (hp:2≤p∧p≤5) (hq:By 9 q) (hk:0≤k∧k≤1000) (hQ:∀ h',h<+:h'→Q (aggV .u8 (scF p q k)) h'):WF S 96 [I64 p,aggV .u8 q,I64 k] h Q:=by
 refine WF_fn (fn:=c96) rfl rfl ?_
 dsimp only[c96,oO,oM,oS,oG,oK,oE,oL,oF,oX,oN]
 have q9:=hq.1
 have tq:(cel .u8 q).take 9=cel .u8 q:=List.take_of_length_le (by rw[cel_len,q9];exact Nat.le_refl _)
 ((try simp (maxSteps:=3000000) (dsimp:=false) (disch:=first|omega|simp only[lnx];omega) only[↓ypre,ypost,↓reduceIte,reduceEqDiff,reduceAdd,reduceSub,reduceLeDiff,zz0,ynew,aggV,cellsL_cel,cel_all]);try simp only[yback])
 generalize hH1:AH.new h _=H1
 obtain⟨hb1,p1,n1⟩:=new_facts hH1
 generalize hH2:AH.new H1 _=H2
 obtain⟨hb2,p2,n2⟩:=new_facts hH2
 have g1:=pre_get p2 hb1
 ((try simp (maxSteps:=3000000) (dsimp:=false) (disch:=first|omega|simp only[lnx];omega) only[↓ypre,ypost,↓reduceIte,reduceEqDiff,reduceAdd,reduceSub,reduceLeDiff,zz0,ynew,fillL,zeros9z,cel_all,rdn_of g1,cel_len,q9,tq]);try simp only[yback])
 refine i_sum (a:=z9) (b:=q) hp z9_by hq hk fun H3 p3=>?_
 have g2:=pre_get p3 hb2
 have l2:=get_lt g2
 have sl:(scF p q k).length=9:=scF_len
 have e:addF p z9 q k 9=scF p q k:=rfl
 have w9:=wr_full (vs:=cel .u8 (scF p q k)) g2 (by rw[cel_len,sl];rfl)
 have ts:(cel .u8 (scF p q k)).take 9=cel .u8 (scF p q k):=List.take_of_length_le (by rw[cel_len,sl];exact Nat.le_refl _)
 rw[e]
 ((try simp (maxSteps:=3000000) (dsimp:=false) (disch:=first|omega|simp only[lnx];omega) only[↓ypre,ypost,↓reduceIte,reduceEqDiff,reduceAdd,reduceSub,reduceLeDiff,zz0,ynew,aggV,cellsL_cel,cel_len,sl,cel_all,w9,rdn_put_same,ts]);try simp only[yback])
 exact hQ _ (pre_put (p1.trans (p2.trans p3)) (by omega))
theorem Pr.b9 {p:Int} {q:List Int} (h:Pr p q) {j:Nat} (hj:j<3):By 9 (seg q j):=seg_by h.bb hj
theorem rd_sg {h:AH} {n f:Nat} {q:List Int} {e:TypeId} {ro full:Bool} (g:h.get n=some ⟨cel .u8 q,e,ro,full⟩) (hq:q.length=27) (hf:f<3):∀ o,o=f*9→h.rdn n o 9=some (cel .u8 (seg q f)):=fun o e=>by
 rw[e]
 exact rd_seg g hq hf
theorem i_normal {p:Int} {q:List Int} {h:AH} {Q:Value→AH→Prop} (hp:isP p=true) (hq:Pr p q) (hQ:∀ h',h<+:h'→Q (aggV .u8 (nrm p q)) h'):WF S 71 [I64 p,aggV .u8 q] h Q:=by
 refine WF_fn (fn:=c71) rfl rfl ?_
 dsimp only[c71,oO,oM,oS,oG,oK,oE,oL,oF,oX,oN]
 have pp:=isP_in hp
 have q27:=hq.bb.1
 have ld0:=hq.ld (j:=0) (by omega)
 have ld1:=hq.ld (j:=1) (by omega)
 have iv0:=inv_spec hp ld0
 have iv1:=inv_spec hp ld1
 have c0:(cel .u8 q).take 9=cel .u8 (seg q 0):=by have:=cel_seg (q:=q) (f:=0);rwa [Nat.zero_mul,List.drop_zero] at this
 ((try simp (maxSteps:=3000000) (dsimp:=false) (disch:=first|omega|simp only[lnx];omega) only[↓ypre,ypost,↓reduceIte,reduceEqDiff,reduceAdd,reduceSub,reduceLeDiff,zz0,ynew,aggV,cellsL_cel,cel_all,cel_len,q27,c0]);try simp only[yback])
 generalize hH1:AH.new h _=H1
 obtain⟨hb1,p1,n1⟩:=new_facts hH1
 generalize hH2:AH.new H1 _=H2
 obtain⟨hb2,p2,n2⟩:=new_facts hH2
 have g1:=pre_get p2 hb1
 refine i_first (hq.b9 (by omega)) fun H3 p3=>⟨p3,?_⟩
 have g1:=pre_get p3 g1
 ((try simp (maxSteps:=3000000) (dsimp:=false) (disch:=first|omega|simp only[lnx];omega) only[↓ypre,ypost,↓reduceIte,reduceEqDiff,reduceAdd,reduceSub,reduceLeDiff,zz0,ynew,rd_sg g1 q27 (f:=1) (by omega) 9 rfl]);try simp only[yback])
 refine i_first (hq.b9 (by omega)) fun H4 p4=>?_
 have g1:=pre_get p4 g1
 ((try simp (maxSteps:=3000000) (dsimp:=false) (disch:=first|omega|simp only[lnx];omega) only[↓ypre,ypost,↓reduceIte,reduceEqDiff,reduceAdd,reduceSub,reduceLeDiff,zz0,ynew,rd_sg g1 q27 (f:=0) (by omega) 0 rfl]);try simp only[yback])
 refine i_inverse pp ld0 iv0 ?_
 refine⟨List.prefix_refl _,?_⟩
 ((try simp (maxSteps:=3000000) (dsimp:=false) (disch:=first|omega|simp only[lnx];omega) only[↓ypre,ypost,↓reduceIte,reduceEqDiff,reduceAdd,reduceSub,reduceLeDiff,zz0,ynew]);try simp only[yback])
 refine i_multiple (q:=seg q 0) pp (hq.b9 (by omega)) (by have:=iv0.1;have:=iv0.2.1;omega) fun H5 p5=>⟨p5,?_⟩
 have g1:=pre_get p5 g1
 ((try simp (maxSteps:=3000000) (dsimp:=false) (disch:=first|omega|simp only[lnx];omega) only[↓ypre,ypost,↓reduceIte,reduceEqDiff,reduceAdd,reduceSub,reduceLeDiff,zz0,ynew,rd_sg g1 q27 (f:=1) (by omega) 9 rfl]);try simp only[yback])
 refine i_inverse pp ld1 iv1 ?_
 refine⟨List.prefix_refl _,?_⟩
 ((try simp (maxSteps:=3000000) (dsimp:=false) (disch:=first|omega|simp only[lnx];omega) only[↓ypre,ypost,↓reduceIte,reduceEqDiff,reduceAdd,reduceSub,reduceLeDiff,zz0,ynew]);try simp only[yback])
 refine i_multiple (q:=seg q 1) pp (hq.b9 (by omega)) (by have:=iv1.1;have:=iv1.2.1;omega) fun H6 p6=>⟨p6,?_⟩
 have g1:=pre_get p6 g1
 have m1:=mul_in1 (a:=lead (seg q 0)) (b:=lead (seg q 1)) (A:=5) (B:=5) (by omega) (by omega)
 have m2:=tmod_nn (a:=lead (seg q 0)*lead (seg q 1)) (J:=p) (by omega) (by omega)
 ((try simp (maxSteps:=3000000) (dsimp:=false) (disch:=first|omega|simp only[lnx];omega) only[↓ypre,ypost,↓reduceIte,reduceEqDiff,reduceAdd,reduceSub,reduceLeDiff,zz0,ynew,rd_sg g1 q27 (f:=2) (by omega) 18 rfl,wrap64_in,bin_rem (show p≠0 by omega)]);try simp only[yback])
 refine i_multiple (q:=seg q 2) pp (hq.b9 (by omega)) (by omega) fun H7 p7=>?_
 rw[scF_cong (k':=lead (seg q 0)*lead (seg q 1)) pp.1 (hq.b9 (by omega)).1 (Cg.tmod _ _)]
 have g2:=pre_get (p3.trans (p4.trans (p5.trans (p6.trans p7)))) hb2
 have a9:(scF p (seg q 0) (inv p (lead (seg q 0)))).length=9:=scF_len
 have b9:(scF p (seg q 1) (inv p (lead (seg q 1)))).length=9:=scF_len
 have c9:(scF p (seg q 2) (lead (seg q 0)*lead (seg q 1))).length=9:=scF_len
 obtain⟨sa,sb,sc⟩:=sp27 a9 b9 c9
 have n27:=(nrm_Pr hp hq).bb.1
 have w27:=wr_full (vs:=cel .u8 (nrm p q)) g2 (by rw[cel_len,n27];rfl)
 have t27:(cel .u8 (nrm p q)).take 27=cel .u8 (nrm p q):=List.take_of_length_le (by rw[cel_len,n27];exact Nat.le_refl _)
 have l2:=get_lt g2
 have en:scF p (seg q 0) (inv p (lead (seg q 0)))++scF p (seg q 1) (inv p (lead (seg q 1)))++scF p (seg q 2) (lead (seg q 0)*lead (seg q 1))=nrm p q:=rfl
 rw[en] at sc
 ((try simp (maxSteps:=3000000) (dsimp:=false) (disch:=first|omega|simp only[lnx];omega) only[↓ypre,ypost,↓reduceIte,reduceEqDiff,reduceAdd,reduceSub,reduceLeDiff,zz0,ynew,aggV,cellsL_cel,cel_len,a9,b9,c9,zeros27,sa,sb,sc,cel_all,n27,List.length_replicate,w27,rdn_put_same,t27]);try simp only[yback])
 exact hQ _ (pre_put (p1.trans (p2.trans (p3.trans (p4.trans (p5.trans (p6.trans p7)))))) (by omega))
theorem nrms_next {p:Int} {L:List (List Int)} {i:Nat} (hi:i<L.length):nrms p (L.take (i+1))=nrms p (L.take i)++[nrm p (L.getD i [])]:=by
 unfold nrms
 rw[take_next (d:=[]) hi,List.map_append]
 rfl
theorem i_normals {x:Sch} {v:Value} {h:AH} {Q:Value→AH→Prop} (g:GX x) (hv:Prods h v x.ps) (hQ:∀ w h',h<+:h'→OwnP h.length h' w (nrms x.p x.ps)→Q (schV (wps x (nrms x.p x.ps)) w) h'):WF S 28 [schV x v] h Q:=by
 refine WF_fn (fn:=c28) rfl rfl ?_
 dsimp only[c28,oO,oM,oS,oG,oK,oE,oL,oF,oX,oN]
 have o1:=hv.one
 obtain⟨hs,h30,hall⟩:=g.parts
 have hP:=szX_isP hs
 ((try simp (maxSteps:=3000000) (dsimp:=false) (disch:=first|omega|simp only[lnx];omega) only[↓ypre,ypost,↓reduceIte,reduceEqDiff,reduceAdd,reduceSub,reduceLeDiff,zz0,ynew,schV,o1,fillL,zrep]);try simp only[yback])
 generalize hH1:AH.new h _=H1
 obtain⟨hb1,p1,n1⟩:=new_facts hH1
 generalize hH2:AH.new H1 _=H2
 obtain⟨hb2,p2,n2⟩:=new_facts hH2
 generalize hH3:AH.new H2 _=H3
 obtain⟨hb3,p3,n3⟩:=new_facts hH3
 have g1:=pre_get (p2.trans p3) hb1
 have g2:=pre_get p3 hb2
 have P3:=p1.trans (p2.trans p3)
 have vl:=hv.1.len
 have w0:Wid 27 (nrms x.p (x.ps.take 0)):=fun q hq=>by simp[nrms] at hq
 ((try simp (maxSteps:=3000000) (dsimp:=false) (disch:=first|omega|simp only[lnx];omega) only[↓ypre,ypost,↓reduceIte,reduceEqDiff,reduceAdd,reduceSub,reduceLeDiff,zz0,ynew,rd1_of g1,vl]);try simp only[yback])
 refine WC_loop_inv (fun m f K1=>∃ (i:Nat) (kb:Nat) (fu:Bool),m=x.ps.length-i∧i≤x.ps.length∧f 1=.pointer (some ⟨h.length,0,none⟩)∧f 2=.pointer (some ⟨H1.length,0,none⟩)∧f 3=.slice (some ⟨kb,0,none⟩) (nrms x.p (x.ps.take i)).length 27∧f 8=v∧f 9=I64 x.ps.length∧f 10=I64 i∧(h<+:K1)∧(K1.get h.length=some ⟨[I64 x.p,I64 x.n,I64 x.m,I64 x.k,v],26,false,true⟩)∧(K1.get H1.length=some ⟨_,_,false,true⟩)∧(K1.get kb=some ⟨cel .u8 (nrms x.p (x.ps.take i)).flatten,53,false,fu⟩)∧(H2.length≤kb)∧(Wid 27 (nrms x.p (x.ps.take i)))) ?_ (x.ps.length-0) _ _ ⟨0,H2.length,true,rfl,by omega,(by first|rfl|simp[upd_apply]),(by first|rfl|simp[upd_apply]),(by first|rfl|simp[upd_apply]),(by first|rfl|simp[upd_apply]),(by first|rfl|simp[upd_apply]),(by first|rfl|simp[upd_apply]),P3,g1,g2,hb3,Nat.le_refl _,w0⟩
 rintro m f K1 ⟨i,kb,fu,rfl,hi,f1,f2,f3,f8,f9,f10,pp,g1,g2,gb,hk,wn⟩
 by_cases hlt:(i:Int)<x.ps.length
 ·have hi:i<x.ps.length:=by omega
  obtain⟨nn,off,ix,rd⟩:=((hv.pre pp).1).at hi
  have prq:=g.pr (gd_mem hi)
  have q27:=prq.bb.1
  have r27:AH.rdn K1 nn off 27=some (cel .u8 (x.ps.getD i [])):=by
   have:=rd.1 0 27 (by omega)
   rwa [Nat.add_zero,List.drop_zero,List.take_of_length_le (by omega)] at this
  have t27:(cel .u8 (x.ps.getD i [])).take 27=cel .u8 (x.ps.getD i []):=List.take_of_length_le (by rw[cel_len,q27];exact Nat.le_refl _)
  ((try simp (maxSteps:=3000000) (dsimp:=false) (disch:=first|omega|simp only[lnx];omega) only[↓ypre,ypost,↓reduceIte,reduceEqDiff,reduceAdd,reduceSub,reduceLeDiff,zz0,ynew,f1,f2,f3,f8,f9,f10,decide_eq_true hlt,ix,r27,cel_all,cel_len,q27,sp27z q27,zrep27,splice_27 q27]);try simp only[yback])
  generalize hJ1:AH.new K1 _=J1
  obtain⟨b1,s1,m1⟩:=new_facts hJ1
  ((try simp (maxSteps:=3000000) (dsimp:=false) (disch:=first|omega|simp only[lnx];omega) only[↓ypre,ypost,↓reduceIte,reduceEqDiff,reduceAdd,reduceSub,reduceLeDiff,zz0,ynew,f1,f2,f3,f8,f9,f10,rd1_of (pre_get s1 g1),rdn_of b1,cel_len,q27,t27]);try simp only[yback])
  refine i_normal hP prq fun J2 s2=>?_
  have n27:=(nrm_Pr hP prq).bb.1
  have tn:(cel .u8 (nrm x.p (x.ps.getD i []))).take 27=cel .u8 (nrm x.p (x.ps.getD i [])):=List.take_of_length_le (by rw[cel_len,n27];exact Nat.le_refl _)
  have S2:=s1.trans s2
  have ln:(nrms x.p (x.ps.take i)).length=i:=by unfold nrms;rw[List.length_map,List.length_take];omega
  ((try simp (maxSteps:=3000000) (dsimp:=false) (disch:=first|omega|simp only[lnx];omega) only[↓ypre,ypost,↓reduceIte,reduceEqDiff,reduceAdd,reduceSub,reduceLeDiff,zz0,ynew,f1,f2,f3,f8,f9,f10,aggV,cellsL_cel,cel_len,n27,zrep27,sp27z n27,fillL,cel_all,List.append_nil,List.length_replicate]);try simp only[yback])
  refine app_kp (bytes:=27) (pre_get S2 gb) wn n27 (by omega) (by omega) fun H' l' k' g' w'=>?_
  have lkb:=get_lt gb
  have hS:=pre_len S2
  have g1:=k'.get (by omega) (pre_get S2 g1)
  have g2:=k'.get (by omega) (pre_get S2 g2)
  ((try simp (maxSteps:=3000000) (dsimp:=false) (disch:=first|omega|simp only[lnx];omega) only[↓ypre,ypost,↓reduceIte,reduceEqDiff,reduceAdd,reduceSub,reduceLeDiff,zz0,ynew,f1,f2,f3,f8,f9,f10,wrap64_in]);try simp only[yback])
  rw[←nrms_next hi] at g' w'
  refine InvQ_go (x.ps.length-(i+1)) (by omega) ⟨(i+1),(J2.length+1),false,rfl,by omega,(by first|rfl|exact f1|(simp only[upd_apply];rfl)|(show I64 _=_;congr 1;omega)),(by first|rfl|exact f2|(simp only[upd_apply];rfl)|(show I64 _=_;congr 1;omega)),(by rw[nrms_next hi,List.length_append];rfl),(by first|rfl|exact f8|(simp only[upd_apply];rfl)|(show I64 _=_;congr 1;omega)),(by first|rfl|exact f9|(simp only[upd_apply];rfl)|(show I64 _=_;congr 1;omega)),(by first|rfl|exact f10|(simp only[upd_apply];rfl)|(show I64 _=_;congr 1;omega)),(k'.pre (pp.trans S2) (by omega)),g1,g2,g',(by omega),w'⟩
 ·have ei:i=x.ps.length:=by omega
  subst ei
  rw[List.take_length] at gb wn f3
  ((try simp (maxSteps:=3000000) (dsimp:=false) (disch:=first|omega|simp only[lnx];omega) only[↓ypre,ypost,↓reduceIte,reduceEqDiff,reduceAdd,reduceSub,reduceLeDiff,zz0,ynew,f1,f2,f3,f8,f9,f10,decide_eq_false hlt,rdn_of g1]);try simp only[yback])
  refine i_with (x:=x) (L:=nrms x.p x.ps) (v:=v) o1 rfl rfl fun H4 p4=>?_
  have g2:=pre_get p4 g2
  have l2:=get_lt g2
  have gb:=pre_get p4 gb
  have ln:(nrms x.p x.ps).length=x.ps.length:=List.length_map _
  ((try simp (maxSteps:=3000000) (dsimp:=false) (disch:=first|omega|simp only[lnx];omega) only[↓ypre,ypost,↓reduceIte,reduceEqDiff,reduceAdd,reduceSub,reduceLeDiff,zz0,ynew,f1,f2,f3,f8,f9,f10,schV,wr_of g2,splice_eq,rdn_put_same]);try simp only[yback])
  exact hQ _ _ (pre_put (pp.trans p4) (by omega)) ⟨wn,.inr ⟨kb,fu,rfl,by omega,by rw[get_put_ne (by omega)];exact gb⟩⟩
theorem i_times {p:Int} {fa ga:List Int} {h:AH} {Q:Value→AH→Prop} (hp:isP p=true) (hf:Fm p fa) (hz:isZ fa=false) (bf:By 9 fa) (bg:By 9 ga) (lg:0≤lead ga) (hQ:∀ h',h<+:h'→Q (I64 (tms p fa ga)) h'):WF S 98 [I64 p,aggV .u8 fa,aggV .u8 ga] h Q:=by
 refine WF_fn (fn:=c98) rfl rfl ?_
 dsimp only[c98,oO,oM,oS,oG,oK,oE,oL,oF,oX,oN]
 have pp:=isP_in hp
 obtain⟨P,rfl⟩:∃ P:Nat,p=P:=⟨p.toNat,by omega⟩
 have f9:=bf.1
 have g9:=bg.1
 have tf:(cel .u8 fa).take 9=cel .u8 fa:=List.take_of_length_le (by rw[cel_len,f9];exact Nat.le_refl _)
 have tg:(cel .u8 ga).take 9=cel .u8 ga:=List.take_of_length_le (by rw[cel_len,g9];exact Nat.le_refl _)
 ((try simp (maxSteps:=3000000) (dsimp:=false) (disch:=first|omega|simp only[lnx];omega) only[↓ypre,ypost,↓reduceIte,reduceEqDiff,reduceAdd,reduceSub,reduceLeDiff,zz0,ynew,aggV,cellsL_cel,cel_all]);try simp only[yback])
 generalize hH1:AH.new h _=H1
 obtain⟨hb1,p1,n1⟩:=new_facts hH1
 generalize hH2:AH.new H1 _=H2
 obtain⟨hb2,p2,n2⟩:=new_facts hH2
 have g1:=pre_get p2 hb1
 refine WC_loop_inv (fun m f K1=>∃ (i:Nat),m=P-i∧i≤P∧f 0=I64 P∧f 4=.pointer (some ⟨h.length,0,none⟩)∧f 5=.pointer (some ⟨H1.length,0,none⟩)∧f 7=I64 i∧(H2<+:K1)∧(1≤i)∧((∀ s:Int,1≤s→s<i→scF P fa s≠ga))) ?_ (P-1) _ _ ⟨1,rfl,by omega,(by first|rfl|simp[upd_apply]),(by first|rfl|simp[upd_apply]),(by first|rfl|simp[upd_apply]),(by first|rfl|simp[upd_apply]),List.prefix_refl _,Nat.le_refl _,(fun s h1 h2=>by omega)⟩
 rintro m f K1 ⟨i,rfl,hi,f0,f4,f5,f7,pp2,h1,no⟩
 by_cases hlt:(i:Int)<P
 ·((try simp (maxSteps:=3000000) (dsimp:=false) (disch:=first|omega|simp only[lnx];omega) only[↓ypre,ypost,↓reduceIte,reduceEqDiff,reduceAdd,reduceSub,reduceLeDiff,zz0,ynew,f0,f4,f5,f7,decide_eq_true hlt,rdn_of (pre_get pp2 g1),cel_len,f9,tf]);try simp only[yback])
  refine i_multiple (k:=i) pp bf (by omega) fun K2 p3=>⟨p3,?_⟩
  have g2:=pre_get (pp2.trans p3) hb2
  have e:=eqaV_cel (k:=.u8) (n:=9) (scF_len (p:=P) (f:=fa) (k:=i)) g9 (by omega)
  by_cases hs:scF P fa i=ga
  ·have e2:(scF P fa i==ga)=true:=by simpa using hs
   rw[e2] at e
   ((try simp (maxSteps:=3000000) (dsimp:=false) (disch:=first|omega|simp only[lnx];omega) only[↓ypre,ypost,↓reduceIte,reduceEqDiff,reduceAdd,reduceSub,reduceLeDiff,zz0,ynew,f0,f4,f5,f7,aggV,rdn_of g2,cel_len,g9,tg,e]);try simp only[yback])
   rw[tms_some hp hf hz (by omega) hs] at hQ
   exact hQ _ (p1.trans (p2.trans (pp2.trans p3)))
  ·have e2:(scF P fa i==ga)=false:=by simpa using hs
   rw[e2] at e
   ((try simp (maxSteps:=3000000) (dsimp:=false) (disch:=first|omega|simp only[lnx];omega) only[↓ypre,ypost,↓reduceIte,reduceEqDiff,reduceAdd,reduceSub,reduceLeDiff,zz0,ynew,f0,f4,f5,f7,aggV,rdn_of g2,cel_len,g9,tg,e,wrap64_in]);try simp only[yback])
   refine InvQ_go (P-(i+1)) (by omega) ⟨(i+1),rfl,by omega,(by first|rfl|exact f0|(simp only[upd_apply];rfl)|(show I64 _=_;congr 1;omega)),(by first|rfl|exact f4|(simp only[upd_apply];rfl)|(show I64 _=_;congr 1;omega)),(by first|rfl|exact f5|(simp only[upd_apply];rfl)|(show I64 _=_;congr 1;omega)),(by first|rfl|exact f7|(simp only[upd_apply];rfl)|(show I64 _=_;congr 1;omega)),(pp2.trans p3),(by omega),?_⟩
   intro s h1 h2
   by_cases h3:s<i
   ·exact no s h1 h3
   ·have:s=i:=by omega
    rw[this]
    exact hs
 ·((try simp (maxSteps:=3000000) (dsimp:=false) (disch:=first|omega|simp only[lnx];omega) only[↓ypre,ypost,↓reduceIte,reduceEqDiff,reduceAdd,reduceSub,reduceLeDiff,zz0,ynew,f0,f4,f5,f7,decide_eq_false hlt]);try simp only[yback])
  rw[tms_none hp hf hz lg fun s h1 h2=>no s h1 (by omega)] at hQ
  exact hQ _ (p1.trans (p2.trans pp2))
theorem beq_seg {a b:List Int}:(a==b)=decide (a=b):=by
 by_cases h:a=b<;>simp[h]
theorem mrg_1 {p:Int} {q r:List Int} (h:seg q 0=seg r 0∧seg q 1=seg r 1):mrg p q r=some (wth q 2 (addF p (seg q 2) (seg r 2) 1 9)):=by unfold mrg;rw[if_pos h]
theorem mrg_2 {p:Int} {q r:List Int} (h:¬ (seg q 0=seg r 0∧seg q 1=seg r 1)) (h2:seg q 0=seg r 0∧tms p (seg q 2) (seg r 2)≠0):mrg p q r=some (wth q 1 (addF p (seg q 1) (seg r 1) (tms p (seg q 2) (seg r 2)) 9)):=by unfold mrg;rw[if_neg h,if_pos h2]
theorem mrg_3 {p:Int} {q r:List Int} (h:¬ (seg q 0=seg r 0∧seg q 1=seg r 1)) (h2:¬ (seg q 0=seg r 0∧tms p (seg q 2) (seg r 2)≠0)) (h3:seg q 1=seg r 1∧tms p (seg q 2) (seg r 2)≠0):mrg p q r=some (wth q 0 (addF p (seg q 0) (seg r 0) (tms p (seg q 2) (seg r 2)) 9)):=by unfold mrg;rw[if_neg h,if_neg h2,if_pos h3]
theorem mrg_4 {p:Int} {q r:List Int} (h:¬ (seg q 0=seg r 0∧seg q 1=seg r 1)) (h2:¬ (seg q 0=seg r 0∧tms p (seg q 2) (seg r 2)≠0)) (h3:¬ (seg q 1=seg r 1∧tms p (seg q 2) (seg r 2)≠0)):mrg p q r=none:=by unfold mrg;rw[if_neg h,if_neg h2,if_neg h3]
theorem i_merged {p:Int} {q r:List Int} {h:AH} {Q:Value→AH→Prop} (hp:isP p=true) (hq:Pr p q) (hr:Pr p r) (hQ:∀ m h',h<+:h'→mrg p q r=some m→Q (.tuple #[aggV .u8 m,.bool true]) h')
  (hN:∀ h',h<+:h'→mrg p q r=none→Q (.tuple #[aggV .u8 (List.replicate 27 0),.bool false]) h'):WF S 72 [I64 p,aggV .u8 q,aggV .u8 r] h Q:=by
 refine WF_fn (fn:=c72) rfl rfl ?_
 dsimp only[c72,oO,oM,oS,oG,oK,oE,oL,oF,oX,oN]
 have pp:=isP_in hp
 have q27:=hq.bb.1
 have r27:=hr.bb.1
 have c0:∀ {q:List Int},(cel .u8 q).take 9=cel .u8 (seg q 0):=fun {q}=>by have:=cel_seg (q:=q) (f:=0);rwa [Nat.zero_mul,List.drop_zero] at this
 have c2:∀ {q:List Int},((cel .u8 q).drop 18).take 9=cel .u8 (seg q 2):=fun {q}=>cel_seg (f:=2)
 ((try simp (maxSteps:=3000000) (dsimp:=false) (disch:=first|omega|simp only[lnx];omega) only[↓ypre,ypost,↓reduceIte,reduceEqDiff,reduceAdd,reduceSub,reduceLeDiff,zz0,ynew,aggV,cellsL_cel,cel_all,cel_len,q27,r27,c2,zeros27]);try simp only[yback])
 generalize hH1:AH.new h _=H1
 obtain⟨hb1,p1,n1⟩:=new_facts hH1
 generalize hH2:AH.new H1 _=H2
 obtain⟨hb2,p2,n2⟩:=new_facts hH2
 generalize hH3:AH.new H2 _=H3
 obtain⟨hb3,p3,n3⟩:=new_facts hH3
 have ldr:=hr.ld (j:=2) (by omega)
 refine i_times hp (hq.f 2 (by omega)) (hq.z 2 (by omega)) (hq.b9 (by omega)) (hr.b9 (by omega)) (by omega) fun H4 p4=>?_
 have g1:=pre_get (p2.trans (p3.trans p4)) hb1
 have g2:=pre_get (p3.trans p4) hb2
 have g3:=pre_get p4 hb3
 have P4:=p1.trans (p2.trans (p3.trans p4))
 have ti:=tms_in (f:=seg q 2) (g:=seg r 2) pp.1 (by omega) (by have:=(inv_spec hp (hq.ld (j:=2) (by omega))).1;omega)
 have l1:=get_lt g1
 have l3:=get_lt g3
 have q4:=pre_len p4
 have e0:=eqaV_cel (k:=.u8) (seg_n9 q27 (show 0<3 by omega)) (seg_n9 r27 (show 0<3 by omega)) (by omega)
 have e1:=eqaV_cel (k:=.u8) (seg_n9 q27 (show 1<3 by omega)) (seg_n9 r27 (show 1<3 by omega)) (by omega)
 rw[beq_seg] at e0 e1
 have a0:=rd_sg g1 q27 (f:=0) (by omega) 0 rfl
 have b0:=rd_sg g2 r27 (f:=0) (by omega) 0 rfl
 have a1:=rd_sg g1 q27 (f:=1) (by omega) 9 rfl
 have b1:=rd_sg g2 r27 (f:=1) (by omega) 9 rfl
 have a2:=rd_sg g1 q27 (f:=2) (by omega) 18 rfl
 have b2:=rd_sg g2 r27 (f:=2) (by omega) 18 rfl
 have wz:=wr_full (vs:=cel .u8 (List.replicate 27 0)) g3 (by rw[cel_len])
 have tz:(cel .u8 (List.replicate 27 0)).take 27=cel .u8 (List.replicate 27 0):=rfl
 by_cases hA0:seg q 0=seg r 0
 ·by_cases hA1:seg q 1=seg r 1
  ·skip
   ((try simp (maxSteps:=3000000) (dsimp:=false) (disch:=first|omega|simp only[lnx];omega) only[↓ypre,ypost,↓reduceIte,reduceEqDiff,reduceAdd,reduceSub,reduceLeDiff,zz0,ynew,a0,b0,e0,decide_eq_true hA0,a1,b1,e1,decide_eq_true hA1,a2,b2]);try simp only[yback])
   refine i_sum (k:=1) pp (hq.b9 (j:=2) (by omega)) (hr.b9 (j:=2) (by omega)) (by omega) fun H5 p5=>?_
   have ad:=addF_by (k:=1) (b:=seg r 2) (i:=9) pp (hq.b9 (j:=2) (by omega)) (Nat.le_refl _)
   have g15:=pre_get p5 g1
   have g35:=pre_get p5 g3
   have w1:AH.wr H5 h.length 18 (cel .u8 (addF p (seg q 2) (seg r 2) (1) 9))=_:=wr_seg g15 q27 ad.1 (f:=2) (by omega)
   generalize hH6:AH.put H5 _ _=H6 at w1
   have l15:=get_lt g15
   have g16:H6.get h.length=some ⟨cel .u8 (wth q 2 (addF p (seg q 2) (seg r 2) (1) 9)),53,false,true⟩:=by rw[←hH6];exact get_put_same l15
   have g36:=(show AH.get H6 H2.length=AH.get H5 H2.length from by rw[←hH6];exact get_put_ne (by omega)).trans g35
   have m27:=wth_len (f:=2) q27 ad.1 (by omega)
   have t27:(cel .u8 (wth q 2 (addF p (seg q 2) (seg r 2) (1) 9))).take 27=cel .u8 (wth q 2 (addF p (seg q 2) (seg r 2) (1) 9)):=List.take_of_length_le (by rw[cel_len,m27];exact Nat.le_refl _)
   have w27:=wr_full (vs:=cel .u8 (wth q 2 (addF p (seg q 2) (seg r 2) (1) 9))) g36 (by rw[cel_len,m27];rfl)
   have l36:=get_lt g36
   have P6:h<+:H6:=by rw[←hH6];exact pre_put (P4.trans p5) (Nat.le_refl _)
   ((try simp (maxSteps:=3000000) (dsimp:=false) (disch:=first|omega|simp only[lnx];omega) only[↓ypre,ypost,↓reduceIte,reduceEqDiff,reduceAdd,reduceSub,reduceLeDiff,zz0,ynew,aggV,cellsL_cel,cel_len,ad.1,cel_all,w1,rdn_of g16,m27,t27,w27,rdn_put_same]);try simp only[yback])
   exact hQ _ _ (pre_put P6 (by omega)) (mrg_1 ⟨hA0,hA1⟩)
  ·by_cases ht:tms p (seg q 2) (seg r 2)>0
   ·skip
    ((try simp (maxSteps:=3000000) (dsimp:=false) (disch:=first|omega|simp only[lnx];omega) only[↓ypre,ypost,↓reduceIte,reduceEqDiff,reduceAdd,reduceSub,reduceLeDiff,zz0,ynew,a0,b0,e0,decide_eq_true hA0,a1,b1,e1,decide_eq_false hA1,decide_eq_true ht]);try simp only[yback])
    refine i_sum (k:=tms p (seg q 2) (seg r 2)) pp (hq.b9 (j:=1) (by omega)) (hr.b9 (j:=1) (by omega)) (by omega) fun H5 p5=>?_
    have ad:=addF_by (k:=tms p (seg q 2) (seg r 2)) (b:=seg r 1) (i:=9) pp (hq.b9 (j:=1) (by omega)) (Nat.le_refl _)
    have g15:=pre_get p5 g1
    have g35:=pre_get p5 g3
    have w1:AH.wr H5 h.length 9 (cel .u8 (addF p (seg q 1) (seg r 1) (tms p (seg q 2) (seg r 2)) 9))=_:=wr_seg g15 q27 ad.1 (f:=1) (by omega)
    generalize hH6:AH.put H5 _ _=H6 at w1
    have l15:=get_lt g15
    have g16:H6.get h.length=some ⟨cel .u8 (wth q 1 (addF p (seg q 1) (seg r 1) (tms p (seg q 2) (seg r 2)) 9)),53,false,true⟩:=by rw[←hH6];exact get_put_same l15
    have g36:=(show AH.get H6 H2.length=AH.get H5 H2.length from by rw[←hH6];exact get_put_ne (by omega)).trans g35
    have m27:=wth_len (f:=1) q27 ad.1 (by omega)
    have t27:(cel .u8 (wth q 1 (addF p (seg q 1) (seg r 1) (tms p (seg q 2) (seg r 2)) 9))).take 27=cel .u8 (wth q 1 (addF p (seg q 1) (seg r 1) (tms p (seg q 2) (seg r 2)) 9)):=List.take_of_length_le (by rw[cel_len,m27];exact Nat.le_refl _)
    have w27:=wr_full (vs:=cel .u8 (wth q 1 (addF p (seg q 1) (seg r 1) (tms p (seg q 2) (seg r 2)) 9))) g36 (by rw[cel_len,m27];rfl)
    have l36:=get_lt g36
    have P6:h<+:H6:=by rw[←hH6];exact pre_put (P4.trans p5) (Nat.le_refl _)
    ((try simp (maxSteps:=3000000) (dsimp:=false) (disch:=first|omega|simp only[lnx];omega) only[↓ypre,ypost,↓reduceIte,reduceEqDiff,reduceAdd,reduceSub,reduceLeDiff,zz0,ynew,aggV,cellsL_cel,cel_len,ad.1,cel_all,w1,rdn_of g16,m27,t27,w27,rdn_put_same]);try simp only[yback])
    exact hQ _ _ (pre_put P6 (by omega)) (mrg_2 (fun x=>hA1 x.2) ⟨hA0,by omega⟩)
   ·skip
    ((try simp (maxSteps:=3000000) (dsimp:=false) (disch:=first|omega|simp only[lnx];omega) only[↓ypre,ypost,↓reduceIte,reduceEqDiff,reduceAdd,reduceSub,reduceLeDiff,zz0,ynew,a0,b0,e0,decide_eq_true hA0,a1,b1,e1,decide_eq_false hA1,decide_eq_false ht,yWG_un,fillL,zeros27,cel_all,cel_len,List.length_replicate,wz,rdn_put_same,tz]);try simp only[yback])
    exact hN _ (pre_put P4 (by omega)) (mrg_4 (fun x=>hA1 x.2) (fun x=>x.2 (by omega)) (fun x=>hA1 x.1))
 ·by_cases hA1:seg q 1=seg r 1
  ·by_cases ht:tms p (seg q 2) (seg r 2)>0
   ·skip
    ((try simp (maxSteps:=3000000) (dsimp:=false) (disch:=first|omega|simp only[lnx];omega) only[↓ypre,ypost,↓reduceIte,reduceEqDiff,reduceAdd,reduceSub,reduceLeDiff,zz0,ynew,a0,b0,e0,decide_eq_false hA0,yWG_un,a1,b1,e1,decide_eq_true hA1,decide_eq_true ht]);try simp only[yback])
    refine i_sum (k:=tms p (seg q 2) (seg r 2)) pp (hq.b9 (j:=0) (by omega)) (hr.b9 (j:=0) (by omega)) (by omega) fun H5 p5=>?_
    have ad:=addF_by (k:=tms p (seg q 2) (seg r 2)) (b:=seg r 0) (i:=9) pp (hq.b9 (j:=0) (by omega)) (Nat.le_refl _)
    have g15:=pre_get p5 g1
    have g35:=pre_get p5 g3
    have w1:AH.wr H5 h.length 0 (cel .u8 (addF p (seg q 0) (seg r 0) (tms p (seg q 2) (seg r 2)) 9))=_:=wr_seg g15 q27 ad.1 (f:=0) (by omega)
    generalize hH6:AH.put H5 _ _=H6 at w1
    have l15:=get_lt g15
    have g16:H6.get h.length=some ⟨cel .u8 (wth q 0 (addF p (seg q 0) (seg r 0) (tms p (seg q 2) (seg r 2)) 9)),53,false,true⟩:=by rw[←hH6];exact get_put_same l15
    have g36:=(show AH.get H6 H2.length=AH.get H5 H2.length from by rw[←hH6];exact get_put_ne (by omega)).trans g35
    have m27:=wth_len (f:=0) q27 ad.1 (by omega)
    have t27:(cel .u8 (wth q 0 (addF p (seg q 0) (seg r 0) (tms p (seg q 2) (seg r 2)) 9))).take 27=cel .u8 (wth q 0 (addF p (seg q 0) (seg r 0) (tms p (seg q 2) (seg r 2)) 9)):=List.take_of_length_le (by rw[cel_len,m27];exact Nat.le_refl _)
    have w27:=wr_full (vs:=cel .u8 (wth q 0 (addF p (seg q 0) (seg r 0) (tms p (seg q 2) (seg r 2)) 9))) g36 (by rw[cel_len,m27];rfl)
    have l36:=get_lt g36
    have P6:h<+:H6:=by rw[←hH6];exact pre_put (P4.trans p5) (Nat.le_refl _)
    ((try simp (maxSteps:=3000000) (dsimp:=false) (disch:=first|omega|simp only[lnx];omega) only[↓ypre,ypost,↓reduceIte,reduceEqDiff,reduceAdd,reduceSub,reduceLeDiff,zz0,ynew,aggV,cellsL_cel,cel_len,ad.1,cel_all,w1,rdn_of g16,m27,t27,w27,rdn_put_same]);try simp only[yback])
    exact hQ _ _ (pre_put P6 (by omega)) (mrg_3 (fun x=>hA0 x.1) (fun x=>hA0 x.1) ⟨hA1,by omega⟩)
   ·skip
    ((try simp (maxSteps:=3000000) (dsimp:=false) (disch:=first|omega|simp only[lnx];omega) only[↓ypre,ypost,↓reduceIte,reduceEqDiff,reduceAdd,reduceSub,reduceLeDiff,zz0,ynew,a0,b0,e0,decide_eq_false hA0,yWG_un,a1,b1,e1,decide_eq_true hA1,decide_eq_false ht,fillL,zeros27,cel_all,cel_len,List.length_replicate,wz,rdn_put_same,tz]);try simp only[yback])
    exact hN _ (pre_put P4 (by omega)) (mrg_4 (fun x=>hA0 x.1) (fun x=>hA0 x.1) (fun x=>x.2 (by omega)))
  ·skip
   ((try simp (maxSteps:=3000000) (dsimp:=false) (disch:=first|omega|simp only[lnx];omega) only[↓ypre,ypost,↓reduceIte,reduceEqDiff,reduceAdd,reduceSub,reduceLeDiff,zz0,ynew,a0,b0,e0,decide_eq_false hA0,yWG_un,a1,b1,e1,decide_eq_false hA1,fillL,zeros27,cel_all,cel_len,List.length_replicate,wz,rdn_put_same,tz]);try simp only[yback])
   exact hN _ (pre_put P4 (by omega)) (mrg_4 (fun x=>hA0 x.1) (fun x=>hA0 x.1) (fun x=>hA1 x.1))
theorem s_l03Lead {q:List Int} {h:AH} {Q:Value→AH→Prop} (hq:By 9 q) (hQ:∀ h',h<+:h'→Q (I64 (lead q)) h'):WF S 106 [aggV .u8 q] h Q:=by
 refine WF_fn (fn:=c106) rfl rfl ?_
 dsimp only[c106,oO,oM,oS,oG,oK,oE,oL,oF,oX,oN]
 have q9:=hq.1
 ((try simp (maxSteps:=3000000) (dsimp:=false) (disch:=first|omega|simp only[lnx];omega) only[↓ypre,ypost,↓reduceIte,reduceEqDiff,reduceAdd,reduceSub,reduceLeDiff,zz0,ynew,aggV,cellsL_cel,cel_all]);try simp only[yback])
 generalize hH1:AH.new h _=H1
 obtain⟨hb1,p1,n1⟩:=new_facts hH1
 refine WC_loop_inv (fun m f K1=>∃ (i:Nat),m=9-i∧i≤9∧f 1=.pointer (some ⟨h.length,0,none⟩)∧f 3=I64 i∧K1=H1∧((∀ j,j<i→q.getD j 0=0))) ?_ (9-0) _ _ ⟨0,rfl,by omega,(by first|rfl|simp[upd_apply]),(by first|rfl|simp[upd_apply]),rfl,(fun _ h=>absurd h (Nat.not_lt_zero _))⟩
 rintro m f K1 ⟨i,rfl,hi,f1,f3,rfl,no⟩
 by_cases hlt:(i:Int)<9
 ·have c1:=cel_get (k:=.u8) (q:=q) (j:=i) (by omega)
  have ia:∀ m:Nat,ixaV 9 1 (.pointer (some ⟨m,0,none⟩)) (I64 i)=_:=fun m=>ixaV_ptr ⟨by omega,by omega⟩
  have b1:=hq.2 i (by omega)
  by_cases c:q.getD i 0≠0
  ·((try simp (maxSteps:=3000000) (dsimp:=false) (disch:=first|omega|simp only[lnx];omega) only[↓ypre,ypost,↓reduceIte,reduceEqDiff,reduceAdd,reduceSub,reduceLeDiff,zz0,ynew,f1,f3,decide_eq_true hlt,↓WX_ixa,ia,Int.toNat_natCast,Nat.mul_one,rd1_of hb1,c1,decide_eq_true c,wrap64_in]);try simp only[yback])
   rw[lead_at no c] at hQ
   exact hQ _ p1
  ·((try simp (maxSteps:=3000000) (dsimp:=false) (disch:=first|omega|simp only[lnx];omega) only[↓ypre,ypost,↓reduceIte,reduceEqDiff,reduceAdd,reduceSub,reduceLeDiff,zz0,ynew,f1,f3,decide_eq_true hlt,↓WX_ixa,ia,Int.toNat_natCast,Nat.mul_one,rd1_of hb1,c1,decide_eq_false c,wrap64_in]);try simp only[yback])
   refine InvQ_go (9-(i+1)) (by omega) ⟨(i+1),rfl,by omega,(by first|rfl|exact f1|(simp only[upd_apply];rfl)|(show I64 _=_;congr 1;omega)),(by first|rfl|exact f3|(simp only[upd_apply];rfl)|(show I64 _=_;congr 1;omega)),rfl,(step_all no (Decidable.not_not.1 c))⟩
 ·((try simp (maxSteps:=3000000) (dsimp:=false) (disch:=first|omega|simp only[lnx];omega) only[↓ypre,ypost,↓reduceIte,reduceEqDiff,reduceAdd,reduceSub,reduceLeDiff,zz0,ynew,f1,f3,decide_eq_false hlt]);try simp only[yback])
  rw[lead_no fun j hj=>no j (by omega)] at hQ
  exact hQ _ p1
theorem wth3 {q a b c:List Int} (hq:q.length=27) (ha:a.length=9) (hb:b.length=9) (hc:c.length=9):wth (wth (wth q 0 a) 1 b) 2 c=a++b++c:=by
 have l1:=wth_len (f:=0) hq ha (by omega)
 have l2:=wth_len (f:=1) l1 hb (by omega)
 have l3:=wth_len (f:=2) l2 hc (by omega)
 have s0:seg (wth (wth (wth q 0 a) 1 b) 2 c) 0=a:=by rw[seg_wth l2 hc (by omega) (by omega),if_neg (by decide),seg_wth l1 hb (by omega) (by omega),if_neg (by decide),seg_wth hq ha (by omega) (by omega),if_pos rfl]
 have s1:seg (wth (wth (wth q 0 a) 1 b) 2 c) 1=b:=by rw[seg_wth l2 hc (by omega) (by omega),if_neg (by decide),seg_wth l1 hb (by omega) (by omega),if_pos rfl]
 have s2:seg (wth (wth (wth q 0 a) 1 b) 2 c) 2=c:=by rw[seg_wth l2 hc (by omega) (by omega),if_pos rfl]
 rw[←seg3 l3,s0,s1,s2]
theorem s_l03Normal {p:Int} {q:List Int} {h:AH} {Q:Value→AH→Prop} (hp:isP p=true) (hq:Pr p q) (hQ:∀ h',h<+:h'→Q (aggV .u8 (nrm p q)) h'):WF S 90 [I64 p,aggV .u8 q] h Q:=by
 refine WF_fn (fn:=c90) rfl rfl ?_
 dsimp only[c90,oO,oM,oS,oG,oK,oE,oL,oF,oX,oN]
 have pp:=isP_in hp
 have q27:=hq.bb.1
 have ld0:=hq.ld (j:=0) (by omega)
 have ld1:=hq.ld (j:=1) (by omega)
 have iv0:=inv_spec hp ld0
 have iv1:=inv_spec hp ld1
 have c0:(cel .u8 q).take 9=cel .u8 (seg q 0):=by have:=cel_seg (q:=q) (f:=0);rwa [Nat.zero_mul,List.drop_zero] at this
 ((try simp (maxSteps:=3000000) (dsimp:=false) (disch:=first|omega|simp only[lnx];omega) only[↓ypre,ypost,↓reduceIte,reduceEqDiff,reduceAdd,reduceSub,reduceLeDiff,zz0,ynew,aggV,cellsL_cel,cel_all,cel_len,q27,c0,zeros27]);try simp only[yback])
 generalize hH1:AH.new h _=H1
 obtain⟨hb1,p1,n1⟩:=new_facts hH1
 generalize hH2:AH.new H1 _=H2
 obtain⟨hb2,p2,n2⟩:=new_facts hH2
 have g1:=pre_get p2 hb1
 ((try simp (maxSteps:=3000000) (dsimp:=false) (disch:=first|omega|simp only[lnx];omega) only[↓ypre,ypost,↓reduceIte,reduceEqDiff,reduceAdd,reduceSub,reduceLeDiff,zz0,ynew,rd_sg g1 q27 (f:=0) (by omega) 0 rfl]);try simp only[yback])
 refine s_l03Lead (hq.b9 (by omega)) fun H3 p3=>⟨p3,?_⟩
 have g1:=pre_get p3 g1
 ((try simp (maxSteps:=3000000) (dsimp:=false) (disch:=first|omega|simp only[lnx];omega) only[↓ypre,ypost,↓reduceIte,reduceEqDiff,reduceAdd,reduceSub,reduceLeDiff,zz0,ynew,rd_sg g1 q27 (f:=1) (by omega) 9 rfl]);try simp only[yback])
 refine s_l03Lead (hq.b9 (by omega)) fun H4 p4=>?_
 have g1:=pre_get p4 g1
 have g2:=pre_get (p3.trans p4) hb2
 refine WO_cut (fun f:Fr=>f 0=I64 p∧f 3=.pointer (some ⟨h.length,0,none⟩)∧f 4=.pointer (some ⟨H1.length,0,none⟩)∧f 9=I64 (lead (seg q 0))∧f 12=I64 (lead (seg q 1))∧True) ⟨(by first|rfl|simp[upd_apply]),(by first|rfl|simp[upd_apply]),(by first|rfl|simp[upd_apply]),(by first|rfl|simp[upd_apply]),(by first|rfl|simp[upd_apply]),trivial⟩ ?_
 rintro f ⟨f0,f3,f4,f9,f12,-⟩
 ((try simp (maxSteps:=3000000) (dsimp:=false) (disch:=first|omega|simp only[lnx];omega) only[↓ypre,ypost,↓reduceIte,reduceEqDiff,reduceAdd,reduceSub,reduceLeDiff,zz0,ynew,f0,f3,f4,f9,f12,rd_sg g1 q27 (f:=0) (by omega) 0 rfl]);try simp only[yback])
 refine s_l01Inverse pp ld0 iv0 ?_
 refine⟨List.prefix_refl _,?_⟩
 ((try simp (maxSteps:=3000000) (dsimp:=false) (disch:=first|omega|simp only[lnx];omega) only[↓ypre,ypost,↓reduceIte,reduceEqDiff,reduceAdd,reduceSub,reduceLeDiff,zz0,ynew,f0,f3,f4,f9,f12]);try simp only[yback])
 refine s_l01Scale (q:=seg q 0) pp (hq.b9 (by omega)) (by have:=iv0.1;have:=iv0.2.1;omega) fun H5 p5=>?_
 have g1:=pre_get p5 g1
 have g2:=pre_get p5 g2
 have a9:(scF p (seg q 0) (inv p (lead (seg q 0)))).length=9:=scF_len
 have b9:(scF p (seg q 1) (inv p (lead (seg q 1)))).length=9:=scF_len
 have c9:(scF p (seg q 2) (lead (seg q 0)*lead (seg q 1))).length=9:=scF_len
 have w1:AH.wr H5 h.length 0 (cel .u8 (scF p (seg q 0) (inv p (lead (seg q 0)))))=_:=wr_seg g1 q27 a9 (f:=0) (by omega)
 generalize hH6:AH.put H5 _ _=H6 at w1
 have l1:=get_lt g1
 have l2:=get_lt g2
 have m1:=wth_len (f:=0) q27 a9 (by omega)
 have k1:H6.get h.length=some ⟨cel .u8 (wth q 0 (scF p (seg q 0) (inv p (lead (seg q 0))))),53,false,true⟩:=by rw[←hH6];exact get_put_same l1
 have k2:=(show AH.get H6 H1.length=AH.get H5 H1.length from by rw[←hH6];exact get_put_ne (by omega)).trans g2
 have P6:h<+:H6:=by rw[←hH6];exact pre_put (p1.trans (p2.trans (p3.trans (p4.trans p5)))) (Nat.le_refl _)
 have r1:=rd_sg k1 m1 (f:=1) (by omega) 9 rfl
 rw[seg_wth q27 a9 (by omega) (by omega),if_neg (by decide)] at r1
 ((try simp (maxSteps:=3000000) (dsimp:=false) (disch:=first|omega|simp only[lnx];omega) only[↓ypre,ypost,↓reduceIte,reduceEqDiff,reduceAdd,reduceSub,reduceLeDiff,zz0,ynew,f0,f3,f4,f9,f12,aggV,cellsL_cel,cel_len,a9,cel_all,w1,r1]);try simp only[yback])
 refine s_l01Inverse pp ld1 iv1 ?_
 refine⟨List.prefix_refl _,?_⟩
 ((try simp (maxSteps:=3000000) (dsimp:=false) (disch:=first|omega|simp only[lnx];omega) only[↓ypre,ypost,↓reduceIte,reduceEqDiff,reduceAdd,reduceSub,reduceLeDiff,zz0,ynew,f0,f3,f4,f9,f12]);try simp only[yback])
 refine s_l01Scale (q:=seg q 1) pp (hq.b9 (by omega)) (by have:=iv1.1;have:=iv1.2.1;omega) fun H7 p7=>?_
 have k1:=pre_get p7 k1
 have k2:=pre_get p7 k2
 have w2:AH.wr H7 h.length 9 (cel .u8 (scF p (seg q 1) (inv p (lead (seg q 1)))))=_:=wr_seg k1 m1 b9 (f:=1) (by omega)
 generalize hH8:AH.put H7 _ _=H8 at w2
 have m2:=wth_len (f:=1) m1 b9 (by omega)
 have l1:=get_lt k1
 have l2:=get_lt k2
 have x1:H8.get h.length=some ⟨cel .u8 (wth (wth q 0 (scF p (seg q 0) (inv p (lead (seg q 0))))) 1 (scF p (seg q 1) (inv p (lead (seg q 1))))),53,false,true⟩:=by rw[←hH8];exact get_put_same l1
 have x2:=(show AH.get H8 H1.length=AH.get H7 H1.length from by rw[←hH8];exact get_put_ne (by omega)).trans k2
 have P8:h<+:H8:=by rw[←hH8];exact pre_put (P6.trans p7) (Nat.le_refl _)
 have r2:=rd_sg x1 m2 (f:=2) (by omega) 18 rfl
 rw[seg_wth m1 b9 (by omega) (by omega),if_neg (by decide),seg_wth q27 a9 (by omega) (by omega),if_neg (by decide)] at r2
 have ml:=mul_in1 (a:=lead (seg q 0)) (b:=lead (seg q 1)) (A:=5) (B:=5) (by omega) (by omega)
 ((try simp (maxSteps:=3000000) (dsimp:=false) (disch:=first|omega|simp only[lnx];omega) only[↓ypre,ypost,↓reduceIte,reduceEqDiff,reduceAdd,reduceSub,reduceLeDiff,zz0,ynew,f0,f3,f4,f9,f12,aggV,cellsL_cel,cel_len,b9,cel_all,w2,r2,wrap64_in]);try simp only[yback])
 refine s_l01Scale (q:=seg q 2) pp (hq.b9 (by omega)) (by omega) fun H9 p9=>?_
 have x1:=pre_get p9 x1
 have x2:=pre_get p9 x2
 have w3:AH.wr H9 h.length 18 (cel .u8 (scF p (seg q 2) (lead (seg q 0)*lead (seg q 1))))=_:=wr_seg x1 m2 c9 (f:=2) (by omega)
 have n27:=(nrm_Pr hp hq).bb.1
 have en:wth (wth (wth q 0 (scF p (seg q 0) (inv p (lead (seg q 0))))) 1 (scF p (seg q 1) (inv p (lead (seg q 1))))) 2 (scF p (seg q 2) (lead (seg q 0)*lead (seg q 1)))=nrm p q:=wth3 q27 a9 b9 c9
 rw[en] at w3
 generalize hHA:AH.put H9 _ _=HA at w3
 have l1:=get_lt x1
 have l2:=get_lt x2
 have y1:HA.get h.length=some ⟨cel .u8 (nrm p q),53,false,true⟩:=by rw[←hHA];exact get_put_same l1
 have y2:=(show AH.get HA H1.length=AH.get H9 H1.length from by rw[←hHA];exact get_put_ne (by omega)).trans x2
 have PA:h<+:HA:=by rw[←hHA];exact pre_put (P8.trans p9) (Nat.le_refl _)
 have w27:=wr_full (vs:=cel .u8 (nrm p q)) y2 (by rw[cel_len,n27];rfl)
 have t27:(cel .u8 (nrm p q)).take 27=cel .u8 (nrm p q):=List.take_of_length_le (by rw[cel_len,n27];exact Nat.le_refl _)
 have ly:=get_lt y2
 ((try simp (maxSteps:=3000000) (dsimp:=false) (disch:=first|omega|simp only[lnx];omega) only[↓ypre,ypost,↓reduceIte,reduceEqDiff,reduceAdd,reduceSub,reduceLeDiff,zz0,ynew,f0,f3,f4,f9,f12,aggV,cellsL_cel,cel_len,c9,cel_all,w3,rdn_of y1,n27,t27,w27,rdn_put_same]);try simp only[yback])
 exact hQ _ (pre_put PA (by omega))
theorem s_l03Times {p:Int} {fa ga:List Int} {h:AH} {Q:Value→AH→Prop} (hp:isP p=true) (hf:Fm p fa) (hz:isZ fa=false) (bf:By 9 fa) (bg:By 9 ga) (lg:1≤lead ga∧lead ga≤255) (hQ:∀ h',h<+:h'→Q (I64 (tms p fa ga)) h'):WF S 109 [I64 p,aggV .u8 fa,aggV .u8 ga] h Q:=by
 refine WF_fn (fn:=c109) rfl rfl ?_
 dsimp only[c109,oO,oM,oS,oG,oK,oE,oL,oF,oX,oN]
 have pp:=isP_in hp
 have ldf:=hf.lead hz
 have iv:=inv_spec hp ldf
 have f9:=bf.1
 have g9:=bg.1
 have tf:(cel .u8 fa).take 9=cel .u8 fa:=List.take_of_length_le (by rw[cel_len,f9];exact Nat.le_refl _)
 have tg:(cel .u8 ga).take 9=cel .u8 ga:=List.take_of_length_le (by rw[cel_len,g9];exact Nat.le_refl _)
 ((try simp (maxSteps:=3000000) (dsimp:=false) (disch:=first|omega|simp only[lnx];omega) only[↓ypre,ypost,↓reduceIte,reduceEqDiff,reduceAdd,reduceSub,reduceLeDiff,zz0,ynew,aggV,cellsL_cel,cel_all]);try simp only[yback])
 generalize hH1:AH.new h _=H1
 obtain⟨hb1,p1,n1⟩:=new_facts hH1
 generalize hH2:AH.new H1 _=H2
 obtain⟨hb2,p2,n2⟩:=new_facts hH2
 ((try simp (maxSteps:=3000000) (dsimp:=false) (disch:=first|omega|simp only[lnx];omega) only[↓ypre,ypost,↓reduceIte,reduceEqDiff,reduceAdd,reduceSub,reduceLeDiff,zz0,ynew,rdn_of hb2,cel_len,g9,tg]);try simp only[yback])
 refine s_l03Lead bg fun H3 p3=>⟨p3,?_⟩
 have g1:=pre_get (p2.trans p3) hb1
 have g2:=pre_get p3 hb2
 ((try simp (maxSteps:=3000000) (dsimp:=false) (disch:=first|omega|simp only[lnx];omega) only[↓ypre,ypost,↓reduceIte,reduceEqDiff,reduceAdd,reduceSub,reduceLeDiff,zz0,ynew,rdn_of g1,cel_len,f9,tf]);try simp only[yback])
 refine s_l03Lead bf fun H4 p4=>?_
 have g1:=pre_get p4 g1
 have g2:=pre_get p4 g2
 ((try simp (maxSteps:=3000000) (dsimp:=false) (disch:=first|omega|simp only[lnx];omega) only[↓ypre,ypost,↓reduceIte,reduceEqDiff,reduceAdd,reduceSub,reduceLeDiff,zz0,ynew]);try simp only[yback])
 refine s_l01Inverse pp ldf iv ?_
 have m1:=mul_in1 (a:=lead ga) (b:=inv p (lead fa)) (A:=256) (B:=5) (by omega) (by have:=iv.1;have:=iv.2.1;omega)
 have m2:=tmod_nn (a:=lead ga*inv p (lead fa)) (J:=p) (by omega) (by omega)
 ((try simp (maxSteps:=3000000) (dsimp:=false) (disch:=first|omega|simp only[lnx];omega) only[↓ypre,ypost,↓reduceIte,reduceEqDiff,reduceAdd,reduceSub,reduceLeDiff,zz0,ynew,wrap64_in,bin_rem (show p≠0 by omega),rdn_of g1,cel_len,f9,tf]);try simp only[yback])
 refine s_l01Scale (q:=fa) pp bf (by omega) fun H5 p5=>⟨p5,?_⟩
 have e:=eqaV_ceT (k:=.u8) (n:=9) (scF_len (p:=p) (f:=fa) (k:=(lead ga*inv p (lead fa)).tmod p)) g9 (by omega)
 have g2:=pre_get p5 g2
 unfold tms at hQ
 by_cases hs:scF p fa ((lead ga*inv p (lead fa)).tmod p)=ga
 ·rw[if_pos hs] at hQ
  have e2:(scF p fa ((lead ga*inv p (lead fa)).tmod p)==ga)=true:=by simpa using hs
  rw[e2] at e
  ((try simp (maxSteps:=3000000) (dsimp:=false) (disch:=first|omega|simp only[lnx];omega) only[↓ypre,ypost,↓reduceIte,reduceEqDiff,reduceAdd,reduceSub,reduceLeDiff,zz0,ynew,aggV,rdn_of g2,cel_len,g9,tg,e]);try simp only[yback])
  exact hQ _ (p1.trans (p2.trans (p3.trans (p4.trans p5))))
 ·rw[if_neg hs] at hQ
  have e2:(scF p fa ((lead ga*inv p (lead fa)).tmod p)==ga)=false:=by simpa using hs
  rw[e2] at e
  ((try simp (maxSteps:=3000000) (dsimp:=false) (disch:=first|omega|simp only[lnx];omega) only[↓ypre,ypost,↓reduceIte,reduceEqDiff,reduceAdd,reduceSub,reduceLeDiff,zz0,ynew,aggV,rdn_of g2,cel_len,g9,tg,e]);try simp only[yback])
  exact hQ _ (p1.trans (p2.trans (p3.trans (p4.trans p5))))
theorem s_l03Join {p:Int} {q r:List Int} {h:AH} {Q:Value→AH→Prop} (hp:isP p=true) (hq:Pr p q) (hr:Pr p r) (hQ:∀ m h',h<+:h'→mrg p q r=some m→Q (.tuple #[aggV .u8 m,.bool true]) h')
  (hN:∀ h',h<+:h'→mrg p q r=none→Q (.tuple #[aggV .u8 (List.replicate 27 0),.bool false]) h'):WF S 100 [I64 p,aggV .u8 q,aggV .u8 r] h Q:=by
 refine WF_fn (fn:=c100) rfl rfl ?_
 dsimp only[c100,oO,oM,oS,oG,oK,oE,oL,oF,oX,oN]
 have pp:=isP_in hp
 have q27:=hq.bb.1
 have r27:=hr.bb.1
 have c2:∀ {q:List Int},((cel .u8 q).drop 18).take 9=cel .u8 (seg q 2):=fun {q}=>cel_seg (f:=2)
 ((try simp (maxSteps:=3000000) (dsimp:=false) (disch:=first|omega|simp only[lnx];omega) only[↓ypre,ypost,↓reduceIte,reduceEqDiff,reduceAdd,reduceSub,reduceLeDiff,zz0,ynew,aggV,cellsL_cel,cel_all,cel_len,q27,r27,c2,zeros27]);try simp only[yback])
 generalize hH1:AH.new h _=H1
 obtain⟨hb1,p1,n1⟩:=new_facts hH1
 generalize hH2:AH.new H1 _=H2
 obtain⟨hb2,p2,n2⟩:=new_facts hH2
 generalize hH3:AH.new H2 _=H3
 obtain⟨hb3,p3,n3⟩:=new_facts hH3
 have ldr:=hr.ld (j:=2) (by omega)
 refine s_l03Times (fa:=seg q 2) (ga:=seg r 2) hp (hq.f 2 (by omega)) (hq.z 2 (by omega)) (hq.b9 (j:=2) (by omega)) (hr.b9 (j:=2) (by omega)) (by omega) fun H4 p4=>?_
 have g1:=pre_get (p2.trans (p3.trans p4)) hb1
 have g2:=pre_get (p3.trans p4) hb2
 have g3:=pre_get p4 hb3
 have P4:=p1.trans (p2.trans (p3.trans p4))
 have ti:=tms_in (f:=seg q 2) (g:=seg r 2) pp.1 (by omega) (by have:=(inv_spec hp (hq.ld (j:=2) (by omega))).1;omega)
 have l1:=get_lt g1
 have l3:=get_lt g3
 have q4:=pre_len p4
 have e0:=eqaV_cel (k:=.u8) (seg_n9 q27 (show 0<3 by omega)) (seg_n9 r27 (show 0<3 by omega)) (by omega)
 have e1:=eqaV_cel (k:=.u8) (seg_n9 q27 (show 1<3 by omega)) (seg_n9 r27 (show 1<3 by omega)) (by omega)
 rw[beq_seg] at e0 e1
 have a0:=rd_sg g1 q27 (f:=0) (by omega) 0 rfl
 have b0:=rd_sg g2 r27 (f:=0) (by omega) 0 rfl
 have a1:=rd_sg g1 q27 (f:=1) (by omega) 9 rfl
 have b1:=rd_sg g2 r27 (f:=1) (by omega) 9 rfl
 have a2:=rd_sg g1 q27 (f:=2) (by omega) 18 rfl
 have b2:=rd_sg g2 r27 (f:=2) (by omega) 18 rfl
 have wz:=wr_full (vs:=cel .u8 (List.replicate 27 0)) g3 (by rw[cel_len])
 have tz:(cel .u8 (List.replicate 27 0)).take 27=cel .u8 (List.replicate 27 0):=rfl
 by_cases hA0:seg q 0=seg r 0
 ·by_cases hA1:seg q 1=seg r 1
  ·skip
   ((try simp (maxSteps:=3000000) (dsimp:=false) (disch:=first|omega|simp only[lnx];omega) only[↓ypre,ypost,↓reduceIte,reduceEqDiff,reduceAdd,reduceSub,reduceLeDiff,zz0,ynew,a0,b0,e0,decide_eq_true hA0,a1,b1,e1,decide_eq_true hA1,a2,b2]);try simp only[yback])
   refine s_l01Add (k:=1) pp (hq.b9 (j:=2) (by omega)) (hr.b9 (j:=2) (by omega)) (by omega) fun H5 p5=>?_
   have ad:=addF_by (k:=1) (b:=seg r 2) (i:=9) pp (hq.b9 (j:=2) (by omega)) (Nat.le_refl _)
   have g15:=pre_get p5 g1
   have g35:=pre_get p5 g3
   have w1:AH.wr H5 h.length 18 (cel .u8 (addF p (seg q 2) (seg r 2) (1) 9))=_:=wr_seg g15 q27 ad.1 (f:=2) (by omega)
   generalize hH6:AH.put H5 _ _=H6 at w1
   have l15:=get_lt g15
   have g16:H6.get h.length=some ⟨cel .u8 (wth q 2 (addF p (seg q 2) (seg r 2) (1) 9)),53,false,true⟩:=by rw[←hH6];exact get_put_same l15
   have g36:=(show AH.get H6 H2.length=AH.get H5 H2.length from by rw[←hH6];exact get_put_ne (by omega)).trans g35
   have m27:=wth_len (f:=2) q27 ad.1 (by omega)
   have t27:(cel .u8 (wth q 2 (addF p (seg q 2) (seg r 2) (1) 9))).take 27=cel .u8 (wth q 2 (addF p (seg q 2) (seg r 2) (1) 9)):=List.take_of_length_le (by rw[cel_len,m27];exact Nat.le_refl _)
   have w27:=wr_full (vs:=cel .u8 (wth q 2 (addF p (seg q 2) (seg r 2) (1) 9))) g36 (by rw[cel_len,m27];rfl)
   have l36:=get_lt g36
   have P6:h<+:H6:=by rw[←hH6];exact pre_put (P4.trans p5) (Nat.le_refl _)
   ((try simp (maxSteps:=3000000) (dsimp:=false) (disch:=first|omega|simp only[lnx];omega) only[↓ypre,ypost,↓reduceIte,reduceEqDiff,reduceAdd,reduceSub,reduceLeDiff,zz0,ynew,aggV,cellsL_cel,cel_len,ad.1,cel_all,w1,rdn_of g16,m27,t27,w27,rdn_put_same]);try simp only[yback])
   exact hQ _ _ (pre_put P6 (by omega)) (mrg_1 ⟨hA0,hA1⟩)
  ·by_cases ht:tms p (seg q 2) (seg r 2)≠0
   ·skip
    ((try simp (maxSteps:=3000000) (dsimp:=false) (disch:=first|omega|simp only[lnx];omega) only[↓ypre,ypost,↓reduceIte,reduceEqDiff,reduceAdd,reduceSub,reduceLeDiff,zz0,ynew,a0,b0,e0,decide_eq_true hA0,a1,b1,e1,decide_eq_false hA1,decide_eq_true ht]);try simp only[yback])
    refine s_l01Add (k:=tms p (seg q 2) (seg r 2)) pp (hq.b9 (j:=1) (by omega)) (hr.b9 (j:=1) (by omega)) (by omega) fun H5 p5=>?_
    have ad:=addF_by (k:=tms p (seg q 2) (seg r 2)) (b:=seg r 1) (i:=9) pp (hq.b9 (j:=1) (by omega)) (Nat.le_refl _)
    have g15:=pre_get p5 g1
    have g35:=pre_get p5 g3
    have w1:AH.wr H5 h.length 9 (cel .u8 (addF p (seg q 1) (seg r 1) (tms p (seg q 2) (seg r 2)) 9))=_:=wr_seg g15 q27 ad.1 (f:=1) (by omega)
    generalize hH6:AH.put H5 _ _=H6 at w1
    have l15:=get_lt g15
    have g16:H6.get h.length=some ⟨cel .u8 (wth q 1 (addF p (seg q 1) (seg r 1) (tms p (seg q 2) (seg r 2)) 9)),53,false,true⟩:=by rw[←hH6];exact get_put_same l15
    have g36:=(show AH.get H6 H2.length=AH.get H5 H2.length from by rw[←hH6];exact get_put_ne (by omega)).trans g35
    have m27:=wth_len (f:=1) q27 ad.1 (by omega)
    have t27:(cel .u8 (wth q 1 (addF p (seg q 1) (seg r 1) (tms p (seg q 2) (seg r 2)) 9))).take 27=cel .u8 (wth q 1 (addF p (seg q 1) (seg r 1) (tms p (seg q 2) (seg r 2)) 9)):=List.take_of_length_le (by rw[cel_len,m27];exact Nat.le_refl _)
    have w27:=wr_full (vs:=cel .u8 (wth q 1 (addF p (seg q 1) (seg r 1) (tms p (seg q 2) (seg r 2)) 9))) g36 (by rw[cel_len,m27];rfl)
    have l36:=get_lt g36
    have P6:h<+:H6:=by rw[←hH6];exact pre_put (P4.trans p5) (Nat.le_refl _)
    ((try simp (maxSteps:=3000000) (dsimp:=false) (disch:=first|omega|simp only[lnx];omega) only[↓ypre,ypost,↓reduceIte,reduceEqDiff,reduceAdd,reduceSub,reduceLeDiff,zz0,ynew,aggV,cellsL_cel,cel_len,ad.1,cel_all,w1,rdn_of g16,m27,t27,w27,rdn_put_same]);try simp only[yback])
    exact hQ _ _ (pre_put P6 (by omega)) (mrg_2 (fun x=>hA1 x.2) ⟨hA0,by omega⟩)
   ·skip
    ((try simp (maxSteps:=3000000) (dsimp:=false) (disch:=first|omega|simp only[lnx];omega) only[↓ypre,ypost,↓reduceIte,reduceEqDiff,reduceAdd,reduceSub,reduceLeDiff,zz0,ynew,a0,b0,e0,decide_eq_true hA0,a1,b1,e1,decide_eq_false hA1,decide_eq_false ht,yWG_un,fillL,zeros27,cel_all,cel_len,List.length_replicate,wz,rdn_put_same,tz]);try simp only[yback])
    exact hN _ (pre_put P4 (by omega)) (mrg_4 (fun x=>hA1 x.2) (fun x=>x.2 (by omega)) (fun x=>hA1 x.1))
 ·by_cases hA1:seg q 1=seg r 1
  ·by_cases ht:tms p (seg q 2) (seg r 2)≠0
   ·skip
    ((try simp (maxSteps:=3000000) (dsimp:=false) (disch:=first|omega|simp only[lnx];omega) only[↓ypre,ypost,↓reduceIte,reduceEqDiff,reduceAdd,reduceSub,reduceLeDiff,zz0,ynew,a0,b0,e0,decide_eq_false hA0,yWG_un,a1,b1,e1,decide_eq_true hA1,decide_eq_true ht]);try simp only[yback])
    refine s_l01Add (k:=tms p (seg q 2) (seg r 2)) pp (hq.b9 (j:=0) (by omega)) (hr.b9 (j:=0) (by omega)) (by omega) fun H5 p5=>?_
    have ad:=addF_by (k:=tms p (seg q 2) (seg r 2)) (b:=seg r 0) (i:=9) pp (hq.b9 (j:=0) (by omega)) (Nat.le_refl _)
    have g15:=pre_get p5 g1
    have g35:=pre_get p5 g3
    have w1:AH.wr H5 h.length 0 (cel .u8 (addF p (seg q 0) (seg r 0) (tms p (seg q 2) (seg r 2)) 9))=_:=wr_seg g15 q27 ad.1 (f:=0) (by omega)
    generalize hH6:AH.put H5 _ _=H6 at w1
    have l15:=get_lt g15
    have g16:H6.get h.length=some ⟨cel .u8 (wth q 0 (addF p (seg q 0) (seg r 0) (tms p (seg q 2) (seg r 2)) 9)),53,false,true⟩:=by rw[←hH6];exact get_put_same l15
    have g36:=(show AH.get H6 H2.length=AH.get H5 H2.length from by rw[←hH6];exact get_put_ne (by omega)).trans g35
    have m27:=wth_len (f:=0) q27 ad.1 (by omega)
    have t27:(cel .u8 (wth q 0 (addF p (seg q 0) (seg r 0) (tms p (seg q 2) (seg r 2)) 9))).take 27=cel .u8 (wth q 0 (addF p (seg q 0) (seg r 0) (tms p (seg q 2) (seg r 2)) 9)):=List.take_of_length_le (by rw[cel_len,m27];exact Nat.le_refl _)
    have w27:=wr_full (vs:=cel .u8 (wth q 0 (addF p (seg q 0) (seg r 0) (tms p (seg q 2) (seg r 2)) 9))) g36 (by rw[cel_len,m27];rfl)
    have l36:=get_lt g36
    have P6:h<+:H6:=by rw[←hH6];exact pre_put (P4.trans p5) (Nat.le_refl _)
    ((try simp (maxSteps:=3000000) (dsimp:=false) (disch:=first|omega|simp only[lnx];omega) only[↓ypre,ypost,↓reduceIte,reduceEqDiff,reduceAdd,reduceSub,reduceLeDiff,zz0,ynew,aggV,cellsL_cel,cel_len,ad.1,cel_all,w1,rdn_of g16,m27,t27,w27,rdn_put_same]);try simp only[yback])
    exact hQ _ _ (pre_put P6 (by omega)) (mrg_3 (fun x=>hA0 x.1) (fun x=>hA0 x.1) ⟨hA1,by omega⟩)
   ·skip
    ((try simp (maxSteps:=3000000) (dsimp:=false) (disch:=first|omega|simp only[lnx];omega) only[↓ypre,ypost,↓reduceIte,reduceEqDiff,reduceAdd,reduceSub,reduceLeDiff,zz0,ynew,a0,b0,e0,decide_eq_false hA0,yWG_un,a1,b1,e1,decide_eq_true hA1,decide_eq_false ht,fillL,zeros27,cel_all,cel_len,List.length_replicate,wz,rdn_put_same,tz]);try simp only[yback])
    exact hN _ (pre_put P4 (by omega)) (mrg_4 (fun x=>hA0 x.1) (fun x=>hA0 x.1) (fun x=>x.2 (by omega)))
  ·skip
   ((try simp (maxSteps:=3000000) (dsimp:=false) (disch:=first|omega|simp only[lnx];omega) only[↓ypre,ypost,↓reduceIte,reduceEqDiff,reduceAdd,reduceSub,reduceLeDiff,zz0,ynew,a0,b0,e0,decide_eq_false hA0,yWG_un,a1,b1,e1,decide_eq_false hA1,fillL,zeros27,cel_all,cel_len,List.length_replicate,wz,rdn_put_same,tz]);try simp only[yback])
   exact hN _ (pre_put P4 (by omega)) (mrg_4 (fun x=>hA0 x.1) (fun x=>hA0 x.1) (fun x=>hA1 x.1))
def RdE (h:AH) (v:Value) (R:List (List Int)):Prop:=
 (R=[]∧∃ t,v=.slice none 0 t)∨∃ n off,v=.slice (some ⟨n,off,none⟩) R.length 27∧h.rdn n off (R.length*27)=some (cel .u8 R.flatten)
section
variable {h h':AH} {v:Value} {R L:List (List Int)} {b off j m:Nat}
theorem rdn_pre {n k:Nat} {c:List Value} (p:h<+:h') (e:h.rdn n off k=some c):h'.rdn n off k=some c:=by
 rw[rdn_eq] at e ⊢
 cases hg:h.get n with
 | none=>rw[hg] at e;cases e
 | some b=>rw[pre_get p hg];rw[hg] at e;exact e
theorem RdE.pre (e:RdE h v R) (p:h<+:h'):RdE h' v R:=by
 rcases e with e|⟨n,off,e1,e2⟩
 ·exact .inl e
 ·exact .inr ⟨n,off,e1,rdn_pre p e2⟩
theorem RdE.len (e:RdE h v R):lenV v=some (I64 R.length):=by
 rcases e with⟨rfl,t,rfl⟩|⟨n,off,rfl,e2⟩<;>rfl
theorem RdE.one (e:RdE h v R):isOne v=true:=by
 rcases e with⟨rfl,t,rfl⟩|⟨n,off,rfl,e2⟩<;>rfl
theorem RdE.cells (e:RdE h v R):cellsL v=[v]:=by
 rcases e with⟨rfl,t,rfl⟩|⟨n,off,rfl,e2⟩<;>rfl
theorem flat_dr {w:Nat}:∀ {L:List (List Int)} {i:Nat},Wid w L→i≤L.length→L.flatten.drop (i*w)=(L.drop i).flatten
 | [],i,_,h=>by simp
 | r::L,0,_,_=>by simp
 | r::L,i+1,hw,h=>by
  have hr:=hw r (by simp)
  rw[List.drop_succ_cons,List.flatten_cons,Nat.succ_mul,List.drop_append,List.drop_of_length_le (by omega),List.nil_append,show i*w+w-r.length=i*w by omega,flat_dr (fun q hq=>hw q (by simp[hq])) (by simpa using h)]
theorem rdn_sub (hw:Wid 27 L) (e:h.rdn b off (L.length*27)=some (cel .u8 L.flatten)) (hj:j+m≤L.length):h.rdn b (off+j*27) (m*27)=some (cel .u8 ((L.drop j).take m).flatten):=by
 rw[rdn_eq] at e ⊢
 cases hg:h.get b with
 | none=>rw[hg] at e;cases e
 | some blk=>
  rw[hg] at e
  simp only[Option.bind_some] at e ⊢
  have hm:j*27+m*27≤L.length*27:=by rw[←Nat.add_mul];exact Nat.mul_le_mul_right _ hj
  split at e
  ·rename_i hl
   rw[if_pos (by omega)]
   have e2:=Option.some.inj e
   have e3:(blk.c.drop (off+j*27)).take (m*27)=(((blk.c.drop off).take (L.length*27)).drop (j*27)).take (m*27):=by
    rw[List.drop_take,List.drop_drop,List.take_take,Nat.min_eq_left (by omega)]
   have wd:Wid 27 (L.drop j):=fun q hq=>hw q (List.mem_of_mem_drop hq)
   rw[e3,e2,cel_drop,cel_take,flat_dr hw (by omega),flat_tk wd (by rw[List.length_drop];omega)]
  ·cases e
theorem OwnP.appR {lo:Nat} {H:AH} {sv:Value} {C:List (List Int)} (o:OwnP lo H sv C) (hv:RdE H v R) (wR:Wid 27 R) (hl:C.length+R.length≤1000) (hlo:lo≤H.length) {Q:Value→AH→Prop}
  (hQ:∀ (sv':Value) (H':AH),(∀ h0:AH,h0.length≤lo→h0<+:H→h0<+:H')→OwnP lo H' sv' (C++R)→Q sv' H'):OQ (appV 53 27 27 sv v H) Q:=by
 have wCR:Wid 27 C→Wid 27 (C++R):=fun w q hq=>by
  rcases List.mem_append.1 hq with h|h
  ·exact w q h
  ·exact wR q h
 obtain⟨wC,hs⟩:=o
 by_cases h0:R.length=0
 ·have e0:R=[]:=List.length_eq_zero_iff.1 h0
  subst e0
  have e:appV 53 27 27 sv v H=some (sv,H):=by
   rcases hs with⟨rfl,rfl⟩|⟨kb,fu,rfl,h2,h3⟩
   ·rcases hv with⟨_,t,rfl⟩|⟨n,off,rfl,e2⟩
    ·simp[appV,xop,ev]
    ·simp only[List.length_nil,Nat.zero_mul] at e2
     simp[appV,xop,ev,e2]
   ·rcases hv with⟨_,t,rfl⟩|⟨n,off,rfl,e2⟩
    ·simp only[appV,xop,ev,if_true]
     rw[if_pos (by omega)]
    ·simp only[List.length_nil,Nat.zero_mul] at e2
     simp only[appV,xop,ev,if_true,List.length_nil,Nat.zero_mul,e2]
     rw[if_pos (by omega)]
  rw[e,OQ_some]
  refine hQ sv H (fun h0 _ p=>p) ?_
  rw[List.append_nil]
  exact⟨wC,hs⟩
 ·rcases hv with⟨rfl,_⟩|⟨n,off,rfl,e2⟩
  ·simp at h0
  rcases hs with⟨rfl,rfl⟩|⟨kb,fu,rfl,h2,h3⟩
  ·have e:appV 53 27 27 (.slice none 0 0) (.slice (some ⟨n,off,none⟩) R.length 27) H=some (.slice (some ⟨H.length,0,none⟩) R.length 27,H.new ⟨cel .u8 R.flatten,53,false,false⟩):=by
    simp only[appV,xop,ev,if_true,e2]
    rw[if_pos (by omega),if_pos (by simp),if_neg (by omega)]
   rw[e,OQ_some]
   exact hQ _ _ (fun h0 _ p=>pre_new p) ⟨by simpa using wR,.inr ⟨H.length,false,by simp,hlo,by simpa using get_new_same⟩⟩
  ·have fl:=flat_len wC
   have e:appV 53 27 27 (.slice (some ⟨kb,0,none⟩) C.length 27) (.slice (some ⟨n,off,none⟩) R.length 27) H=some (.slice (some ⟨H.length,0,none⟩) (C++R).length 27,(H.kill kb).new ⟨cel .u8 (C++R).flatten,53,false,false⟩):=by
    simp only[appV,xop,ev,if_true,e2,h3]
    rw[if_pos (by omega),if_neg (by omega)]
    simp[cel_len,fl,cel_app]
   rw[e,OQ_some]
   exact hQ _ _ (fun h0 q p=>pre_new (pre_kill p (by omega))) ⟨wCR wC,.inr ⟨H.length,false,rfl,hlo,get_new_eq (by rw[len_kill])⟩⟩
end
theorem i_GrowP {n:Nat} {h:AH} {Q:Value→AH→Prop} (hn:n≤1000) (hQ:∀ w h',h<+:h'→OwnP h.length h' w []→Q w h'):WF S 108 [.slice none 0 0,I64 n] h Q:=by
 refine WF_fn (fn:=c108) rfl rfl ?_
 dsimp only[c108,oO,oM,oS,oG,oK,oE,oL,oF,oX,oN]
 have w0:Wid 27 ([]:List (List Int)):=fun q hq=>by simp at hq
 by_cases h0:(n:Int)>0
 ·((try simp (maxSteps:=3000000) (dsimp:=false) (disch:=first|omega|simp only[lnx];omega) only[↓ypre,ypost,↓reduceIte,reduceEqDiff,reduceAdd,reduceSub,reduceLeDiff,zz0,ynew,decide_eq_false (show ¬ (n:Int)<0 by omega),capV_nil,show lenV (.slice none 0 0)=some (I64 0) from rfl,wrap64_in,Int.sub_zero,decide_eq_true h0]);try simp only[yback])
  have s1:slcV 27 (.slice none 0 0) none (some (I64 0))=some (.slice none 0 0):=rfl
  have e1:appzV 53 27 27 (.slice none 0 0) (I64 n) h=some (.slice (some ⟨h.length,0,none⟩) n 27,h.new ⟨[],53,false,false⟩):=by
   rw[appzV_nil,if_pos (by omega),Int.toNat_natCast]
  have s2:slcV 27 (.slice (some ⟨h.length,0,none⟩) n 27) none (some (.int .i64 ((0:Nat):Int)))=some (.slice (some ⟨h.length,0,none⟩) 0 27):=by
   simp[slcV,boundV]
  ((try simp (maxSteps:=3000000) (dsimp:=false) (disch:=first|omega|simp only[lnx];omega) only[↓ypre,ypost,↓reduceIte,reduceEqDiff,reduceAdd,reduceSub,reduceLeDiff,zz0,ynew,omapF_none,omapF_some,s1,e1,s2]);try simp only[yback])
  exact hQ _ _ (pre_new (List.prefix_refl _)) ⟨w0,.inr ⟨h.length,false,rfl,Nat.le_refl _,get_new_same⟩⟩
 ·((try simp (maxSteps:=3000000) (dsimp:=false) (disch:=first|omega|simp only[lnx];omega) only[↓ypre,ypost,↓reduceIte,reduceEqDiff,reduceAdd,reduceSub,reduceLeDiff,zz0,ynew,decide_eq_false (show ¬ (n:Int)<0 by omega),capV_nil,show lenV (.slice none 0 0)=some (I64 0) from rfl,wrap64_in,Int.sub_zero,decide_eq_false h0]);try simp only[yback])
  exact hQ _ _ (List.prefix_refl _) ⟨w0,.inl ⟨rfl,rfl⟩⟩
def len2 (L R:List (List Int)) (i:Nat):Nat:=if i=0 then 0 else if i=1 then L.length else L.length+R.length
def cat2 (L R:List (List Int)) (i:Nat):List (List Int):=if i=0 then [] else if i=1 then L else L++R
theorem i_ConcatP {mb:Nat} {e:TypeId} {ro fl:Bool} {a b:Value} {L R:List (List Int)} {h:AH} {Q:Value→AH→Prop} (hm:h.get mb=some ⟨[a,b],e,ro,fl⟩) (ha:RdE h a L) (hb:RdE h b R) (wL:Wid 27 L) (wR:Wid 27 R) (hl:L.length+R.length≤1000)
  (hQ:∀ w h',h<+:h'→OwnP h.length h' w (L++R)→Q w h'):WF S 99 [.slice (some ⟨mb,0,none⟩) 2 1] h Q:=by
 refine WF_fn (fn:=c99) rfl rfl ?_
 dsimp only[c99,oO,oM,oS,oG,oK,oE,oL,oF,oX,oN]
 ((try simp (maxSteps:=3000000) (dsimp:=false) (disch:=first|omega|simp only[lnx];omega) only[↓ypre,ypost,↓reduceIte,reduceEqDiff,reduceAdd,reduceSub,reduceLeDiff,zz0,ynew,show lenV (.slice (some ⟨mb,0,none⟩) 2 1)=some (I64 2) from rfl]);try simp only[yback])
 have j0:ixsV 1 (.slice (some ⟨mb,0,none⟩) 2 1) (I64 0)=some (.pointer (some ⟨mb,0,none⟩)):=rfl
 have j1:ixsV 1 (.slice (some ⟨mb,0,none⟩) 2 1) (I64 1)=some (.pointer (some ⟨mb,1,none⟩)):=rfl
 refine WC_loop_inv (fun m f K1=>∃ (i:Nat),m=2-i∧i≤2∧f 0=.slice (some ⟨mb,0,none⟩) 2 1∧f 3=I64 (len2 L R i)∧f 9=.slice (some ⟨mb,0,none⟩) 2 1∧f 10=I64 2∧f 11=I64 i∧(K1=h)) ?_ (2-0) _ _ ⟨0,rfl,by omega,(by first|rfl|simp[upd_apply]),(by first|rfl|simp[upd_apply]),(by first|rfl|simp[upd_apply]),(by first|rfl|simp[upd_apply]),(by first|rfl|simp[upd_apply]),rfl⟩
 rintro m f K1 ⟨i,rfl,hi,f0,f3,f9,f10,f11,hK⟩
 subst hK
 by_cases hlt:(i:Int)<2
 ·have hi:i=0∨i=1:=by omega
  rcases hi with rfl|rfl
  ·((try simp (maxSteps:=3000000) (dsimp:=false) (disch:=first|omega|simp only[lnx];omega) only[↓ypre,ypost,↓reduceIte,reduceEqDiff,reduceAdd,reduceSub,reduceLeDiff,zz0,ynew,f0,f3,f9,f10,f11,show ((0:Nat):Int)=0 from rfl,show decide ((0:Int)<2)=true from rfl,j0,rd1_of hm,ha.len,show len2 L R 0=0 from rfl,Int.zero_add,wrap64_in,decide_eq_false (show ¬ (L.length:Int)<0 by omega)]);try simp only[yback])
   refine InvQ_go (2-(0+1)) (by omega) ⟨(0+1),rfl,by omega,(by first|rfl|exact f0|(simp only[upd_apply];rfl)|(show I64 _=_;congr 1;omega)),(rfl),(by first|rfl|exact f9|(simp only[upd_apply];rfl)|(show I64 _=_;congr 1;omega)),(by first|rfl|exact f10|(simp only[upd_apply];rfl)|(show I64 _=_;congr 1;omega)),(rfl),rfl⟩
  ·((try simp (maxSteps:=3000000) (dsimp:=false) (disch:=first|omega|simp only[lnx];omega) only[↓ypre,ypost,↓reduceIte,reduceEqDiff,reduceAdd,reduceSub,reduceLeDiff,zz0,ynew,f0,f3,f9,f10,f11,show ((1:Nat):Int)=1 from rfl,show decide ((1:Int)<2)=true from rfl,j1,rd1_of hm,hb.len,show len2 L R 1=L.length from rfl,wrap64_in,decide_eq_false (show ¬ (L.length:Int)+R.length<0 by omega)]);try simp only[yback])
   refine InvQ_go (2-(1+1)) (by omega) ⟨(1+1),rfl,by omega,(by first|rfl|exact f0|(simp only[upd_apply];rfl)|(show I64 _=_;congr 1;omega)),(rfl),(by first|rfl|exact f9|(simp only[upd_apply];rfl)|(show I64 _=_;congr 1;omega)),(by first|rfl|exact f10|(simp only[upd_apply];rfl)|(show I64 _=_;congr 1;omega)),(rfl),rfl⟩
 have ei:i=2:=by omega
 subst ei
 ((try simp (maxSteps:=3000000) (dsimp:=false) (disch:=first|omega|simp only[lnx];omega) only[↓ypre,ypost,↓reduceIte,reduceEqDiff,reduceAdd,reduceSub,reduceLeDiff,zz0,ynew,f0,f3,f9,f10,f11,decide_eq_false hlt]);try simp only[yback])
 refine i_GrowP (n:=L.length+R.length) hl fun w1 H1 p1 o1=>?_
 ((try simp (maxSteps:=3000000) (dsimp:=false) (disch:=first|omega|simp only[lnx];omega) only[↓ypre,ypost,↓reduceIte,reduceEqDiff,reduceAdd,reduceSub,reduceLeDiff,zz0,ynew,f0,f3,f9,f10,f11,show lenV (.slice (some ⟨mb,0,none⟩) 2 1)=some (I64 2) from rfl]);try simp only[yback])
 refine WC_loop_inv (fun m f K2=>∃ (i:Nat) (sv:Value),m=2-i∧i≤2∧f 6=sv∧f 25=.slice (some ⟨mb,0,none⟩) 2 1∧f 26=I64 2∧f 27=I64 i∧(K1<+:K2)∧(OwnP K1.length K2 sv (cat2 L R i))) ?_ (2-0) _ _ ⟨0,w1,rfl,by omega,(by first|rfl|simp[upd_apply]),(by first|rfl|simp[upd_apply]),(by first|rfl|simp[upd_apply]),(by first|rfl|simp[upd_apply]),p1,o1⟩
 rintro m f K2 ⟨i,sv,rfl,hi,f6,f25,f26,f27,pp,o⟩
 by_cases hlt:(i:Int)<2
 ·have hm2:=pre_get pp hm
  have hi:i=0∨i=1:=by omega
  have lK:=pre_len pp
  rcases hi with rfl|rfl
  ·((try simp (maxSteps:=3000000) (dsimp:=false) (disch:=first|omega|simp only[lnx];omega) only[↓ypre,ypost,↓reduceIte,reduceEqDiff,reduceAdd,reduceSub,reduceLeDiff,zz0,ynew,f6,f25,f26,f27,show ((0:Nat):Int)=0 from rfl,show decide ((0:Int)<2)=true from rfl,j0,rd1_of hm2]);try simp only[yback])
   refine o.appR (ha.pre pp) wL (by show 0+L.length≤1000;omega) lK fun sv' H' p' o'=>?_
   ((try simp (maxSteps:=3000000) (dsimp:=false) (disch:=first|omega|simp only[lnx];omega) only[↓ypre,ypost,↓reduceIte,reduceEqDiff,reduceAdd,reduceSub,reduceLeDiff,zz0,ynew,f6,f25,f26,f27,wrap64_in]);try simp only[yback])
   refine InvQ_go (2-(0+1)) (by omega) ⟨(0+1),sv',rfl,by omega,(by first|rfl|exact f6|(simp only[upd_apply];rfl)|(show I64 _=_;congr 1;omega)),(by first|rfl|exact f25|(simp only[upd_apply];rfl)|(show I64 _=_;congr 1;omega)),(by first|rfl|exact f26|(simp only[upd_apply];rfl)|(show I64 _=_;congr 1;omega)),(rfl),(p' _ (Nat.le_refl _) pp),o'⟩
  ·((try simp (maxSteps:=3000000) (dsimp:=false) (disch:=first|omega|simp only[lnx];omega) only[↓ypre,ypost,↓reduceIte,reduceEqDiff,reduceAdd,reduceSub,reduceLeDiff,zz0,ynew,f6,f25,f26,f27,show ((1:Nat):Int)=1 from rfl,show decide ((1:Int)<2)=true from rfl,j1,rd1_of hm2]);try simp only[yback])
   refine o.appR (hb.pre pp) wR (by show L.length+R.length≤1000;omega) lK fun sv' H' p' o'=>?_
   ((try simp (maxSteps:=3000000) (dsimp:=false) (disch:=first|omega|simp only[lnx];omega) only[↓ypre,ypost,↓reduceIte,reduceEqDiff,reduceAdd,reduceSub,reduceLeDiff,zz0,ynew,f6,f25,f26,f27,wrap64_in]);try simp only[yback])
   refine InvQ_go (2-(1+1)) (by omega) ⟨(1+1),sv',rfl,by omega,(by first|rfl|exact f6|(simp only[upd_apply];rfl)|(show I64 _=_;congr 1;omega)),(by first|rfl|exact f25|(simp only[upd_apply];rfl)|(show I64 _=_;congr 1;omega)),(by first|rfl|exact f26|(simp only[upd_apply];rfl)|(show I64 _=_;congr 1;omega)),(rfl),(p' _ (Nat.le_refl _) pp),o'⟩
 ·have ei:i=2:=by omega
  subst ei
  ((try simp (maxSteps:=3000000) (dsimp:=false) (disch:=first|omega|simp only[lnx];omega) only[↓ypre,ypost,↓reduceIte,reduceEqDiff,reduceAdd,reduceSub,reduceLeDiff,zz0,ynew,f6,f25,f26,f27,decide_eq_false hlt]);try simp only[yback])
  exact hQ _ _ pp o
theorem i_withoutAt {w:Value} {L:List (List Int)} {k:Nat} {h:AH} {Q:Value→AH→Prop} (hw:Els .u8 27 h w L) (hk:k<L.length) (hl:L.length≤1000) (hQ:∀ w' h',h<+:h'→OwnP h.length h' w' (rmv L k)→Q w' h'):WF S 73 [w,I64 k] h Q:=by
 refine WF_fn (fn:=c73) rfl rfl ?_
 dsimp only[c73,oO,oM,oS,oG,oK,oE,oL,oF,oX,oN]
 have w27:Wid 27 L:=hw.widL
 obtain⟨b,off,rfl,hrd⟩:=hw.rdAll (by omega)
 have s1:slcV 27 (.slice (some ⟨b,off,none⟩) L.length 27) none (some (I64 k))=some (.slice (some ⟨b,off,none⟩) k 27):=by
  simp only[slcV,boundV]
  by_cases h0:0<k
  ·rw[if_pos ⟨trivial,by omega,by omega,by omega⟩]
   simp
  ·rw[if_neg (fun x=>by have:=x.2.2.1;omega),if_pos ⟨trivial,trivial,trivial,by omega⟩]
   rw[show k=0 by omega]
 obtain⟨w2,s2,e2⟩:∃ w2,slcV 27 (.slice (some ⟨b,off,none⟩) L.length 27) (some (I64 ((k+1:Nat):Int))) none=some w2∧RdE h w2 (L.drop (k+1)):=by
  by_cases h1:k+1<L.length
  ·refine⟨.slice (some ⟨b,off+(k+1)*27,none⟩) (L.length-(k+1)) 27,?_,.inr ⟨b,off+(k+1)*27,by rw[List.length_drop],?_⟩⟩
   ·simp only[slcV,boundV]
    rw[if_pos ⟨trivial,by omega,by omega,by omega⟩,Int.toNat_natCast,show ((L.length:Int)-((k+1:Nat):Int)).toNat=L.length-(k+1) by omega]
   ·have:=rdn_sub w27 hrd (j:=k+1) (m:=L.length-(k+1)) (by omega)
    rw[List.take_of_length_le (by rw[List.length_drop];exact Nat.le_refl _)] at this
    rw[List.length_drop]
    exact this
  ·refine⟨.slice none 0 1,?_,.inl ⟨List.drop_of_length_le (by omega),1,rfl⟩⟩
   simp only[slcV,boundV]
   rw[if_neg (fun x=>by have:=x.2.2.1;omega),if_neg (fun x=>by have:=x.2.1;cases this),if_pos ⟨trivial,by omega,by omega,by omega⟩]
 have e1:RdE h (.slice (some ⟨b,off,none⟩) k 27) (L.take k):=by
  have lt:(L.take k).length=k:=by rw[List.length_take];omega
  have:=rdn_sub w27 hrd (j:=0) (m:=k) (by omega)
  rw[Nat.zero_mul,Nat.add_zero,List.drop_zero] at this
  exact .inr ⟨b,off,by rw[lt],by rw[lt];exact this⟩
 have q1:(k:Int)+1=((k+1:Nat):Int):=by push_cast;rfl
 have wk:IntKind.i64.wrap ((k:Int)+1)=((k+1:Nat):Int):=by rw[wrap64_in (by omega) (by omega),q1]
 ((try simp (maxSteps:=3000000) (dsimp:=false) (disch:=first|omega|simp only[lnx];omega) only[↓ypre,ypost,↓reduceIte,reduceEqDiff,reduceAdd,reduceSub,reduceLeDiff,zz0,ynew,omapF_none,omapF_some,s1,wk,s2,fillL,zrep,e1.one,e1.cells,e2.one,e2.cells]);try simp only[yback])
 generalize hH1:AH.new h _=H1
 obtain⟨hb1,p1,n1⟩:=new_facts hH1
 refine i_ConcatP hb1 (e1.pre p1) (e2.pre p1) (fun q hq=>w27 q (List.mem_of_mem_take hq)) (fun q hq=>w27 q (List.mem_of_mem_drop hq)) (by rw[List.length_take,List.length_drop];omega) fun w' H2 p2 o2=>?_
 ((try simp (maxSteps:=3000000) (dsimp:=false) (disch:=first|omega|simp only[lnx];omega) only[↓ypre,ypost,↓reduceIte,reduceEqDiff,reduceAdd,reduceSub,reduceLeDiff,zz0,ynew]);try simp only[yback])
 refine hQ w' H2 (p1.trans p2) ?_
 obtain⟨o3,o4|⟨kb,fu,o5,o6,o7⟩⟩:=o2
 ·exact⟨o3,.inl o4⟩
 ·exact⟨o3,.inr ⟨kb,fu,o5,by omega,o7⟩⟩
theorem OwnP.pre {lo:Nat} {h h':AH} {w:Value} {L:List (List Int)} (o:OwnP lo h w L) (p:h<+:h'):OwnP lo h' w L:=by
 obtain⟨hw,o|⟨kb,fu,h1,h2,h3⟩⟩:=o
 ·exact⟨hw,.inl o⟩
 ·exact⟨hw,.inr ⟨kb,fu,h1,h2,pre_get p h3⟩⟩
theorem OwnP.low {lo lo':Nat} {h:AH} {w:Value} {L:List (List Int)} (o:OwnP lo h w L) (hl:lo'≤lo):OwnP lo' h w L:=by
 obtain⟨hw,o|⟨kb,fu,h1,h2,h3⟩⟩:=o
 ·exact⟨hw,.inl o⟩
 ·exact⟨hw,.inr ⟨kb,fu,h1,by omega,h3⟩⟩
theorem OwnP.prods {lo:Nat} {h:AH} {w:Value} {L:List (List Int)} (o:OwnP lo h w L) (b:Byt 27 L):Prods h w L:=⟨o.inE.rd,b⟩
theorem i_reduceOnce {x:Sch} {w:Value} {L:List (List Int)} {h:AH} {Q:Value→AH→Prop} (n:NL x L) (hv:Prods h w L)
  (hQ:∀ i k m w' h',h<+:h'→IsPair x.p L i k m→OwnP h.length h' w' (jn x.p L i k m)→Q (.tuple #[w',.bool true]) h')
  (hN:∀ h',h<+:h'→NoPair x.p L→Q (.tuple #[w,.bool false]) h'):WF S 29 [I64 x.p,w] h Q:=by
 refine WF_fn (fn:=c29) rfl rfl ?_
 dsimp only[c29,oO,oM,oS,oG,oK,oE,oL,oF,oX,oN]
 obtain⟨hs,h30,hall⟩:=n.g.parts
 have hP:isP x.p=true:=szX_isP hs
 have h30:L.length≤30:=h30
 have vl:=hv.1.len
 ((try simp (maxSteps:=3000000) (dsimp:=false) (disch:=first|omega|simp only[lnx];omega) only[↓ypre,ypost,↓reduceIte,reduceEqDiff,reduceAdd,reduceSub,reduceLeDiff,zz0,ynew,vl]);try simp only[yback])
 refine WC_loop_inv (fun m f K1=>∃ (i:Nat),m=L.length-i∧i≤L.length∧f 0=I64 x.p∧f 1=w∧f 11=w∧f 12=I64 L.length∧f 13=I64 i∧(h<+:K1)∧((∀ i' k',i'<i→i'<k'→k'<L.length→mrg x.p (L.getD i' []) (L.getD k' [])=none))) ?_ (L.length-0) _ _ ⟨0,rfl,by omega,(by first|rfl|simp[upd_apply]),(by first|rfl|simp[upd_apply]),(by first|rfl|simp[upd_apply]),(by first|rfl|simp[upd_apply]),(by first|rfl|simp[upd_apply]),List.prefix_refl _,(fun _ _ h=>absurd h (Nat.not_lt_zero _))⟩
 rintro m f K1 ⟨i,rfl,hi,f0,f1,f11,f12,f13,pp,no⟩
 by_cases hi':(i:Int)<L.length
 ·have hi:i<L.length:=by omega
  obtain⟨nn,off,ix,rd⟩:=((hv.pre pp).1).at hi
  have pi:Pr x.p (L.getD i []):=n.g.pr (gd_mem hi)
  have a27:=pi.bb.1
  have ra:AH.rdn K1 nn off 27=some (cel .u8 (L.getD i [])):=by
   have:=rd.1 0 27 (by omega)
   rwa [Nat.add_zero,List.drop_zero,List.take_of_length_le (by omega)] at this
  have ta:(cel .u8 (L.getD i [])).take 27=cel .u8 (L.getD i []):=List.take_of_length_le (by rw[cel_len,a27];exact Nat.le_refl _)
  have q1:(i:Int)+1=((i+1:Nat):Int):=by push_cast;rfl
  have wi:IntKind.i64.wrap ((i:Int)+1)=((i+1:Nat):Int):=by rw[wrap64_in (by omega) (by omega),q1]
  ((try simp (maxSteps:=3000000) (dsimp:=false) (disch:=first|omega|simp only[lnx];omega) only[↓ypre,ypost,↓reduceIte,reduceEqDiff,reduceAdd,reduceSub,reduceLeDiff,zz0,ynew,f0,f1,f11,f12,f13,decide_eq_true hi',ix,ra,cel_all,cel_len,a27,sp27z a27,zrep27,splice_27 a27,wi]);try simp only[yback])
  generalize hJ1:AH.new K1 _=J1
  obtain⟨b1,s1,m1⟩:=new_facts hJ1
  refine WC_loop_inv (fun m f K2=>∃ (k:Nat),m=L.length-k∧k≤L.length∧f 0=I64 x.p∧f 1=w∧f 6=I64 i∧f 7=.pointer (some ⟨K1.length,0,none⟩)∧f 8=I64 k∧f 11=w∧f 12=I64 L.length∧f 13=I64 i∧(J1<+:K2)∧(i<k)∧((∀ k',i<k'→k'<k→mrg x.p (L.getD i []) (L.getD k' [])=none))) ?_ (L.length-(i+1)) _ _ ⟨(i+1),rfl,by omega,(by first|rfl|exact f0|(simp[upd_apply];done)),(by first|rfl|exact f1|(simp[upd_apply];done)),(by first|rfl|simp[upd_apply]),(by first|rfl|simp[upd_apply]),(by first|rfl|simp[upd_apply]),(by first|rfl|exact f11|(simp[upd_apply];done)),(by first|rfl|exact f12|(simp[upd_apply];done)),(by first|rfl|exact f13|(simp[upd_apply];done)),List.prefix_refl _,(by omega),(fun k' h1 h2=>by omega)⟩
  rintro m f K2 ⟨k,rfl,hk,f0,f1,f6,f7,f8,f11,f12,f13,pp2,ik,no2⟩
  have pp3:=pp.trans (s1.trans pp2)
  by_cases hk':(k:Int)<L.length
  ·have hk:k<L.length:=by omega
   obtain⟨nk,ok,ixk,rdk⟩:=((hv.pre pp3).1).at hk
   have pk:Pr x.p (L.getD k []):=n.g.pr (gd_mem hk)
   have b27:=pk.bb.1
   have rk:AH.rdn K2 nk ok 27=some (cel .u8 (L.getD k [])):=by
    have:=rdk.1 0 27 (by omega)
    rwa [Nat.add_zero,List.drop_zero,List.take_of_length_le (by omega)] at this
   ((try simp (maxSteps:=3000000) (dsimp:=false) (disch:=first|omega|simp only[lnx];omega) only[↓ypre,ypost,↓reduceIte,reduceEqDiff,reduceAdd,reduceSub,reduceLeDiff,zz0,ynew,f0,f1,f6,f7,f8,f11,f12,f13,vl,decide_eq_true hk',rdn_of (pre_get pp2 b1),cel_len,a27,ta,ixk,rk]);try simp only[yback])
   refine i_merged hP pi pk (fun m K3 p3 hm=>?_) (fun K3 p3 hm=>?_)
   ·have ipair:IsPair x.p L i k m:=⟨ik,hk,hm,fun i' k' h1 h2 h3=>by
     rcases h3 with h3|⟨rfl,h3⟩
     ·exact no i' k' h3 h1 h2
     ·exact no2 k' h1 h3⟩
    obtain⟨mb,mo,mz⟩:=pair_m n ipair
    have m27:=mb.1
    have tm27:(cel .u8 m).take 27=cel .u8 m:=List.take_of_length_le (by rw[cel_len,m27];exact Nat.le_refl _)
    ((try simp (maxSteps:=3000000) (dsimp:=false) (disch:=first|omega|simp only[lnx];omega) only[↓ypre,ypost,↓reduceIte,reduceEqDiff,reduceAdd,reduceSub,reduceLeDiff,zz0,ynew,f0,f1,f6,f7,f8,f11,f12,f13,aggV,cellsL_cel,cel_len,m27,cel_all]);try simp only[yback])
    generalize hJ2:AH.new K3 _=J2
    obtain⟨b2,s2,m2⟩:=new_facts hJ2
    have pp4:=pp3.trans (p3.trans s2)
    refine i_withoutAt ((hv.pre pp4).1) hk (by omega) fun w1 K4 p4 o4=>?_
    ((try simp (maxSteps:=3000000) (dsimp:=false) (disch:=first|omega|simp only[lnx];omega) only[↓ypre,ypost,↓reduceIte,reduceEqDiff,reduceAdd,reduceSub,reduceLeDiff,zz0,ynew,f0,f1,f6,f7,f8,f11,f12,f13,rdn_of (pre_get p4 b2),cel_len,m27,tm27]);try simp only[yback])
    refine i_hasZero mb fun K5 p5=>?_
    have lr:=rmv_len hk
    have l4:=pre_len pp4
    have o5:=o4.pre p5
    have bR:Byt 27 (rmv L k):=(byt_iff o5.1).2 fun q hq=>(hall q (rmv_mem hq)).1
    cases hz:hasZ m with
    | true=>
     ((try simp (maxSteps:=3000000) (dsimp:=false) (disch:=first|omega|simp only[lnx];omega) only[↓ypre,ypost,↓reduceIte,reduceEqDiff,reduceAdd,reduceSub,reduceLeDiff,zz0,ynew,f0,f1,f6,f7,f8,f11,f12,f13]);try simp only[yback])
     refine i_withoutAt (L:=rmv L k) o5.inE.rd (by omega) (by omega) fun w2 K6 p6 o6=>?_
     ((try simp (maxSteps:=3000000) (dsimp:=false) (disch:=first|omega|simp only[lnx];omega) only[↓ypre,ypost,↓reduceIte,reduceEqDiff,reduceAdd,reduceSub,reduceLeDiff,zz0,ynew,f0,f1,f6,f7,f8,f11,f12,f13]);try simp only[yback])
     refine hQ i k m w2 K6 (pp4.trans (p4.trans (p5.trans p6))) ipair ?_
     unfold jn
     rw[if_pos hz]
     exact o6.low (by have:=pre_len p4;have:=pre_len p5;omega)
    | false=>
     have pm:=Pr.of mb (mz hz)
     ((try simp (maxSteps:=3000000) (dsimp:=false) (disch:=first|omega|simp only[lnx];omega) only[↓ypre,ypost,↓reduceIte,reduceEqDiff,reduceAdd,reduceSub,reduceLeDiff,zz0,ynew,f0,f1,f6,f7,f8,f11,f12,f13,rdn_of (pre_get (p4.trans p5) b2),cel_len,m27,tm27]);try simp only[yback])
     refine i_normal hP pm fun K6 p6=>?_
     obtain⟨wR,⟨-,e0⟩|⟨kb,fu,rfl,hkb,gkb⟩⟩:=o5.pre p6
     ·have:=congrArg List.length e0
      simp only[List.length_nil] at this
      omega
     have n27:=(nrm_Pr hP pm).bb.1
     have ie:ixsV 27 (.slice (some ⟨kb,0,none⟩) (rmv L k).length 27) (I64 i)=some (.pointer (some ⟨kb,i*27,none⟩)):=by
      rw[ixsV_some,if_pos (by omega),Int.toNat_natCast,Nat.zero_add]
     have sf:=splice_flat (k:=.u8) n27 wR (j:=i) (by omega)
     have fl:=flat_len wR
     have w3:AH.wr K6 kb (i*27) (cel .u8 (nrm x.p m))=_:=wr_of gkb
     simp only[cel_len,n27,fl,sf] at w3
     rw[if_pos ⟨trivial,by omega⟩] at w3
     ((try simp (maxSteps:=3000000) (dsimp:=false) (disch:=first|omega|simp only[lnx];omega) only[↓ypre,ypost,↓reduceIte,reduceEqDiff,reduceAdd,reduceSub,reduceLeDiff,zz0,ynew,f0,f1,f6,f7,f8,f11,f12,f13,aggV,cellsL_cel,cel_len,n27,cel_all,ie,w3]);try simp only[yback])
     have P6:=pp4.trans (p4.trans (p5.trans p6))
     refine hQ i k m _ _ (pre_put P6 (by omega)) ipair ?_
     unfold jn
     rw[if_neg (by rw[hz];decide)]
     exact⟨wid_set wR n27,.inr ⟨kb,fu,by rw[List.length_set],by omega,get_put_same (get_lt gkb)⟩⟩
   ·((try simp (maxSteps:=3000000) (dsimp:=false) (disch:=first|omega|simp only[lnx];omega) only[↓ypre,ypost,↓reduceIte,reduceEqDiff,reduceAdd,reduceSub,reduceLeDiff,zz0,ynew,f0,f1,f6,f7,f8,f11,f12,f13,aggV,cellsL_cel,cel_len,List.length_replicate,cel_all,wrap64_in]);try simp only[yback])
    refine InvQ_go (L.length-(k+1)) (by omega) ⟨(k+1),rfl,by omega,(by first|rfl|exact f0|(simp only[upd_apply];rfl)|(show I64 _=_;congr 1;omega)),(by first|rfl|exact f1|(simp only[upd_apply];rfl)|(show I64 _=_;congr 1;omega)),(by first|rfl|exact f6|(simp only[upd_apply];rfl)|(show I64 _=_;congr 1;omega)),(by first|rfl|exact f7|(simp only[upd_apply];rfl)|(show I64 _=_;congr 1;omega)),(by first|rfl|exact f8|(simp only[upd_apply];rfl)|(show I64 _=_;congr 1;omega)),(by first|rfl|exact f11|(simp only[upd_apply];rfl)|(show I64 _=_;congr 1;omega)),(by first|rfl|exact f12|(simp only[upd_apply];rfl)|(show I64 _=_;congr 1;omega)),(by first|rfl|exact f13|(simp only[upd_apply];rfl)|(show I64 _=_;congr 1;omega)),(pp2.trans (p3.trans (pre_new (List.prefix_refl _)))),(by omega),?_⟩
    intro k' h1 h2
    by_cases h3:k'<k
    ·exact no2 k' h1 h3
    ·have:k'=k:=by omega
     rw[this]
     exact hm
  ·skip
   ((try simp (maxSteps:=3000000) (dsimp:=false) (disch:=first|omega|simp only[lnx];omega) only[↓ypre,ypost,↓reduceIte,reduceEqDiff,reduceAdd,reduceSub,reduceLeDiff,zz0,ynew,f0,f1,f6,f7,f8,f11,f12,f13,vl,decide_eq_false hk',wrap64_in]);try simp only[yback])
   refine InvQ_go (L.length-(i+1)) (by omega) ⟨(i+1),rfl,by omega,(by first|rfl|exact f0|(simp only[upd_apply];rfl)|(show I64 _=_;congr 1;omega)),(by first|rfl|exact f1|(simp only[upd_apply];rfl)|(show I64 _=_;congr 1;omega)),(by first|rfl|exact f11|(simp only[upd_apply];rfl)|(show I64 _=_;congr 1;omega)),(by first|rfl|exact f12|(simp only[upd_apply];rfl)|(show I64 _=_;congr 1;omega)),(by first|rfl|exact f13|(simp only[upd_apply];rfl)|(show I64 _=_;congr 1;omega)),pp3,?_⟩
   intro i' k' h1 h2 h3
   by_cases h4:i'<i
   ·exact no i' k' h4 h2 h3
   ·have:i'=i:=by omega
    subst this
    exact no2 k' h2 (by omega)
 ·skip
  ((try simp (maxSteps:=3000000) (dsimp:=false) (disch:=first|omega|simp only[lnx];omega) only[↓ypre,ypost,↓reduceIte,reduceEqDiff,reduceAdd,reduceSub,reduceLeDiff,zz0,ynew,f0,f1,f11,f12,f13,decide_eq_false hi']);try simp only[yback])
  exact hN _ pp fun i' k' h1 h2=>no i' k' (by omega) h1 h2
noncomputable def rdR (x:Sch):Sch×Int:=if isX x=true then (redX x,0) else (zeroS,1)
theorem i_ReduceScheme {x:Sch} {v:Value} {h:AH} {Q:Value→AH→Prop} (hv:Prods h v x.ps) (hl:SmallX x.ps)
  (hQ:∀ w h',h<+:h'→KN h.length h' (fun h2=>Prods h2 w (rdR x).1.ps)→NK w→Q (.tuple #[schV (rdR x).1 w,I64 (rdR x).2]) h'):WF S 6 [schV x v] h Q:=by
 refine WF_fn (fn:=c6) rfl rfl ?_
 dsimp only[c6,oO,oM,oS,oG,oK,oE,oL,oF,oX,oN]
 have o1:=hv.one
 have nz:NK (.slice none 0 0):=.inl (.inl rfl)
 ((try simp (maxSteps:=3000000) (dsimp:=false) (disch:=first|omega|simp only[lnx];omega) only[↓ypre,ypost,↓reduceIte,reduceEqDiff,reduceAdd,reduceSub,reduceLeDiff,zz0,ynew,schV,o1]);try simp only[yback])
 generalize hH1:AH.new h _=H1
 obtain⟨hb1,p1,n1⟩:=new_facts hH1
 generalize hH2:AH.new H1 _=H2
 obtain⟨hb2,p2,n2⟩:=new_facts hH2
 have g1:=pre_get p2 hb1
 ((try simp (maxSteps:=3000000) (dsimp:=false) (disch:=first|omega|simp only[lnx];omega) only[↓ypre,ypost,↓reduceIte,reduceEqDiff,reduceAdd,reduceSub,reduceLeDiff,zz0,ynew,rdn_of g1]);try simp only[yback])
 refine i_IsScheme (x:=x) (hv.pre (p1.trans p2)) hl fun H3 p3=>?_
 have g1:=pre_get p3 g1
 have g2:=pre_get p3 hb2
 have l2:=get_lt g2
 have P3:=p1.trans (p2.trans p3)
 have q3:=pre_len p3
 unfold rdR at hQ
 cases hx:isX x with
 | false=>
  rw[hx] at hQ
  ((try simp (maxSteps:=3000000) (dsimp:=false) (disch:=first|omega|simp only[lnx];omega) only[↓ypre,ypost,↓reduceIte,reduceEqDiff,reduceAdd,reduceSub,reduceLeDiff,zz0,ynew,fillL,wr_of g2,splice_eq,rdn_put_same]);try simp only[yback])
  exact hQ _ _ (pre_put P3 (by omega)) zeroS_kn nz
 | true=>
 rw[hx] at hQ
 simp only[if_true] at hQ
 have g:=GX.of' hv hx
 ((try simp (maxSteps:=3000000) (dsimp:=false) (disch:=first|omega|simp only[lnx];omega) only[↓ypre,ypost,↓reduceIte,reduceEqDiff,reduceAdd,reduceSub,reduceLeDiff,zz0,ynew,rdn_of g1]);try simp only[yback])
 refine i_normals (x:=x) g (hv.pre P3) fun w0 H4 p4 o4=>?_
 have g1:=pre_get p4 g1
 have g2:=pre_get p4 g2
 obtain⟨nl,-⟩:=nrms_NL g
 refine WO_cut (fun f:Fr=>f 1=.pointer (some ⟨h.length,0,none⟩)∧f 2=.pointer (some ⟨H1.length,0,none⟩)∧f 11=schV (wps x (nrms x.p x.ps)) w0∧True) ⟨(by first|rfl|simp[upd_apply]),(by first|rfl|simp[upd_apply]),(by first|rfl|simp[upd_apply]),trivial⟩ ?_
 rintro f ⟨f1,f2,f11,-⟩
 have w4:([I64 x.p,I64 x.n,I64 x.m,I64 x.k,w0]:List Value)[4]?=some w0:=rfl
 ((try simp (maxSteps:=3000000) (dsimp:=false) (disch:=first|omega|simp only[lnx];omega) only[↓ypre,ypost,↓reduceIte,reduceEqDiff,reduceAdd,reduceSub,reduceLeDiff,zz0,ynew,f1,f2,f11,schV]);try simp only[yback])
 refine WC_loop_inv (fun m f K=>∃ (L:List (List Int)) (vv:Value) (ag:Bool),m=(if ag=true then L.length+1 else 0)∧f 1=.pointer (some ⟨h.length,0,none⟩)∧f 2=.pointer (some ⟨H1.length,0,none⟩)∧f 4=vv∧f 5=.bool ag∧H4<+:K∧OwnP H3.length K vv L∧NL x L∧Red x.p L (redL x.p (nrms x.p x.ps))∧(ag=false→L=redL x.p (nrms x.p x.ps))) ?_ ((nrms x.p x.ps).length+1) _ _ ⟨nrms x.p x.ps,w0,true,rfl,f1,f2,rfl,rfl,List.prefix_refl _,o4,nl,redL_red,fun h=>by cases h⟩
 rintro m f K ⟨L,vv,ag,rfl,f1,f2,f4,f5,pp,oL,nL,rL,eL⟩
 have gK1:=pre_get pp g1
 have gK2:=pre_get pp g2
 have P4:=P3.trans (p4.trans pp)
 cases ag with
 | true=>
  ((try simp (maxSteps:=3000000) (dsimp:=false) (disch:=first|omega|simp only[lnx];omega) only[↓ypre,ypost,↓reduceIte,reduceEqDiff,reduceAdd,reduceSub,reduceLeDiff,zz0,ynew,f1,f2,f4,f5,rd1_of gK1]);try simp only[yback])
  refine i_reduceOnce nL (oL.prods nL.g.b) (fun i k m' w' K2 p5 ip o5=>?_) (fun K2 p5 np=>?_)
  ·have hln:=jn_len (p:=x.p) (m:=m') ip.kl ip.ik
   ((try simp (maxSteps:=3000000) (dsimp:=false) (disch:=first|omega|simp only[lnx];omega) only[↓ypre,ypost,↓reduceIte,reduceEqDiff,reduceAdd,reduceSub,reduceLeDiff,zz0,ynew,f1,f2,f4,f5]);try simp only[yback])
   refine InvQ_go ((jn x.p L i k m').length+1) (by omega) ⟨jn x.p L i k m',w',true,rfl,f1,f2,rfl,rfl,pp.trans p5,o5.low (by have:=pre_len (p4.trans pp);omega),(jn_NL nL ip).1,rL.next ip,fun h=>by cases h⟩
  ·((try simp (maxSteps:=3000000) (dsimp:=false) (disch:=first|omega|simp only[lnx];omega) only[↓ypre,ypost,↓reduceIte,reduceEqDiff,reduceAdd,reduceSub,reduceLeDiff,zz0,ynew,f1,f2,f4,f5]);try simp only[yback])
   refine InvQ_go 0 (by omega) ⟨L,vv,false,rfl,f1,f2,rfl,rfl,pp.trans p5,oL.pre p5,nL,rL,fun _=>(rL.end np).symm⟩
 | false=>
  have eR:=eL rfl
  subst eR
  ((try simp (maxSteps:=3000000) (dsimp:=false) (disch:=first|omega|simp only[lnx];omega) only[↓ypre,ypost,↓reduceIte,reduceEqDiff,reduceAdd,reduceSub,reduceLeDiff,zz0,ynew,f1,f2,f4,f5,rdn_of gK1]);try simp only[yback])
  refine i_with (x:=x) (L:=redL x.p (nrms x.p x.ps)) (v:=v) o1 oL.nk.one oL.nk.cells fun K2 p5=>?_
  have gK2:=pre_get p5 gK2
  have l2:=get_lt gK2
  have kn:=(oL.pre p5).kN (lo':=H2.length) nL.g.b q3
  ((try simp (maxSteps:=3000000) (dsimp:=false) (disch:=first|omega|simp only[lnx];omega) only[↓ypre,ypost,↓reduceIte,reduceEqDiff,reduceAdd,reduceSub,reduceLeDiff,zz0,ynew,f1,f2,f4,f5,schV,oL.nk.one,wr_of gK2,splice_eq,rdn_put_same]);try simp only[yback])
  exact hQ vv _ (pre_put (P4.trans p5) (by omega)) ((KN.put kn (by omega)).mono (by omega)) oL.nk
theorem s_l03AllNormal {x:Sch} {v:Value} {h:AH} {Q:Value→AH→Prop} (g:GX x) (hv:Prods h v x.ps) (hQ:∀ w h',h<+:h'→KN h.length h' (fun h2=>Prods h2 w (nrms x.p x.ps))→Q (schV (wps x (nrms x.p x.ps)) w) h'):WF S 59 [schV x v] h Q:=by
 refine WF_fn (fn:=c59) rfl rfl ?_
 dsimp only[c59,oO,oM,oS,oG,oK,oE,oL,oF,oX,oN]
 have o1:=hv.one
 obtain⟨hs,h30,hall⟩:=g.parts
 have hP:=szX_isP hs
 ((try simp (maxSteps:=3000000) (dsimp:=false) (disch:=first|omega|simp only[lnx];omega) only[↓ypre,ypost,↓reduceIte,reduceEqDiff,reduceAdd,reduceSub,reduceLeDiff,zz0,ynew,schV,o1]);try simp only[yback])
 generalize hH1:AH.new h _=H1
 obtain⟨hb1,p1,n1⟩:=new_facts hH1
 generalize hH2:AH.new H1 _=H2
 obtain⟨hb2,p2,n2⟩:=new_facts hH2
 have g1:=pre_get p2 hb1
 ((try simp (maxSteps:=3000000) (dsimp:=false) (disch:=first|omega|simp only[lnx];omega) only[↓ypre,ypost,↓reduceIte,reduceEqDiff,reduceAdd,reduceSub,reduceLeDiff,zz0,ynew,rdn_of g1]);try simp only[yback])
 refine s_l01Empty (x:=x) o1 fun H3 p3=>?_
 ((try simp (maxSteps:=3000000) (dsimp:=false) (disch:=first|omega|simp only[lnx];omega) only[↓ypre,ypost,↓reduceIte,reduceEqDiff,reduceAdd,reduceSub,reduceLeDiff,zz0,ynew,schV]);try simp only[yback])
 generalize hH4:AH.new H3 _=H4
 obtain⟨hb4,p4,n4⟩:=new_facts hH4
 have g1:=pre_get p3 g1
 have g2:=pre_get p3 hb2
 have q3:=pre_len p3
 have P3:h<+:H3:=p1.trans (p2.trans p3)
 have w0:WayZ H4.length H4.length H4.length H4 (.slice none 0 2) (nrms x.p (x.ps.take 0)):=⟨fun r hr=>by simp[nrms] at hr,.inl ⟨rfl,rfl⟩⟩
 have elen:=hv.1.len
 refine WC_loop_inv (fun m f K1=>∃ (i:Nat) (sv:Value),m=x.ps.length-i∧i≤x.ps.length∧f 1=.pointer (some ⟨h.length,0,none⟩)∧f 2=.pointer (some ⟨H1.length,0,none⟩)∧f 3=.pointer (some ⟨H3.length,0,none⟩)∧f 4=I64 i∧(H3<+:K1)∧(H4.length≤K1.length)∧(OwnB K1 H3.length [I64 x.p,I64 x.n,I64 x.m,I64 x.k,sv] true)∧(WayZ H4.length H4.length H4.length K1 sv (nrms x.p (x.ps.take i)))) ?_ (x.ps.length-0) _ _ ⟨0,.slice none 0 2,rfl,by omega,(by first|rfl|simp[upd_apply]),(by first|rfl|simp[upd_apply]),(by first|rfl|simp[upd_apply]),(by first|rfl|simp[upd_apply]),p4,Nat.le_refl _,⟨_,hb4⟩,w0⟩
 rintro m f K1 ⟨i,sv,rfl,hi,f1,f2,f3,f4,pp,l1,g5,ww⟩
 obtain⟨e5,g5⟩:=g5
 have gx:=pre_get pp g1
 by_cases hlt:(i:Int)<x.ps.length
 ·have hi:i<x.ps.length:=by omega
  obtain⟨nn,off,ix,rd⟩:=((hv.pre (P3.trans pp)).1).at hi
  have prq:=g.pr (gd_mem hi)
  have q27:=prq.bb.1
  have r27:AH.rdn K1 nn off 27=some (cel .u8 (x.ps.getD i [])):=by
   have:=rd.1 0 27 (by omega)
   rwa [Nat.add_zero,List.drop_zero,List.take_of_length_le (by omega)] at this
  ((try simp (maxSteps:=3000000) (dsimp:=false) (disch:=first|omega|simp only[lnx];omega) only[↓ypre,ypost,↓reduceIte,reduceEqDiff,reduceAdd,reduceSub,reduceLeDiff,zz0,ynew,f1,f2,f3,f4,rd1_of gx,elen,decide_eq_true hlt,rd1_of g5,ix,r27]);try simp only[yback])
  refine s_l03Normal hP prq fun K2 s2=>⟨s2,?_⟩
  have n27:=(nrm_Pr hP prq).bb.1
  have L5:=pre_len s2
  have g55:=pre_get s2 g5
  have ln:(nrms x.p (x.ps.take i)).length=i:=by unfold nrms;rw[List.length_map,List.length_take];omega
  ((try simp (maxSteps:=3000000) (dsimp:=false) (disch:=first|omega|simp only[lnx];omega) only[↓ypre,ypost,↓reduceIte,reduceEqDiff,reduceAdd,reduceSub,reduceLeDiff,zz0,ynew,f1,f2,f3,f4,aggV,cellsL_cel,cel_len,n27,zrep27,sp27z n27,fillL,cel_all,List.append_nil,List.length_replicate]);try simp only[yback])
  refine (ww.pre s2).app (q:=nrm x.p (x.ps.getD i [])) n27 (by omega) (by omega) (by omega) fun sv' H' l' pre' keep' w'=>?_
  have g6:=keep' _ _ (.inl (by omega)) g55
  have lt6:=get_lt g6
  ((try simp (maxSteps:=3000000) (dsimp:=false) (disch:=first|omega|simp only[lnx];omega) only[↓ypre,ypost,↓reduceIte,reduceEqDiff,reduceAdd,reduceSub,reduceLeDiff,zz0,ynew,f1,f2,f3,f4,w'.one,w'.cells,wr_of g6,splice_eq,wrap64_in]);try simp only[yback])
  rw[←nrms_next hi] at w'
  refine InvQ_go (x.ps.length-(i+1)) (by omega) ⟨(i+1),sv',rfl,by omega,(by first|rfl|exact f1|(simp only[upd_apply];rfl)|(show I64 _=_;congr 1;omega)),(by first|rfl|exact f2|(simp only[upd_apply];rfl)|(show I64 _=_;congr 1;omega)),(by first|rfl|exact f3|(simp only[upd_apply];rfl)|(show I64 _=_;congr 1;omega)),(by first|rfl|exact f4|(simp only[upd_apply];rfl)|(show I64 _=_;congr 1;omega)),(pre_put (pre' _ (by omega) (pp.trans s2)) (Nat.le_refl _)),(by rw[len_put];omega),⟨_,get_put_same lt6⟩,(w'.putz (by omega))⟩
 ·have ei:i=x.ps.length:=by omega
  subst ei
  rw[List.take_length] at ww
  have g2:=pre_get pp g2
  have lt2:=get_lt g2
  have q1:=pre_len pp
  have bl:Byt 27 (nrms x.p x.ps):=(nrms_NL g).1.g.b
  ((try simp (maxSteps:=3000000) (dsimp:=false) (disch:=first|omega|simp only[lnx];omega) only[↓ypre,ypost,↓reduceIte,reduceEqDiff,reduceAdd,reduceSub,reduceLeDiff,zz0,ynew,f1,f2,f3,f4,rd1_of gx,elen,decide_eq_false hlt,rdn_of g5,wr_of g2,splice_eq,rdn_put_same,ww.one]);try simp only[yback])
  exact hQ sv _ (pre_put (P3.trans pp) (by omega)) ((ww.putz (by omega)).kN bl (by omega))
theorem gx_told {x:Sch} {L:List (List Int)} {m:List Int} {i k:Nat} (n:NL x L) (hp:IsPair x.p L i k m):GX (wps x (toldL ((rmv L k).set i m))):=by
 obtain⟨h1,h2,h3⟩:=n.g.parts
 obtain⟨mb,mo,mz⟩:=pair_m n hp
 have h2:L.length≤30:=h2
 have ll:=toldL_len (L:=(rmv L k).set i m)
 rw[List.length_set,rmv_len hp.kl] at ll
 refine GX.of h1 (by omega) fun q hq=>?_
 have hq:=List.mem_filter.1 hq
 rcases List.mem_or_eq_of_mem_set hq.1 with h|rfl
 ·exact h3 q (rmv_mem h)
 ·exact⟨mb,mz (by simpa using hq.2)⟩
end Go.Proofs.YtigpfopobpoamaaGreat.X
