/- The abstract machine's soundness, part 15: regions, bodies, calls: what the abstract machine comes to, every run of the program comes to. -/
import Derived.Test.YtnjhhgfpclngcaaXReg
set_option linter.unusedVariables false
set_option linter.unusedSimpArgs false
namespace Go.Proofs.Ytnjhhgfpclngcaa.X
open Go Go.RowKit

variable {P : Program} {B : Nat} {γ γ0 : List G} {h h' h0 : AH} {w w0 : World} {f f' : Fr} {a a0 : Act} {v v' : Value} {C : FuncId → List Value → AH → Option (Value × AH)} {nt : Nat}

theorem marked_get (ms : List Nat) (ys : List XI) (i : Nat) (y : XI) (hy : ys[i]? = some y) : ∃ q, (marked ms ys)[i]? = some { y with q := q } ∧
    q = (cls y.o == 3 && (List.range ys.length).any fun j => match ys[j]? with | some y' => cls y'.o == 1 && !ordered ms i j | none => false) := by
  have hl := (List.getElem?_eq_some_iff.1 hy).1
  refine ⟨_, ?_, rfl⟩
  simp only [marked, List.getElem?_map, List.getElem?_range hl, Option.map_some, hy]
  rfl
theorem less_get (fs : List Fused) (xs : List XI) (i : Nat) (hi : i < xs.length) : (lessFused fs xs)[i]? = some (if fs.any (fun f => f.i == i || f.j == i) then nop else xs.getD i nop) := by
  simp [lessFused, List.getElem?_range hi]

theorem fusedOps_fine : ∀ (l : List Fused) (fc fN : Fr) (hc : AH) (r : Fr × AH), xops C (fusedOps l) fc hc = some r → (∀ z ∈ l, ∀ z' ∈ l, z'.x ≠ .tmp z.d) → (∀ z ∈ l, ev fc z.x = ev fN z.x) →
    ∀ z ∈ l, (ev fN z.x).cells.toList.length = z.n ∧ (ev fN z.x).cells.toList.all isOne = true
  | [], _, _, _, _, _, _, _, z, hz => by simp at hz
  | y :: l, fc, fN, hc, r, hx, hne, hev, z, hz => by
    simp only [fusedOps, List.map_cons, xops] at hx
    split at hx
    · rename_i f1 h1 hst
      rcases xstep_some hst with ⟨_, v, hr, _, rfl⟩ | ⟨hw, _, _⟩
      · simp only [xrun, xop] at hr
        obtain ⟨q1, _⟩ := ite_some hr
        rcases List.mem_cons.1 hz with rfl | hz
        · rw [← hev z (by simp)]; exact q1
        · refine fusedOps_fine l _ fN _ r hx (fun a ha b hb => hne a (by simp [ha]) b (by simp [hb])) (fun z' hz' => ?_) z hz
          rw [← hev z' (by simp [hz'])]
          have := hne y (by simp) z' (by simp [hz'])
          cases hzx : z'.x with
          | tmp k =>
            have : k ≠ y.d := fun e => this (by rw [hzx, e])
            simp [ev, updo, upd, this]
          | _ => rfl
      · simp [want] at hw
    · cases hx

theorem drawn_rel (R : Rel P B γ h w) : Rel P B γ h { w with drawn := w.drawn + 1 } := R.drew

theorem draw_wp {ops : Array Oper} {id : Nat} {Q : Exit → Act → World → Prop} (hS : CSound P C) (hm : P.follows .mixedOrders = true) {xs : List XI} (hc : compOpers P nt ops ops.toList = some xs)
    (hd : drawFine ops (lessFused (fusedOf P ops) xs) (masks ops.toList) = true) (hff : fusedFine (fusedOf P ops) = true)
    (hx : xops C ((marked (masks ops.toList) (lessFused (fusedOf P ops) xs)).filter (fun x => !isNop x) ++ fusedOps (fusedOf P ops)) f h = some (f', h'))
    (hf : FR γ f a.tmps) (hn : nt ≤ a.tmps.size) (R : Rel P B γ h w) (hK : Post P B γ h w nt a f' h' (Q .normal)) : (Code.region id ops true).wp P Q a w := by
  obtain ⟨fN, hN, hx1, hx2⟩ := xops_append _ _ f h _ hx
  rw [xops_filter] at hx1
  obtain ⟨F, H, hF0, hH0, hFH, hst⟩ := xops_states _ f h _ hx1
  have hxl : xs.length = ops.size := by have := (compOpers_get ops.toList xs hc).1; simpa using this
  have hyl : (lessFused (fusedOf P ops) xs).length = ops.size := by simp [lessFused, hxl]
  have hzl : (marked (masks ops.toList) (lessFused (fusedOf P ops) xs)).length = ops.size := by simp [marked, hyl]
  rw [hzl] at hFH
  simp only [Prod.mk.injEq] at hFH
  obtain ⟨rfl, rfl⟩ := hFH
  have hfus : ∀ z ∈ fusedOf P ops, fusedAt P ops ops.toList z.i z.j = some z := fun z hz => fusedOf_mem hz
  have hzlt : ∀ z ∈ fusedOf P ops, z.i < ops.size ∧ z.j < ops.size ∧ z.i < z.j := by
    intro z hz
    obtain ⟨_, _, oi, oj, t, zc, q1, q2, _, _, _, _, _, _, q9, _⟩ := fusedAt_some (hfus z hz)
    exact ⟨(Array.getElem?_eq_some_iff.1 q1).1, (Array.getElem?_eq_some_iff.1 q2).1, q9⟩
  let ys := lessFused (fusedOf P ops) xs
  let Z : Nat → XI := fun i => (marked (masks ops.toList) ys).getD i nop
  -- what stands at a place
  have hys : ∀ i, i < ops.size → ys[i]? = some (if (fusedOf P ops).any (fun f => f.i == i || f.j == i) then nop else xs.getD i nop) := fun i hi => less_get _ _ i (by rw [hxl]; exact hi)
  have hZ : ∀ i, i < ops.size → ∃ y q, ys[i]? = some y ∧ Z i = { y with q := q } ∧ q = (cls y.o == 3 && (List.range ys.length).any fun j => match ys[j]? with | some y' => cls y'.o == 1 && !ordered (masks ops.toList) i j | none => false) := by
    intro i hi
    obtain ⟨q, h1, h2⟩ := marked_get (masks ops.toList) ys i _ (hys i hi)
    exact ⟨_, q, hys i hi, by simp only [Z, List.getD_eq_getElem?_getD, h1, Option.getD_some], h2⟩
  have hZo : ∀ i y, ys[i]? = some y → i < ops.size → (Z i).o = y.o := by
    intro i y hy hi
    obtain ⟨y', q, h1, h2, _⟩ := hZ i hi
    rw [hy] at h1; cases h1
    rw [h2]
  simp only [drawFine, Bool.and_eq_true] at hd
  obtain ⟨⟨hE, hD⟩, hpairs⟩ := hd
  have hpf : ∀ i j, i < ops.size → j < ops.size → pairFine ops ys (masks ops.toList) i j = true := fun i j hi hj => List.all_eq_true.1 (List.all_eq_true.1 hpairs i (by simpa using hi)) j (by simpa using hj)
  have hnd : ((fusedOf P ops).flatMap fun f => [f.i, f.j]).Nodup := by simpa [fusedFine] using hff
  have hapart : ∀ z ∈ fusedOf P ops, ∀ z' ∈ fusedOf P ops, (z.i = z'.i ∨ z.j = z'.j ∨ z.i = z'.j) → z = z' := by
    have gen : ∀ (l : List Fused), (l.flatMap fun f => [f.i, f.j]).Nodup → ∀ z ∈ l, ∀ z' ∈ l, ∀ k, (z.i = k ∨ z.j = k) → (z'.i = k ∨ z'.j = k) → z = z' := by
      intro l
      induction l with
      | nil => intro _ z hz; simp at hz
      | cons y l ih =>
        intro hn z hz z' hz' k hk hk'
        simp only [List.flatMap_cons, List.nodup_append] at hn
        obtain ⟨_, hn2, hn3⟩ := hn
        have hmem : ∀ u ∈ l, (u.i = k ∨ u.j = k) → k ∈ l.flatMap fun f => [f.i, f.j] := fun u hu hku => List.mem_flatMap.2 ⟨u, hu, by rcases hku with e | e <;> simp [e]⟩
        rcases List.mem_cons.1 hz with e1 | hz1 <;> rcases List.mem_cons.1 hz' with e2 | hz2
        · rw [e1, e2]
        · subst e1
          exact absurd rfl (hn3 k (by rcases hk with e | e <;> simp [e]) k (hmem z' hz2 hk'))
        · subst e2
          exact absurd rfl (hn3 k (by rcases hk' with e | e <;> simp [e]) k (hmem z hz1 hk))
        · exact ih hn2 z hz1 z' hz2 k hk hk'
    intro z hz z' hz' he
    rcases he with e | e | e
    · exact gen _ hnd z hz z' hz' z.i (.inl rfl) (.inl e.symm)
    · exact gen _ hnd z hz z' hz' z.j (.inr rfl) (.inr e.symm)
    · exact gen _ hnd z hz z' hz' z.i (.inl rfl) (.inr e.symm)
  have hnoself : ∀ z ∈ fusedOf P ops, ∀ z' ∈ fusedOf P ops, z'.x ≠ .tmp z.d := by
    intro z hz z' hz' e
    obtain ⟨_, _, oi, oj, tt, zc, p1, p2, p3, p4, p5, p6, p7, p8, p9, p10, p11, p12, _⟩ := fusedAt_some (hfus z' hz')
    obtain ⟨_, _, oi', oj', tt', zc', p1', p2', p3', p4', p5', p6', p7', p8', p9', p10', p11', p12', _⟩ := fusedAt_some (hfus z hz)
    rcases (p12' z'.j oj (by simpa using (hzlt z' hz').2.1) p2).1 with e' | e'
    · have := hapart z' hz' z hz (.inr (.inl e'))
      subst this
      exact p11 e
    · exact e' (by simp [looks, p6, Op.operands, opdTmp, e])
  have T : RegS P C nt ops F H Z (fusedOf P ops) := by
    refine ⟨?_, ?_, ?_, ?_, ?_, ?_, hE, hfus, hapart, ?_⟩
    · intro i o ho hnf
      have hi : i < ops.size := (Array.getElem?_eq_some_iff.1 ho).1
      obtain ⟨x, h1, h2⟩ := (compOpers_get ops.toList xs hc).2 i o (by rw [Array.getElem?_toList]; exact ho)
      have hany : (fusedOf P ops).any (fun f => f.i == i || f.j == i) = false := by
        rw [List.any_eq_false]
        intro z hz
        have := hnf z hz
        simp [this.1, this.2]
      obtain ⟨y, q, h3, h4, _⟩ := hZ i hi
      rw [hys i hi, hany] at h3
      simp only [Bool.false_eq_true, if_false, Option.some.injEq, List.getD_eq_getElem?_getD, h1, Option.getD_some] at h3
      subst h3
      exact ⟨x, h2, by rw [h4], by rw [h4], by rw [h4]⟩
    · rintro i ⟨z, hz, he⟩
      have hi : i < ops.size := by rcases he with rfl | rfl; exact (hzlt z hz).1; exact (hzlt z hz).2.1
      have hany : (fusedOf P ops).any (fun f => f.i == i || f.j == i) = true := by
        rw [List.any_eq_true]
        exact ⟨z, hz, by rcases he with e | e <;> simp [e]⟩
      obtain ⟨y, q, h3, h4, h5⟩ := hZ i hi
      rw [hys i hi, hany] at h3
      simp only [if_true, Option.some.injEq] at h3
      subst h3
      rw [h4, h5]
      rfl
    · intro i hi
      have : (marked (masks ops.toList) ys)[i]? = some (Z i) := by
        simp only [Z, List.getD_eq_getElem?_getD, List.getElem?_eq_getElem (show i < (marked (masks ops.toList) ys).length by rw [hzl]; exact hi), Option.getD_some]
      exact hst i _ this
    · intro i j oi oj hoi hoj hne hno
      have hi : i < ops.size := (Array.getElem?_eq_some_iff.1 hoi).1
      have hj : j < ops.size := (Array.getElem?_eq_some_iff.1 hoj).1
      have := hpf i j hi hj
      unfold pairFine at this
      rw [hoi, hoj, hys i hi, hys j hj] at this
      simp only [Bool.or_eq_true, beq_iff_eq, Bool.and_eq_true] at this
      rcases this with (h1 | h1) | ⟨h1, h2⟩
      · exact absurd h1 hne
      · exact absurd h1 hno
      · rw [hZo i _ (hys i hi) hi, hZo j _ (hys j hj) hj]
        refine ⟨h1, fun d hdd => ?_⟩
        rw [hdd] at h2
        simp only [Bool.and_eq_true, Bool.not_eq_true'] at h2
        simpa using h2.1
    · intro i j hi hj hci hcj hno
      obtain ⟨y, q, h3, h4, h5⟩ := hZ i hi
      rw [h4] at hci ⊢
      simp only at hci ⊢
      rw [h5]
      simp only [Bool.and_eq_true, beq_iff_eq, List.any_eq_true, List.mem_range]
      refine ⟨hci, j, by simpa [ys, hyl] using hj, ?_⟩
      obtain ⟨y', q', h3', h4', _⟩ := hZ j hj
      rw [h3']
      rw [h4'] at hcj
      simp only at hcj
      have hno' : ordered (masks ops.toList) i j = false := by
        cases ho : ordered (masks ops.toList) i j with
        | false => rfl
        | true => exact absurd ho hno
      simp [hcj, hno']
    · intro i j oi oj d hoi hoj hdi hdj
      have hD' : (ops.toList.filterMap (·.dst)).Nodup := by simpa [dstsFine] using hD
      exact nodup_dst ops.toList hD' i j oi oj d (by rw [Array.getElem?_toList]; exact hoi) (by rw [Array.getElem?_toList]; exact hoj) hdi hdj
    · exact fusedOps_fine _ (F ops.size) (F ops.size) (H ops.size) _ hx2 hnoself (fun z _ => rfl)
  have hZd : ∀ z ∈ fusedOf P ops, z.d < nt := by
    intro z hz
    obtain ⟨_, _, oi, oj, t, zc, q1, q2, q3, q4, _⟩ := fusedAt_some (hfus z hz)
    obtain ⟨x, _, h2⟩ := (compOpers_get ops.toList xs hc).2 z.i oi (by rw [Array.getElem?_toList]; exact q1)
    exact (compOper_some h2).2.2.2.2 z.d q4
  have I0 : Inv P B nt ops F H Z (fusedOf P ops) γ h w a (Ls (Array.replicate ops.size false)) a { w with drawn := w.drawn + 1 } γ 0 (fun _ => 0) := by
    have hL : ∀ k, Ls (Array.replicate ops.size false) k = false := by
      intro k
      simp only [Ls, Array.getD_eq_getD_getElem?, Array.getElem?_replicate]
      split <;> rfl
    refine ⟨hn, rfl, ?_, Nat.zero_le _, ?_, ?_, ?_, ?_, ?_, ?_⟩
    · intro i o _ hl; rw [hL] at hl; cases hl
    · intro i _ _; rw [hL]; simp
    · rw [hH0]; exact Sim.drawn R
    · intro d _ i o _ _ hl; rw [hL] at hl; cases hl
    · intro d _ _; rw [hF0]; exact hf d
    · intro z _ hl; rw [hL] at hl; cases hl
    · intro z _ z' _ hl; rw [hL] at hl; cases hl
  refine wp_region_any hm (inv_any hS T hZd ?_ ops.size _ a _ γ 0 _ (by simp) (by refine Nat.le_trans (List.length_filter_le _ _) ?_; simp) I0)
  intro a1 w1 γ1 p pb L hall I
  have hHp : H p = H ops.size := by
    have := T.H_const (ops.size - p) p (by have := I.plt; omega) (fun k h1 h2 => by
      rcases Nat.lt_or_ge (cls (Z k).o) 2 with h3 | h3
      · exact h3
      · exfalso
        have := (I.chain k (by have := I.plt; omega) h3).1 (hall k (by have := I.plt; omega))
        omega)
    rw [show p + (ops.size - p) = ops.size by have := I.plt; omega] at this
    exact this.symm
  have S := I.sim
  rw [hHp] at S
  obtain ⟨γ2, S2, hf2⟩ := fused_run (t := a1.tmps) (pb := pb) T hZd (fusedOf P ops) (F ops.size) (H ops.size) γ1 (fun z hz => hz) (by
      have : ∀ (l : List Fused), (l.flatMap fun f => [f.i, f.j]).Nodup → (l.map (·.i)).Nodup := by
        intro l
        induction l with
        | nil => intro _; simp
        | cons y l ih =>
          intro hn
          simp only [List.flatMap_cons, List.nodup_append] at hn
          obtain ⟨_, hn2, hn3⟩ := hn
          refine List.nodup_cons.2 ⟨fun hm => ?_, ih hn2⟩
          obtain ⟨z, hz, e⟩ := List.mem_map.1 hm
          exact hn3 y.i (by simp) y.i (List.mem_flatMap.2 ⟨z, hz, by simp [e]⟩) rfl
      exact this _ hnd) hx2 (fun z _ => rfl) (fun d hd => by
        by_cases hw : ∃ (k : Nat) (o : Oper), ops[k]? = some o ∧ o.dst = some d
        · obtain ⟨k, o, hk, hkd⟩ := hw
          exact I.done d hd k o hk hkd (hall k (Array.getElem?_eq_some_iff.1 hk).1)
        · have := I.todo d hd (fun i o hi hid => absurd ⟨i, o, hi, hid⟩ hw)
          have e : F ops.size d = F 0 d := by
            have := T.F_const (d := d) ops.size 0 (by omega) (fun m _ h2 hz => by
              have hom : ops[m]? = some ops[m] := Array.getElem?_eq_getElem (by omega)
              exact hw ⟨m, _, hom, (T.dstZ hom hz).1⟩)
            rwa [Nat.zero_add] at this
          rw [e]; exact this) (fun z hz => by
        obtain ⟨q1, q2, q3, q4, q5, cur, q6, q7, q8⟩ := I.pend z hz (hall z.i (hzlt z hz).1)
        rw [hHp] at q5
        exact ⟨q1, q2, q3, q5, cur, q6, q8 (hall z.j (hzlt z hz).2.1)⟩) (fun z hz z' hz' hne => I.sep z hz z' hz' (hall z.i (hzlt z hz).1) (hall z'.i (hzlt z' hz').1) hne) S
  exact hK γ2 a1 w1 hf2 I.size I.defers S2

/-! ### Regions, bodies, calls -/
theorem reg_wp {ops : Array Oper} {id : Nat} {draw : Bool} {xs : List XI} {Q : Exit → Act → World → Prop} (hS : CSound P C) (hm : P.follows .mixedOrders = true) (hc : compReg P nt ops draw = some xs) (hx : xops C xs f h = some (f', h'))
    (hf : FR γ f a.tmps) (hn : nt ≤ a.tmps.size) (R : Rel P B γ h w) (hK : Post P B γ h w nt a f' h' (Q .normal)) : (Code.region id ops draw).wp P Q a w := by
  unfold compReg at hc
  split at hc
  · cases hc
  · rename_i xs' hxs
    cases draw with
    | true =>
      simp only [if_true] at hc
      obtain ⟨h1, rfl⟩ := ite_some hc
      simp only [Bool.and_eq_true] at h1
      exact draw_wp hS hm hxs h1.1 h1.2 hx hf hn R hK
    | false =>
      simp only [Bool.false_eq_true, if_false, Option.some.injEq] at hc
      subst hc
      exact wp_region_list (ops_wp hS ops.toList xs' f h γ a w hxs hx hf hn R hK)

def cv : XE → Exit
  | .normal => .normal
  | .exit id => .exit id
  | .ret => .ret

theorem code_wp (hS : CSound P C) (hm : P.follows .mixedOrders = true) (n : Nat) : ∀ (c : Code) (ir : IR), compCode P nt c = some ir → ∀ (f : Fr) (h : AH) (e : XE) (f' : Fr) (h' : AH) (γ : List G) (a : Act) (w : World) (Q : Exit → Act → World → Prop),
    xcode C n ir f h = some (e, f', h') → FR γ f a.tmps → nt ≤ a.tmps.size → Rel P B γ h w → Post P B γ h w nt a f' h' (Q (cv e)) → c.wp P Q a w := by
  intro c
  induction c with
  | skip =>
    intro ir hc f h e f' h' γ a w Q hx hf hn R hK
    cases hc
    simp only [xcode, Option.some.injEq, Prod.mk.injEq] at hx
    obtain ⟨rfl, rfl, rfl⟩ := hx
    exact wp_skip (hK γ a w hf hn rfl (Sim.refl R))
  | region id ops draw =>
    intro ir hc f h e f' h' γ a w Q hx hf hn R hK
    obtain ⟨xs, h1, rfl⟩ := map_some hc
    simp only [xcode] at hx
    split at hx
    · rename_i f1 h1' hxs
      simp only [Option.some.injEq, Prod.mk.injEq] at hx
      obtain ⟨rfl, rfl, rfl⟩ := hx
      exact reg_wp hS hm h1 hxs hf hn R hK
    · cases hx
  | seq x y ihx ihy =>
    intro ir hc f h e f' h' γ a w Q hx hf hn R hK
    simp only [compCode] at hc
    split at hc
    · rename_i xi yi h1 h2
      cases hc
      simp only [xcode] at hx
      refine wp_seq ?_
      split at hx
      · rename_i f1 hh1 hx1
        refine ihx xi h1 f h .normal f1 hh1 γ a w _ hx1 hf hn R fun γ1 a1 w1 q1 q2 q3 q4 => ?_
        exact ihy yi h2 f1 hh1 e f' h' γ1 a1 w1 Q hx q1 q2 q4.rel (hK.step q4 q3)
      · rename_i hne
        refine ihx xi h1 f h e f' h' γ a w _ hx hf hn R fun γ1 a1 w1 q1 q2 q3 q4 => ?_
        have := hK γ1 a1 w1 q1 q2 q3 q4
        cases e with
        | normal => exact absurd hx (hne f' h')
        | exit id => exact this
        | ret => exact this
    · cases hc
  | cond c x y ihx ihy =>
    intro ir hc f h e f' h' γ a w Q hx hf hn R hK
    simp only [compCode] at hc
    split at hc
    · rename_i xi yi h1 h2
      obtain ⟨hok, rfl⟩ := ite_some hc
      have hv := hf.ev hok
      simp only [xcode] at hx
      split at hx
      · rename_i he
        rw [he] at hv
        exact wp_cond_true hv.bool_inv (ihx xi h1 f h e f' h' γ a w Q hx hf hn R hK)
      · rename_i he
        rw [he] at hv
        exact wp_cond_false hv.bool_inv (ihy yi h2 f h e f' h' γ a w Q hx hf hn R hK)
      · cases hx
    · cases hc
  | block id x ihx =>
    intro ir hc f h e f' h' γ a w Q hx hf hn R hK
    obtain ⟨xi, h1, rfl⟩ := map_some hc
    simp only [xcode] at hx
    refine wp_block ?_
    split at hx
    · rename_i id' f1 hh1 hx1
      split at hx
      · rename_i hid
        simp only [Option.some.injEq, Prod.mk.injEq] at hx
        obtain ⟨rfl, rfl, rfl⟩ := hx
        refine ihx xi h1 f h (.exit id') _ _ γ a w _ hx1 hf hn R fun γ1 a1 w1 q1 q2 q3 q4 => ?_
        show Exit.inBlock id Q (.exit id') a1 w1
        simp only [Exit.inBlock, hid, if_true]
        exact hK γ1 a1 w1 q1 q2 q3 q4
      · rename_i hid
        simp only [Option.some.injEq, Prod.mk.injEq] at hx
        obtain ⟨rfl, rfl, rfl⟩ := hx
        refine ihx xi h1 f h (.exit id') _ _ γ a w _ hx1 hf hn R fun γ1 a1 w1 q1 q2 q3 q4 => ?_
        show Exit.inBlock id Q (.exit id') a1 w1
        simp only [Exit.inBlock, hid, if_false]
        exact hK γ1 a1 w1 q1 q2 q3 q4
    · rename_i hne
      refine ihx xi h1 f h e f' h' γ a w _ hx hf hn R fun γ1 a1 w1 q1 q2 q3 q4 => ?_
      have := hK γ1 a1 w1 q1 q2 q3 q4
      cases e with
      | normal => exact this
      | exit id' => exact absurd hx (hne id' f' h')
      | ret => exact this
  | loop x ihx =>
    intro ir hc f h e f' h' γ a w Q hx hf hn R hK
    obtain ⟨xi, h1, rfl⟩ := map_some hc
    simp only [xcode] at hx
    have key : ∀ (m : Nat) (f : Fr) (h : AH) (γ : List G) (a : Act) (w : World), xloop (fun f h => xcode C n xi f h) m f h = some (e, f', h') → FR γ f a.tmps → nt ≤ a.tmps.size → Rel P B γ h w →
        Post P B γ h w nt a f' h' (Q (cv e)) → Code.rounds P x Q m a w := by
      intro m
      induction m with
      | zero => intro f h γ a w hx; simp [xloop] at hx
      | succ m ih =>
        intro f h γ a w hx hf hn R hK
        rw [rounds_succ]
        simp only [xloop] at hx
        split at hx
        · rename_i f1 hh1 hx1
          refine ihx xi h1 f h .normal f1 hh1 γ a w _ hx1 hf hn R fun γ1 a1 w1 q1 q2 q3 q4 => ?_
          exact ih f1 hh1 γ1 a1 w1 hx q1 q2 q4.rel (hK.step q4 q3)
        · rename_i hne
          refine ihx xi h1 f h e f' h' γ a w _ hx hf hn R fun γ1 a1 w1 q1 q2 q3 q4 => ?_
          have := hK γ1 a1 w1 q1 q2 q3 q4
          cases e with
          | normal => exact absurd hx (hne f' h')
          | exit id => exact this
          | ret => exact this
    exact wp_loop_rounds n (key n f h γ a w hx hf hn R hK)
  | exit id =>
    intro ir hc f h e f' h' γ a w Q hx hf hn R hK
    cases hc
    simp only [xcode, Option.some.injEq, Prod.mk.injEq] at hx
    obtain ⟨rfl, rfl, rfl⟩ := hx
    exact wp_exit (hK γ a w hf hn rfl (Sim.refl R))
  | ret =>
    intro ir hc f h e f' h' γ a w Q hx hf hn R hK
    cases hc
    simp only [xcode, Option.some.injEq, Prod.mk.injEq] at hx
    obtain ⟨rfl, rfl, rfl⟩ := hx
    exact wp_ret (hK γ a w hf hn rfl (Sim.refl R))
  | _ => intro ir hc; simp [compCode] at hc

end Go.Proofs.Ytnjhhgfpclngcaa.X
