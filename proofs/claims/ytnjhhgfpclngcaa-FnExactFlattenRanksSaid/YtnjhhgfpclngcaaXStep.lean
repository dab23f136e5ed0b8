/- The abstract machine's soundness, part 9: one operation in its place; a row of operations in the text's order. -/
import Derived.Test.YtnjhhgfpclngcaaXWrite
import Derived.LoopN
set_option linter.unusedVariables false
set_option linter.unusedSimpArgs false
namespace Go.Proofs.Ytnjhhgfpclngcaa.X
open Go Go.RowKit

variable {P : Program} {B : Nat} {γ : List G} {h h' : AH} {w : World} {f f' : Fr} {a : Act} {v v' : Value} {C : FuncId → List Value → AH → Option (Value × AH)} {nt : Nat}

abbrev Oracle := FuncId → List Value → AH → Option (Value × AH)

def FR (γ : List G) (f : Fr) (t : Array Value) : Prop := ∀ i, VR γ (f i) (t.getD i undef)
theorem FR.mono {γ γ' : List G} {t : Array Value} (hp : γ <+: γ') (hf : FR γ f t) : FR γ' f t := fun i => (hf i).mono hp
theorem FR.ev (hf : FR γ f a.tmps) {y : Operand} (hok : okOpd y = true) : VR γ (ev f y) (a.eval y) := by
  cases y with
  | tmp i => exact hf i
  | const v => exact okConst_refl hok
  | global g => simp [okOpd] at hok
  | func g => exact .func g _ _ rfl fun i a b h => by simp at h
theorem FR.vo (hf : FR γ f a.tmps) (l : Array Operand) : VO γ f a l := fun y _ hok => hf.ev hok
theorem put_tmps (a : Act) (d : Option Nat) (v : Value) : (a.put d v).tmps.size = a.tmps.size := by cases d <;> simp [Act.put]
theorem put_defers (a : Act) (d : Option Nat) (v : Value) : (a.put d v).defers = a.defers := by cases d <;> rfl
theorem FR.put (hf : FR γ f a.tmps) (hv : VR γ v v') (d : Option Nat) (hd : ∀ i, d = some i → i < a.tmps.size) : FR γ (updo f d v) (a.put d v').tmps := by
  cases d with
  | none => exact hf
  | some d =>
    intro i
    simp only [updo, upd, Act.put]
    by_cases e : i = d
    · subst e
      rw [if_pos rfl]
      simp [hd i rfl, hv]
    · rw [if_neg e]
      have := hf i
      simpa [Array.getElem?_setIfInBounds_ne (Ne.symm e)] using this

/-- What calls are taken for. -/
def CSound (P : Program) (C : Oracle) : Prop := ∀ (g : FuncId) (args : List Value) (h : AH) (v : Value) (h' : AH), C g args h = some (v, h') →
  (∃ fn, P.funcs[g]? = some fn ∧ fn.body.isNone = false ∧ (fn.name == "runtime.NumGoroutine") = false) ∧
  ∀ (B : Nat) (γ : List G) (w : World) (args' : List Value), Rel P B γ h w → VRL γ args args' →
    Calls P g args'.toArray w fun e w' => ∃ γ' v', e = .returned v' ∧ VR γ' v v' ∧ Sim P B γ h w γ' h' w'

theorem call_wp {o : Oper} {fo : Operand} {args : List Operand} (hS : CSound P C) (hc : compOp P o.op = some (.call fo args)) (hx : xrun C (.call fo args) f h = some (v, h')) (hv : VO γ f a o.op.operands) (R : Rel P B γ h w)
    {K : Act → World → Prop} {Q : Exit → Act → World → Prop} (hK : ∀ γ' v' w', VR γ' v v' → Sim P B γ h w γ' h' w' → K (a.put o.dst v') w') : o.wp P a w K Q := by
  obtain ⟨dst, op, ty, pos, after, guard⟩ := o
  simp only [] at hc hv
  have hco := cls_op hc
  cases op with
  | call c =>
    obtain ⟨callee, args0, argTypes⟩ := c
    cases callee with
    | value fo' =>
      obtain ⟨h1, h2⟩ := ite_some hc
      simp only [XOp.call.injEq] at h2
      obtain ⟨rfl, rfl⟩ := h2
      simp only [Bool.and_eq_true] at h1
      have hf := hv fo' (by simp [Op.operands, Call.operands]) h1.1
      simp only [xrun] at hx
      split at hx
      · rename_i g first cap he
        obtain ⟨hfi, hx⟩ := ite_none hx
        have hfi : first = #[] := by simpa using hfi
        subst hfi
        rw [he] at hf
        obtain ⟨cap', e1, hcap⟩ := hf.func_inv
        obtain ⟨⟨fn, q1, q2, q3⟩, hcall⟩ := hS g _ h v h' hx
        have hargs : VRL γ (args0.toList.map (ev f)) (args0.toList.map a.eval) := by
          refine ⟨by simp, fun i u u' hu hu' => ?_⟩
          simp only [List.getElem?_map, Option.map_eq_some_iff] at hu hu'
          obtain ⟨y, h3, rfl⟩ := hu
          obtain ⟨y', h4, rfl⟩ := hu'
          rw [h3] at h4; cases h4
          have hm : y ∈ args0.toList := List.mem_iff_getElem?.2 ⟨i, h3⟩
          exact hv y (by simp [Op.operands, Call.operands]; exact .inr (by simpa using hm)) (List.all_eq_true.1 h1.2 y hm)
        have := hcall B γ w (args0.toList.map a.eval ++ cap'.toList) R (hargs.append hcap)
        unfold Oper.wp
        have hrun : (execOp a.eval ⟨dst, .call ⟨.value fo', args0, argTypes⟩, ty, pos, after, guard⟩).run P w = .ok (.enter g (args0.toList.map a.eval ++ cap'.toList).toArray) w := by
          have hargs2 : (args0.map a.eval ++ cap' : Array Value) = (args0.toList.map a.eval ++ cap'.toList).toArray := by
            apply Array.ext'; simp
          have q3' : fn.name ≠ "runtime.NumGoroutine" := by simpa using q3
          have q2' : fn.body ≠ none := by intro hb; rw [hb] at q2; cases q2
          simp [execOp, resolve, e1, Deferred.ofValue, invoke, callFunc, q1, q2', q3', hargs2]
        rw [hrun]
        refine Calls.mono this ?_
        rintro e w' ⟨γ', v', rfl, g1, g2⟩
        exact hK γ' v' w' g1 g2
      · cases hx
    | invoke r m => simp [compOp, compCall] at hc
    | builtin b =>
      exfalso
      cases b <;> simp only [compOp, compCall, reduceCtorEq] at hc
      case len =>
        split at hc
        · split at hc
          · obtain ⟨_, h2⟩ := ite_some hc; cases h2
          · cases hc
          · cases hc
        · cases hc
      case append =>
        split at hc
        · split at hc
          · split at hc
            · obtain ⟨h1, h2⟩ := ite_some hc; cases h2
            · cases hc
          · cases hc
        · cases hc
      case max =>
        split at hc
        · obtain ⟨_, h2⟩ := ite_some hc; cases h2
        · cases hc
      case min =>
        split at hc
        · obtain ⟨_, h2⟩ := ite_some hc; cases h2
        · cases hc
  | slice t y lo hi mx => rcases hco with h1 | h1 <;> simp [cls] at h1
  | _ => simp [clsOk, cls] at hco

theorem xrun_other {x : XOp} (hn : cls x ≠ 3) : xrun C x f h = xop x f h := by
  cases x <;> first | rfl | exact absurd rfl hn

theorem upon_ok {o : Oper} {nx : Next} {v' : Value} {w' : World} {K : Act → World → Prop} {Q : Exit → Act → World → Prop} (hnv : nv nx = some v') (hr : (execOp a.eval o).run P w = .ok nx w') (hK : K (a.put o.dst v') w') : o.wp P a w K Q := by
  unfold Oper.wp
  rw [hr]
  cases nx <;> simp only [nv, Option.some.injEq, reduceCtorEq] at hnv <;> subst hnv <;> exact hK

theorem cls_cases (x : XOp) : cls x = 0 ∨ cls x = 1 ∨ cls x = 2 ∨ cls x = 3 ∨ cls x = 4 := by cases x <;> simp [cls]

theorem cls_call {x : XOp} (hx : cls x = 3) : ∃ fo args, x = .call fo args := by cases x <;> simp [cls] at hx; exact ⟨_, _, rfl⟩

/-- One operation that is wanted. -/
theorem op_wp {o : Oper} {x : XOp} (hS : CSound P C) (hc : compOp P o.op = some x) (hx : xrun C x f h = some (v, h')) (hv : VO γ f a o.op.operands) (R : Rel P B γ h w)
    {K : Act → World → Prop} {Q : Exit → Act → World → Prop} (hK : ∀ γ' v' w', VR γ' v v' → Sim P B γ h w γ' h' w' → K (a.put o.dst v') w') : o.wp P a w K Q := by
  rcases cls_cases x with h0 | h1 | h2 | h3 | h4
  · rw [xrun_other (by omega)] at hx
    obtain ⟨rfl, nx, v', q1, q2, q3⟩ := pure_sound (w := w) hc h0 hx hv
    exact upon_ok q2 q1 (hK γ v' w q3 (Sim.refl R))
  · rw [xrun_other (by omega)] at hx
    obtain ⟨rfl, nx, v', q1, q2, q3⟩ := read_sound hc h1 hx hv R
    exact upon_ok q2 q1 (hK γ v' w q3 (Sim.refl R))
  · rw [xrun_other (by omega)] at hx
    obtain ⟨γ', nx, v', w', q1, q2, q3, q4⟩ := heap_sound hc (.inl h2) hx hv R
    exact upon_ok q2 q1 (hK γ' v' w' q3 q4)
  · obtain ⟨fo, args, rfl⟩ := cls_call h3
    exact call_wp hS hc hx hv R hK
  · rw [xrun_other (by omega)] at hx
    obtain ⟨γ', nx, v', w', q1, q2, q3, q4⟩ := heap_sound hc (.inr h4) hx hv R
    exact upon_ok q2 q1 (hK γ' v' w' q3 q4)

/-! ### Guards -/
theorem getD_bool {t : Array Value} {d : Nat} {b : Bool} (hb : t.getD d undef = .bool b) : t[d]? = some (.bool b) := by
  simp only [Array.getD_eq_getD_getElem?] at hb
  cases hd : t[d]? with
  | none => simp [hd, undef] at hb
  | some u => simp [hd] at hb; rw [hb]
theorem want_iff {ops : Array Oper} {o : Oper} {g : Option (Nat × Bool)} (hg : guardSlot ops o = some g) (hf : ∀ d b, g = some (d, b) → VR γ (f d) (a.tmps.getD d undef)) :
    Region.wanted o (yielded ops a.tmps) = want f g := by
  unfold guardSlot at hg
  split at hg
  · rename_i hn
    cases hg
    simp [Region.wanted, hn, want]
  · rename_i j b hj
    split at hg
    · rename_i d hd
      cases hg
      have hv := hf d b rfl
      simp only [Region.wanted, hj, want, yielded]
      rw [hd, Option.bind_some]
      cases hfd : f d with
      | bool c =>
        rw [hfd] at hv
        rw [getD_bool hv.bool_inv]
        simp
      | _ =>
        have hne : ∀ c, a.tmps[d]? ≠ some (.bool c) := by
          intro c hc
          rw [hfd] at hv
          simp only [Array.getD_eq_getD_getElem?, hc, Option.getD_some] at hv
          cases hv
        cases hd2 : a.tmps[d]? with
        | none => simp
        | some u => cases u <;> first | exact absurd hd2 (hne _) | simp
    · cases hg

theorem compOper_some {ops : Array Oper} {o : Oper} {x : XI} (hc : compOper P nt ops o = some x) : compOp P o.op = some x.o ∧ guardSlot ops o = some x.g ∧ x.d = o.dst ∧ x.q = false ∧ ∀ d, o.dst = some d → d < nt := by
  unfold compOper at hc
  split at hc
  · rename_i y g h1 h2
    obtain ⟨h3, rfl⟩ := ite_some hc
    refine ⟨h1, h2, rfl, rfl, fun d hd => ?_⟩
    rw [hd] at h3
    simpa using h3
  · cases hc

def Post (P : Program) (B : Nat) (γ : List G) (h : AH) (w : World) (nt : Nat) (a : Act) (f' : Fr) (h' : AH) (K : Act → World → Prop) : Prop :=
  ∀ γ' a' w', FR γ' f' a'.tmps → nt ≤ a'.tmps.size → a'.defers = a.defers → Sim P B γ h w γ' h' w' → K a' w'

theorem xstep_some {i : XI} (hx : xstep C i f h = some (f', h')) : (want f i.g = true ∧ ∃ v, xrun C i.o f h = some (v, h') ∧ (i.q = true → h <+: h') ∧ f' = updo f i.d v) ∨ (want f i.g = false ∧ f' = updo f i.d undef ∧ h' = h) := by
  unfold xstep at hx
  by_cases hw : want f i.g = true
  · rw [if_pos hw] at hx
    split at hx
    · rename_i v h1 hr
      by_cases hq : i.q = true → h <+: h1
      · rw [if_pos hq] at hx
        simp only [Option.some.injEq, Prod.mk.injEq] at hx
        obtain ⟨rfl, rfl⟩ := hx
        exact .inl ⟨hw, v, hr, hq, rfl⟩
      · rw [if_neg hq] at hx; cases hx
    · cases hx
  · rw [if_neg hw] at hx
    simp only [Option.some.injEq, Prod.mk.injEq] at hx
    exact .inr ⟨by simpa using hw, hx.1.symm, hx.2.symm⟩

theorem step_wp {ops : Array Oper} {o : Oper} {i : XI} (hS : CSound P C) (hc : compOper P nt ops o = some i) (hx : xstep C i f h = some (f', h')) (hf : FR γ f a.tmps) (hn : nt ≤ a.tmps.size) (R : Rel P B γ h w)
    {K : Act → World → Prop} {Q : Exit → Act → World → Prop} (hK : Post P B γ h w nt a f' h' K) : if Region.wanted o (yielded ops a.tmps) then o.wp P a w K Q else K (a.put o.dst undef) w := by
  obtain ⟨h1, h2, h3, _, h4⟩ := compOper_some hc
  rw [want_iff (γ := γ) (f := f) h2 (fun d b _ => hf d)]
  rcases xstep_some hx with ⟨hw, v, hr, _, rfl⟩ | ⟨hw, rfl, rfl⟩
  · rw [if_pos hw]
    refine op_wp hS h1 hr (hf.vo _) R fun γ' v' w' g1 g2 => ?_
    refine hK γ' _ w' ?_ (by rw [put_tmps]; exact hn) (put_defers _ _ _) g2
    rw [h3]
    exact (hf.mono g2.ext).put g1 o.dst (fun d hd => Nat.lt_of_lt_of_le (h4 d hd) hn)
  · rw [if_neg (by rw [hw]; decide)]
    refine hK γ _ w ?_ (by rw [put_tmps]; exact hn) (put_defers _ _ _) (Sim.refl R)
    rw [h3]
    exact hf.put (VR.undef γ) o.dst (fun d hd => Nat.lt_of_lt_of_le (h4 d hd) hn)

theorem Post.step {γ1 : List G} {h1 : AH} {w1 : World} {a1 : Act} {K : Act → World → Prop} (hK : Post P B γ h w nt a f' h' K) (S : Sim P B γ h w γ1 h1 w1) (hd : a1.defers = a.defers) : Post P B γ1 h1 w1 nt a1 f' h' K :=
  fun γ' a' w' q1 q2 q3 q4 => hK γ' a' w' q1 q2 (q3.trans hd) (S.trans q4)

theorem ops_wp {ops : Array Oper} {Q : Exit → Act → World → Prop} (hS : CSound P C) : ∀ (l : List Oper) (xs : List XI) (f : Fr) (h : AH) (γ : List G) (a : Act) (w : World), compOpers P nt ops l = some xs → xops C xs f h = some (f', h') →
    FR γ f a.tmps → nt ≤ a.tmps.size → Rel P B γ h w → Post P B γ h w nt a f' h' (Q .normal) → wpList P ops Q l a w
  | [], xs, f, h, γ, a, w, hc, hx, hf, hn, R, hK => by
    simp [compOpers] at hc
    subst hc
    simp only [xops, Option.some.injEq, Prod.mk.injEq] at hx
    obtain ⟨rfl, rfl⟩ := hx
    exact wpList_nil (hK γ a w hf hn rfl (Sim.refl R))
  | o :: l, xs, f, h, γ, a, w, hc, hx, hf, hn, R, hK => by
    simp only [compOpers] at hc
    split at hc
    · rename_i i xs' h1 h2
      cases hc
      simp only [xops] at hx
      split at hx
      · rename_i f1 h1' hstep
        refine wpList_step fun K hKK => ?_
        refine step_wp hS h1 hstep hf hn R fun γ1 a1 w1 q1 q2 q3 q4 => hKK _ _ ?_
        exact ops_wp hS l xs' f1 h1' γ1 a1 w1 h2 hx q1 q2 q4.rel (hK.step q4 q3)
      · cases hx
    · cases hc

end Go.Proofs.Ytnjhhgfpclngcaa.X
