/- The abstract machine's soundness, part 16: calls. -/
import Derived.Test.YtnjhhgfpclngcaaXSound
set_option linter.unusedVariables false
set_option linter.unusedSimpArgs false
namespace Go.Proofs.Ytnjhhgfpclngcaa.X
open Go Go.RowKit

variable {P : Program} {B : Nat} {γ : List G} {h h' : AH} {w w0 : World} {f : Fr} {a : Act} {v v' : Value}

def rvSem (t : Array Value) : ResultVar → Sem Value
  | .tmp i => pure (t.getD i undef)
  | .cell i ty => do loadVar ty (← asAddr (t.getD i undef))

theorem res1_sound {r : ResultVar} {x : XRes} (hc : compRes P r = some x) (hx : xres1 f h x = some v) (hf : FR γ f a.tmps) (R : Rel P B γ h w) :
    ∃ v', (rvSem a.tmps r).run P w = .ok v' w ∧ VR γ v v' := by
  cases r with
  | tmp t =>
    cases hc
    simp only [xres1, Option.some.injEq] at hx
    subst hx
    exact ⟨_, rfl, hf t⟩
  | cell t ty =>
    simp only [compRes] at hc
    split at hc
    · rename_i n ha hs
      cases hc
      simp only [xres1] at hx
      split at hx
      · rename_i m off sp he
        have hv := hf t
        rw [he] at hv
        obtain ⟨_, g, hg, e1⟩ := hv.ptr_inv
        obtain ⟨c, hc', rfl⟩ := map_some hx
        obtain ⟨b, hb, h3⟩ := Option.bind_eq_some_iff.1 hc'
        obtain ⟨h4, rfl⟩ := ite_some h3
        obtain ⟨cs, g1, g2⟩ := R.cells hb hg
        have hlen : ((cs.drop off).take n).length = n := by have := g1.1; simp; omega
        have hl := load_cells (P := P) w g.b (g.o + off) ((cs.drop off).take n) (fun j u hu => by
          rw [List.getElem?_take] at hu
          split at hu
          · rw [List.getElem?_drop] at hu
            rw [Nat.add_assoc]
            exact g2 _ _ hu
          · cases hu)
        rw [hlen] at hl
        refine ⟨_, ?_, VR.aggL ((g1.drop off).take n)⟩
        simp only [rvSem, e1, asAddr, loadVar, Sem.run_bind, Sem.run_pure, Result.andThen_ok, run_isAgg ha, if_true, run_size hs, hl]
      · cases hx
    · rename_i n ha hs
      cases hc
      simp only [xres1] at hx
      split at hx
      · rename_i m off sp he
        have hv := hf t
        rw [he] at hv
        obtain ⟨_, g, hg, e1⟩ := hv.ptr_inv
        obtain ⟨b, hb, h3⟩ := Option.bind_eq_some_iff.1 hx
        obtain ⟨_, u', h5, h6⟩ := R.cell m b g hb hg off v h3
        refine ⟨u', ?_, h6⟩
        simp only [rvSem, e1, asAddr, loadVar, Sem.run_bind, Sem.run_pure, Result.andThen_ok, run_isAgg ha, Bool.false_eq_true, if_false, run_load, h5]
      · cases hx
    · cases hc

theorem resl_sound (hf : FR γ f a.tmps) (R : Rel P B γ h w) : ∀ (rs : List ResultVar) (xs : List XRes) (vs : List Value), compRess P rs = some xs → xresl f h xs = some vs →
    ∃ us : List Value, (rs.mapM (rvSem a.tmps)).run P w = .ok us w ∧ VRL γ vs us
  | [], xs, vs, hc, hx => by
    simp [compRess] at hc
    subst hc
    simp [xresl] at hx
    subst hx
    exact ⟨[], rfl, VRL.nil γ⟩
  | r :: rs, xs, vs, hc, hx => by
    simp only [compRess] at hc
    split at hc
    · rename_i x l h1 h2
      cases hc
      simp only [xresl] at hx
      split at hx
      · rename_i u us h3 h4
        cases hx
        obtain ⟨u', q1, q2⟩ := res1_sound h1 h3 hf R
        obtain ⟨us', q3, q4⟩ := resl_sound hf R rs l us h2 h4
        refine ⟨u' :: us', ?_, VRL.cons q2 q4⟩
        simp only [List.mapM_cons, Sem.run_bind, q1, Result.andThen_ok, q3, Sem.run_pure]
      · cases hx
    · cases hc

theorem res_sound {fn : Func} {xs : List XRes} (hc : compRess P fn.results.toList = some xs) (hx : xres f h xs = some v) (hf : FR γ f a.tmps) (R : Rel P B γ h w) :
    ∃ v', (results fn a.tmps).run P w = .ok v' w ∧ VR γ v v' := by
  unfold xres at hx
  have gen : ∀ vs, xresl f h xs = some vs → ∃ us : List Value, (results fn a.tmps).run P w = .ok (if hu : us.toArray.size = 1 then us.toArray[0] else .tuple us.toArray) w ∧ VRL γ vs us := by
    intro vs hvs
    obtain ⟨us, q1, q2⟩ := resl_sound hf R _ xs vs hc hvs
    refine ⟨us, ?_, q2⟩
    have e : results fn a.tmps = ((List.toArray <$> fn.results.toList.mapM (rvSem a.tmps)) >>= fun vs => pure (if h : vs.size = 1 then vs[0] else Value.tuple vs)) := by
      rw [← Array.mapM_eq_mapM_toList]
      unfold results
      congr 1
    rw [e, Sem.run_bind, Sem.run_map, q1, Result.andThen_ok, Result.andThen_ok]
    rfl
  split at hx
  · rename_i u hu
    cases hx
    obtain ⟨us, q1, q2⟩ := gen _ hu
    obtain ⟨u', hu'⟩ := List.length_eq_one_iff.1 (show us.length = 1 by rw [← q2.1]; rfl)
    subst hu'
    exact ⟨u', q1, q2.2 0 _ _ rfl rfl⟩
  · rename_i vs hne hvs
    cases hx
    obtain ⟨us, q1, q2⟩ := gen _ hvs
    have hne' : ¬ us.toArray.size = 1 := by
      intro e
      obtain ⟨u, hu⟩ := List.length_eq_one_iff.1 (show vs.length = 1 by rw [q2.1]; simpa using e)
      exact hne u hu
    rw [dif_neg hne'] at q1
    exact ⟨_, q1, VR.tupleL q2⟩
  · cases hx

theorem enter_FR {args args' : List Value} (hv : VRL γ args args') (n : Nat) : FR γ (fun j => args.getD j undef) (args'.toArray ++ Array.replicate n undef) := by
  intro i
  by_cases hi : i < args.length
  · have h1 : args[i]? = some args[i] := List.getElem?_eq_getElem hi
    obtain ⟨b, hb, hr⟩ := hv.get h1
    have hb' : i < args'.length := (List.getElem?_eq_some_iff.1 hb).1
    simp only [List.getD_eq_getElem?_getD, h1, Option.getD_some, Array.getD_eq_getD_getElem?]
    rw [Array.getElem?_append_left (by simpa using hb'), List.getElem?_toArray, hb]
    exact hr
  · have h1 : args[i]? = none := List.getElem?_eq_none (by omega)
    have hl : ¬ i < args'.length := by rw [← hv.1]; exact hi
    simp only [List.getD_eq_getElem?_getD, h1, Option.getD_none, Array.getD_eq_getD_getElem?]
    rw [Array.getElem?_append_right (by simpa using Nat.le_of_not_lt hl), Array.getElem?_replicate]
    split
    · exact VR.undef γ
    · exact VR.undef γ

def ESound (P : Program) (E : FuncId → Option (List Value → AH → Option (Value × AH))) : Prop := ∀ g p, E g = some p → CSound P fun g' args h => if g' = g then p args h else none
def TSound (P : Program) (T : FuncId → Option XFn) : Prop := ∀ g x, T g = some x → ∃ fn, P.funcs[g]? = some fn ∧ compFn P fn = some x

theorem xcall_sound {E : FuncId → Option (List Value → AH → Option (Value × AH))} {T : FuncId → Option XFn} (hm : P.follows .mixedOrders = true) (hE : ESound P E) (hT : TSound P T) : ∀ k, CSound P (xcall E T k)
  | 0 => fun g args h v h' hx => by simp [xcall] at hx
  | k + 1 => by
    intro g args h v h' hx
    simp only [xcall] at hx
    split at hx
    · rename_i p hp
      have := hE g p hp g args h v h' (by simp only [if_true]; exact hx)
      exact this
    · split at hx
      · cases hx
      · rename_i x hg
        obtain ⟨fn, h1, h2⟩ := hT g x hg
        unfold compFn at h2
        split at h2
        · cases h2
        · rename_i c hb
          split at h2
          · cases h2
          · rename_i hname
            split at h2
            · rename_i b r hbc hrc
              cases h2
              refine ⟨⟨fn, h1, by rw [hb]; rfl, by simpa using hname⟩, fun B γ w args' R hv => ?_⟩
              split at hx
              · cases hx
              · rename_i e f1 h1' hnx hcode
                split at hx
                · rename_i u hu
                  simp only [Option.some.injEq, Prod.mk.injEq] at hx
                  obtain ⟨rfl, rfl⟩ := hx
                  refine calls_of_wp h1 hb ?_
                  refine code_wp (nt := fn.ntmps) (xcall_sound hm hE hT k) hm (k + 1) c b hbc _ h e f1 h1' γ _ w _ hcode (enter_FR hv _) (by simp; omega) R fun γ1 a1 w1 q1 q2 q3 q4 => ?_
                  obtain ⟨u', r1, r2⟩ := res_sound hrc hu q1 q4.rel
                  cases e with
                  | normal => exact ⟨q3, u', r1, γ1, u', rfl, r2, q4⟩
                  | exit id => exact (hnx id rfl).elim
                  | ret => exact ⟨q3, u', r1, γ1, u', rfl, r2, q4⟩
                · cases hx
              · cases hx
            · cases h2

end Go.Proofs.Ytnjhhgfpclngcaa.X
