/- The abstract machine's soundness, part 5: each operation that touches no block. -/
import Derived.Test.YtnjhhgfpclngcaaXEq
set_option linter.unusedVariables false
set_option linter.unusedSimpArgs false
namespace Go.Proofs.Ytnjhhgfpclngcaa.X
open Go Go.RowKit

variable {P : Program} {B : Nat} {γ : List G} {h h' : AH} {w : World} {f : Fr} {a : Act} {v : Value}

theorem intsOf_some : ∀ {l : List Value} {k : IntKind} {as : List Int}, intsOf l = some (k, as) → l = as.map (Value.int k)
  | [], k, as, h => by simp [intsOf] at h
  | [x], k, as, h => by
    cases x <;> simp [intsOf] at h
    obtain ⟨rfl, rfl⟩ := h
    rfl
  | x :: y :: rest, k, as, h => by
    cases x <;> simp [intsOf] at h
    rename_i k0 n0
    split at h
    · rename_i k' l hl
      obtain ⟨rfl, h2⟩ := ite_some h
      simp only [Prod.mk.injEq] at h2
      obtain ⟨rfl, rfl⟩ := h2
      rw [List.map_cons, ← intsOf_some hl]
    · cases h
theorem VRL.ints {k : IntKind} : ∀ {as : List Int} {ys : List Value}, VRL γ (as.map (Value.int k)) ys → ys = as.map (Value.int k)
  | [], ys, h => List.eq_nil_of_length_eq_zero (by have := h.1; simpa using this.symm)
  | x :: as, [], h => by have := h.1; simp at this
  | x :: as, y :: ys, h => by
    obtain ⟨h1, h2⟩ := VRL.uncons (by simpa using h)
    rw [h1.int_inv, VRL.ints h2, List.map_cons]

abbrev VO (γ : List G) (f : Fr) (a : Act) (l : Array Operand) : Prop := ∀ y ∈ l.toList, okOpd y = true → VR γ (ev f y) (a.eval y)

theorem xmm_run (w : World) (k : IntKind) (isMax : Bool) : ∀ (l : List Operand) (x r : Int), xmm isMax x (l.map (ev f)) = some r → (∀ y ∈ l, VR γ (ev f y) (a.eval y)) →
    ((l.map a.eval).foldlM (if isMax then Builtin.max2 else Builtin.min2) (.int k x)).run P w = .ok (.int k r) w
  | [], x, r, hx, _ => by simp [xmm] at hx; subst hx; simp
  | y :: l, x, r, hx, hv => by
    simp only [List.map_cons] at hx
    unfold xmm at hx
    split at hx
    · rename_i heq; simp at heq
    · rename_i a' k' b rest heq
      simp only [List.cons.injEq] at heq
      obtain ⟨h1, rfl⟩ := heq
      have h2 := hv y (by simp)
      rw [h1] at h2
      have h3 := h2.int_inv
      have ih := xmm_run w k isMax l _ r hx (fun z hz => hv z (by simp [hz]))
      simp only [List.map_cons, List.foldlM_cons, h3, Sem.run_bind]
      cases isMax
      · simp only [Bool.false_eq_true, if_false, Builtin.min2, Sem.run_pure, Result.andThen_ok] at ih ⊢; exact ih
      · simp only [if_true, Builtin.max2, Sem.run_pure, Result.andThen_ok] at ih ⊢; exact ih
    · cases hx

theorem bound_run {d : Int} {x : Option Operand} {l : Int} (hb : bound f d x = some l) (hok : x.all okOpd = true) (hv : ∀ y, x = some y → VR γ (ev f y) (a.eval y)) :
    (x = none ∧ l = d) ∨ ∃ y k, x = some y ∧ a.eval y = .int k l := by
  cases x with
  | none => left; simp [bound] at hb; exact ⟨rfl, hb.symm⟩
  | some y =>
    right
    have h1 := hv y rfl
    simp only [bound] at hb
    split at hb
    · rename_i k i he
      rw [he] at h1
      cases hb
      exact ⟨y, k, rfl, h1.int_inv⟩
    · cases hb

theorem xbin_int {op : BinOp} {x y r : Value} (hx : xbin op x y = some r) : ∃ k a k' b, x = .int k a ∧ y = .int k' b := by
  unfold xbin at hx
  split at hx <;> first | exact ⟨_, _, _, _, rfl, rfl⟩ | cases hx

theorem bin_run (w : World) (op : BinOp) (t : TypeId) (x y : Operand) (X Y r : Value) (hX : a.eval x = X) (hY : a.eval y = Y) (hx : xbin op X Y = some r) :
    (do eqGuard op t x y (a.eval x) (a.eval y); binOp op t (a.eval x) (a.eval y)).run P w = .ok r w := by
  obtain ⟨k, m, k', n, rfl, rfl⟩ := xbin_int hx
  rw [hX, hY]
  cases op <;> simp only [xbin] at hx
  case add => obtain ⟨rfl, rfl⟩ := ite_some hx; simp [eqGuard, binOp, Op.intArith]
  case sub => obtain ⟨rfl, rfl⟩ := ite_some hx; simp [eqGuard, binOp, Op.intArith]
  case mul => obtain ⟨rfl, rfl⟩ := ite_some hx; simp [eqGuard, binOp, Op.intArith]
  case quo => obtain ⟨⟨rfl, h0⟩, rfl⟩ := ite_some hx; simp [eqGuard, binOp, Op.intDiv, h0]
  case rem => obtain ⟨⟨rfl, h0⟩, rfl⟩ := ite_some hx; simp [eqGuard, binOp, Op.intDiv, h0]
  case and => obtain ⟨rfl, rfl⟩ := ite_some hx; simp [eqGuard, binOp, Op.intBits]
  case or => obtain ⟨rfl, rfl⟩ := ite_some hx; simp [eqGuard, binOp, Op.intBits]
  case xor => obtain ⟨rfl, rfl⟩ := ite_some hx; simp [eqGuard, binOp, Op.intBits]
  case andNot => obtain ⟨rfl, rfl⟩ := ite_some hx; simp [eqGuard, binOp, Op.intBits]
  case shl => obtain ⟨h0, rfl⟩ := ite_some hx; simp [eqGuard, binOp, Op.shift, show ¬ n < 0 by omega]
  case shr => obtain ⟨h0, rfl⟩ := ite_some hx; simp [eqGuard, binOp, Op.shift, show ¬ n < 0 by omega]
  case eql => obtain ⟨rfl, rfl⟩ := ite_some hx; simp [eqGuard, binOp, Op.intCmp]
  case neq => obtain ⟨rfl, rfl⟩ := ite_some hx; simp [eqGuard, binOp, Op.intCmp]
  case lss => obtain ⟨rfl, rfl⟩ := ite_some hx; simp [eqGuard, binOp, Op.intCmp]
  case leq => obtain ⟨rfl, rfl⟩ := ite_some hx; simp [eqGuard, binOp, Op.intCmp]
  case gtr => obtain ⟨rfl, rfl⟩ := ite_some hx; simp [eqGuard, binOp, Op.intCmp]
  case geq => obtain ⟨rfl, rfl⟩ := ite_some hx; simp [eqGuard, binOp, Op.intCmp]

theorem eqb_run (w : World) (neg : Bool) (t : TypeId) (x y : Operand) (p q : Bool) (hX : a.eval x = .bool p) (hY : a.eval y = .bool q) (ht : P.underlying t = some .bool) :
    (do eqGuard (if neg then .neq else .eql) t x y (a.eval x) (a.eval y); binOp (if neg then .neq else .eql) t (a.eval x) (a.eval y)).run P w = .ok (.bool ((p == q) != neg)) w := by
  rw [hX, hY]
  cases neg <;> simp [eqGuard, binOp, run_equal_bool w t p q ht]

theorem guard_agg (w : World) (neg : Bool) (t : TypeId) (x y : Operand) (X Y : Array Value) (hg : P.eqGuardType P.depth t = false) :
    (eqGuard (if neg then .neq else .eql) t x y (.agg X) (.agg Y)).run P w = .ok () w := by
  cases neg <;>
  · unfold eqGuard
    show (if (!true) = true then _ else _ : Sem Unit).run P w = _
    rw [if_neg (by decide)]
    show Sem.run P (program >>= fun p => if (!p.eqGuardType p.depth t) = true then pure () else _) w = _
    rw [Sem.run_bind, run_program, Result.andThen_ok, hg]
    rfl

theorem eqa_run (w : World) (neg : Bool) (t : TypeId) (x y : Operand) (K : IntKind) (xs ys : List Int) (n : Nat) (k : IntKind) (m : Nat) (e : TypeId)
    (hX : a.eval x = .agg (xs.map (Value.int K)).toArray) (hY : a.eval y = .agg (ys.map (Value.int K)).toArray) (ht : P.underlying t = some (.array m e))
    (hf : flatT P 4 t = some (k, n)) (hg : P.eqGuardType P.depth t = false) (hx : xs.length = n) (hy : ys.length = n) :
    (do eqGuard (if neg then .neq else .eql) t x y (a.eval x) (a.eval y); binOp (if neg then .neq else .eql) t (a.eval x) (a.eval y)).run P w = .ok (.bool ((xs == ys) != neg)) w := by
  have he := eq_flat (P := P) w K 9996 4 t k n hf xs ys hx hy
  simp only [fv, ht] at he
  have hq : (Op.equal t (.agg (xs.map (Value.int K)).toArray) (.agg (ys.map (Value.int K)).toArray)).run P w = .ok (xs == ys) w := he
  rw [hX, hY]
  generalize (xs.map (Value.int K)).toArray = X at hq ⊢
  generalize (ys.map (Value.int K)).toArray = Y at hq ⊢
  generalize (xs == ys) = b at hq ⊢
  clear he hX hY hx hy hf
  rw [Sem.run_bind, guard_agg w neg t x y X Y hg, Result.andThen_ok]
  cases neg
  · show ((Op.equal t (.agg X) (.agg Y)) >>= fun q => pure (Value.bool q)).run P w = _
    rw [Sem.run_bind, hq, Result.andThen_ok]
    cases b <;> rfl
  · show ((Op.equal t (.agg X) (.agg Y)) >>= fun q => pure (Value.bool (!q))).run P w = _
    rw [Sem.run_bind, hq, Result.andThen_ok]
    cases b <;> rfl

theorem isnil_run (w : World) (neg : Bool) (t : TypeId) (x y : Operand) (A : Option Addr) (n c : Nat) (e : TypeId) (hX : a.eval x = .slice A n c) (hY : a.eval y = .slice none 0 0) (ht : P.underlying t = some (.slice e)) :
    (do eqGuard (if neg then .neq else .eql) t x y (a.eval x) (a.eval y); binOp (if neg then .neq else .eql) t (a.eval x) (a.eval y)).run P w = .ok (.bool (A.isNone != neg)) w := by
  rw [hX, hY]
  have hD : ∀ D, (Op.equalIn (D + 1) t (.slice A n c) (.slice none 0 0)).run P w = .ok A.isNone w := by
    intro D
    cases A <;> simp [Op.equalIn, run_underlying ht]
  have hq : (Op.equal t (.slice A n c) (.slice none 0 0)).run P w = .ok A.isNone w := hD 9999
  cases neg
  · show ((Op.equal t (.slice A n c) (.slice none 0 0)) >>= fun q => pure (Value.bool q)).run P w = _
    rw [Sem.run_bind, hq, Result.andThen_ok]
    cases A <;> rfl
  · show ((Op.equal t (.slice A n c) (.slice none 0 0)) >>= fun q => pure (Value.bool (!q))).run P w = _
    rw [Sem.run_bind, hq, Result.andThen_ok]
    cases A <;> rfl

end Go.Proofs.Ytnjhhgfpclngcaa.X
