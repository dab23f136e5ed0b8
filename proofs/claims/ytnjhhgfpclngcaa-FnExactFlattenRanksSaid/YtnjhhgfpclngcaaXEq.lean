/- The abstract machine's soundness, part 4: two arrays of whole numbers are compared. -/
import Derived.Test.YtnjhhgfpclngcaaXPure
import Derived.Laws.StructEq
import Derived.Laws.Small
set_option linter.unusedVariables false
set_option linter.unusedSimpArgs false
namespace Go.Proofs.Ytnjhhgfpclngcaa.X
open Go Go.RowKit

variable {P : Program}

def fv (P : Program) (t : TypeId) (K : IntKind) (xs : List Int) : Value := match P.underlying t with
  | some (.array _ _) => .agg (xs.map (Value.int K)).toArray
  | _ => .int K (xs.headD 0)

theorem chunks_eq (m : Nat) (hm : 0 < m) (n : Nat) (xs ys : List Int) (hx : xs.length = n * m) (hy : ys.length = n * m) :
    ((List.range' 0 n 1).all fun i => ((xs.drop (i * m)).take m == (ys.drop (i * m)).take m)) = (xs == ys) := by
  rw [Bool.eq_iff_iff]
  simp only [List.all_eq_true, beq_iff_eq]
  constructor
  · intro h
    apply List.ext_getElem?
    intro j
    by_cases hj : j < n * m
    · have hi : j / m < n := by rw [Nat.div_lt_iff_lt_mul hm]; exact hj
      have := h (j / m) (by simp [List.mem_range'_1]; exact hi)
      have h1 := congrArg (fun l : List Int => l[j % m]?) this
      simp only [List.getElem?_take, List.getElem?_drop] at h1
      rw [if_pos (Nat.mod_lt _ hm), if_pos (Nat.mod_lt _ hm)] at h1
      have e : j / m * m + j % m = j := by rw [Nat.mul_comm]; exact Nat.div_add_mod j m
      rwa [e] at h1
    · rw [List.getElem?_eq_none (by omega), List.getElem?_eq_none (by omega)]
  · rintro rfl i _
    rfl

theorem flatT_int {d : Nat} {t : TypeId} {k : IntKind} {n : Nat} (hf : flatT P (d + 1) t = some (k, n)) (hne : ∀ m e, P.underlying t ≠ some (.array m e)) :
    n = 1 ∧ (∃ k', P.underlying t = some (.int k')) ∧ sizeT P t = some 1 := by
  unfold flatT at hf
  cases hu : P.underlying t with
  | none => simp [hu] at hf
  | some u =>
    cases u <;> simp [hu] at hf
    case int k' => exact ⟨hf.2.2.symm, ⟨k', rfl⟩, hf.1⟩
    case array m e => exact absurd hu (hne m e)

theorem eq_flat (w : World) (K : IntKind) (D : Nat) : ∀ (d : Nat) (t : TypeId) (k : IntKind) (n : Nat), flatT P d t = some (k, n) → ∀ (xs ys : List Int), xs.length = n → ys.length = n →
    (Op.equalIn (D + d) t (fv P t K xs) (fv P t K ys)).run P w = .ok (xs == ys) w
  | 0, t, k, n, hf, _, _, _, _ => by simp [flatT] at hf
  | d + 1, t, k, n, hf, xs, ys, hx, hy => by
    by_cases ha : ∃ m e, P.underlying t = some (.array m e)
    · obtain ⟨m, e, hu⟩ := ha
      simp only [flatT, hu] at hf
      split at hf
      · rename_i k' s hfe
        obtain ⟨hs, he⟩ := ite_some hf
        simp only [Prod.mk.injEq] at he
        obtain ⟨rfl, rfl⟩ := he
        simp only [Bool.and_eq_true, beq_iff_eq, decide_eq_true_eq] at hs
        obtain ⟨hse, hp⟩ := hs
        have hsz : ∀ w, (sizeOf e).run P w = .ok s w := run_size hse
        have hd : ∃ d', d = d' + 1 := by cases d with
          | zero => simp [flatT] at hfe
          | succ d => exact ⟨d, rfl⟩
        obtain ⟨d', rfl⟩ := hd
        have hpart : ∀ (zs : List Int) (i : Nat), zs.length = m * s → i < m → 0 < s → (part e (zs.map (Value.int K)).toArray (i * s)).run P w = .ok (fv P e K ((zs.drop (i * s)).take s)) w := by
          intro zs i hz hi hp
          have hlt : i * s + s ≤ m * s := by rw [← Nat.succ_mul]; exact Nat.mul_le_mul_right _ hi
          by_cases hea : ∃ m' e', P.underlying e = some (.array m' e')
          · obtain ⟨m', e', hue⟩ := hea
            simp only [part, isAgg, Sem.run_bind, run_underlying hue, Result.andThen_ok, Sem.run_pure, if_true, hsz, fv, hue]
            congr 2
            apply Array.ext'
            rw [Array.toList_extract]
            show List.extract _ _ _ = _
            unfold List.extract
            rw [Nat.add_sub_cancel_left, List.map_take, List.map_drop]
          · obtain ⟨h1, ⟨k'', h2⟩, h3⟩ := flatT_int hfe (fun m' e' he => hea ⟨m', e', he⟩)
            subst h1
            simp only [Nat.mul_one] at hlt hz ⊢
            have hlz : i < zs.length := by omega
            have e1 : (zs.drop i).take 1 = [zs[i]] := by rw [List.drop_eq_getElem_cons hlz]; rfl
            rw [e1]
            simp [part, isAgg, run_underlying h2, fv, h2, List.getElem?_eq_getElem hlz]
        rw [← chunks_eq s hp m xs ys hx hy]
        rw [show D + (d' + 1 + 1) = (D + (d' + 1)) + 1 from rfl, Op.equalIn]
        simp only [fv, hu]
        simp only [Sem.run_bind, run_underlying hu, Result.andThen_ok, hsz, Std.Legacy.Range.forIn_eq_forIn_range', Std.Legacy.Range.size, Nat.sub_zero, Nat.add_sub_cancel, Nat.div_one]
        have hl : ∀ i ∈ List.range' 0 m 1, i < m := fun i hi => by simpa using (List.mem_range'_1.1 hi).2
        generalize List.range' 0 m 1 = l at hl ⊢
        induction l with
        | nil => simp
        | cons i l ih =>
          have hi : i < m := hl i (by simp)
          have hlt : i * s + s ≤ m * s := by rw [← Nat.succ_mul]; exact Nat.mul_le_mul_right _ hi
          have px := hpart xs i hx hi hp
          have py := hpart ys i hy hi hp
          have pe := eq_flat w K D (d' + 1) e k' s hfe ((xs.drop (i * s)).take s) ((ys.drop (i * s)).take s) (by simp; omega) (by simp; omega)
          simp only [List.forIn_cons, Sem.run_bind, px, py, pe, Result.andThen_ok, List.all_cons]
          cases hb : ((xs.drop (i * s)).take s == (ys.drop (i * s)).take s)
          · simp
          · simp only [Bool.not_true, Bool.false_eq_true, if_false, Sem.run_pure, Result.andThen_ok, Bool.true_and]
            exact ih fun j hj => hl j (by simp [hj])
      · cases hf
    · obtain ⟨rfl, ⟨k', hu⟩, _⟩ := flatT_int hf (fun m e he => ha ⟨m, e, he⟩)
      obtain ⟨x, rfl⟩ := List.length_eq_one_iff.1 hx
      obtain ⟨y, rfl⟩ := List.length_eq_one_iff.1 hy
      simp only [fv, hu, List.headD_cons]
      rw [show D + (d + 1) = (D + d) + 1 from rfl, run_equalIn_int w (D + d) t K k' x y hu]
      congr 1
      rw [Bool.eq_iff_iff]; simp

end Go.Proofs.Ytnjhhgfpclngcaa.X
