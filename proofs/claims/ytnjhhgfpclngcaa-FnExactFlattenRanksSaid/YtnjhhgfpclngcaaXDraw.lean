/- The abstract machine's soundness, part 10: a region whose order is open comes to what the text's order comes to. -/
import Derived.Test.YtnjhhgfpclngcaaXStep
set_option linter.unusedVariables false
set_option linter.unusedSimpArgs false
namespace Go.Proofs.Ytnjhhgfpclngcaa.X
open Go Go.RowKit

variable {P : Program} {B : Nat} {γ : List G} {h h' : AH} {w : World} {f f' : Fr} {a : Act} {v v' : Value} {C : FuncId → List Value → AH → Option (Value × AH)} {nt : Nat}

/-! ### The text's order, state by state -/
theorem xops_states : ∀ (l : List XI) (f : Fr) (h : AH) (r : Fr × AH), xops C l f h = some r → ∃ (F : Nat → Fr) (H : Nat → AH), F 0 = f ∧ H 0 = h ∧ (F l.length, H l.length) = r ∧
    ∀ i x, l[i]? = some x → xstep C x (F i) (H i) = some (F (i + 1), H (i + 1))
  | [], f, h, r, hx => by
    simp only [xops, Option.some.injEq] at hx
    exact ⟨fun _ => f, fun _ => h, rfl, rfl, hx, fun i x hi => by simp at hi⟩
  | x :: l, f, h, r, hx => by
    simp only [xops] at hx
    split at hx
    · rename_i f1 h1 hs
      obtain ⟨F, H, e1, e2, e3, e4⟩ := xops_states l f1 h1 r hx
      refine ⟨fun i => if i = 0 then f else F (i - 1), fun i => if i = 0 then h else H (i - 1), rfl, rfl, by simpa using e3, fun i y hi => ?_⟩
      cases i with
      | zero => simp at hi; subst hi; simpa [e1, e2] using hs
      | succ i => simpa using e4 i y (by simpa using hi)
    · cases hx
theorem xops_append : ∀ (l m : List XI) (f : Fr) (h : AH) (r : Fr × AH), xops C (l ++ m) f h = some r → ∃ f1 h1, xops C l f h = some (f1, h1) ∧ xops C m f1 h1 = some r
  | [], m, f, h, r, hx => ⟨f, h, rfl, hx⟩
  | x :: l, m, f, h, r, hx => by
    simp only [List.cons_append, xops] at hx ⊢
    split at hx
    · rename_i f1 h1 hs
      exact xops_append l m f1 h1 r hx
    · cases hx
theorem isNop_eq {x : XI} (hx : isNop x = true) : x = nop := by
  unfold isNop at hx
  split at hx
  · rfl
  · cases hx
theorem xstep_nop (f : Fr) (h : AH) : xstep C nop f h = some (f, h) := by
  simp [xstep, nop, want, xrun, xop, updo]
theorem xops_filter : ∀ (l : List XI) (f : Fr) (h : AH), xops C (l.filter fun x => !isNop x) f h = xops C l f h
  | [], f, h => rfl
  | x :: l, f, h => by
    by_cases hx : isNop x = true
    · rw [List.filter_cons_of_neg (by simp [hx])]
      rw [isNop_eq hx]
      simp only [xops, xstep_nop]
      exact xops_filter l f h
    · rw [List.filter_cons_of_pos (by simpa using hx)]
      simp only [xops]
      split
      · exact xops_filter l _ _
      · rfl

/-! ### Who comes before whom -/
theorem foldl_mask (acc : List Nat) : ∀ (es : List Edge) (m i : Nat), (es.foldl (fun m e => if Region.binds .any e then m ||| (1 <<< e.on) ||| acc.getD e.on 0 else m) m).testBit i = true →
    m.testBit i = true ∨ ∃ e ∈ es, Region.binds .any e = true ∧ (i = e.on ∨ (acc.getD e.on 0).testBit i = true)
  | [], m, i, h => .inl h
  | e :: es, m, i, h => by
    simp only [List.foldl_cons] at h
    rcases foldl_mask acc es _ i h with h1 | ⟨e', h2, h3⟩
    · split at h1
      · rename_i hb
        simp only [Nat.testBit_or, Bool.or_eq_true] at h1
        rcases h1 with (h1 | h1) | h1
        · exact .inl h1
        · refine .inr ⟨e, by simp, hb, .inl ?_⟩
          rw [Nat.one_shiftLeft, Nat.testBit_two_pow] at h1
          simpa using (of_decide_eq_true h1).symm
        · exact .inr ⟨e, by simp, hb, .inr h1⟩
      · exact .inl h1
    · exact .inr ⟨e', by simp [h2], h3⟩

theorem masks_snoc (os : List Oper) (o : Oper) : masks (os ++ [o]) = masks os ++ [edgeMask (masks os) o.after.toList] := by simp [masks]
theorem masks_length (os : List Oper) : (masks os).length = os.length := by
  have : ∀ (os : List Oper) (acc : List Nat), (os.foldl (fun acc o => acc ++ [edgeMask acc o.after.toList]) acc).length = acc.length + os.length := by
    intro os
    induction os with
    | nil => intro acc; simp
    | cons o os ih => intro acc; simp only [List.foldl_cons, ih, List.length_append, List.length_cons, List.length_nil]; omega
  have := this os []
  simpa [masks] using this
theorem masks_take (os : List Oper) : ∀ k, k ≤ os.length → masks (os.take k) = (masks os).take k := by
  have key : ∀ (l m : List Oper) , ∃ t, masks (l ++ m) = masks l ++ t := by
    have ext : ∀ (m : List Oper) (acc : List Nat), ∃ t, m.foldl (fun acc o => acc ++ [edgeMask acc o.after.toList]) acc = acc ++ t := by
      intro m
      induction m with
      | nil => exact fun acc => ⟨[], by simp⟩
      | cons o m ih =>
        intro acc
        obtain ⟨t, ht⟩ := ih (acc ++ [edgeMask acc o.after.toList])
        exact ⟨[edgeMask acc o.after.toList] ++ t, by rw [List.foldl_cons, ht, List.append_assoc]⟩
    intro l m
    obtain ⟨t, ht⟩ := ext m (masks l)
    exact ⟨t, by rw [← ht]; simp [masks]⟩
  intro k hk
  obtain ⟨t, ht⟩ := key (os.take k) (os.drop k)
  rw [List.take_append_drop] at ht
  have hl : (masks (os.take k)).length = k := by rw [masks_length]; simp; omega
  rw [ht, List.take_append_of_le_length (by omega), List.take_of_length_le (l := masks (os.take k)) (by omega)]
theorem masks_get (os : List Oper) (j : Nat) (o : Oper) (hj : os[j]? = some o) : (masks os).getD j 0 = edgeMask ((masks os).take j) o.after.toList := by
  have hl := (List.getElem?_eq_some_iff.1 hj).1
  have h1 : os.take (j + 1) = os.take j ++ [o] := by rw [List.take_add_one, hj]; rfl
  have h2 := masks_take os (j + 1) (by omega)
  rw [h1, masks_snoc, masks_take os j (by omega)] at h2
  have h3 : ((masks os).take j ++ [edgeMask ((masks os).take j) o.after.toList])[j]? = ((masks os).take (j + 1))[j]? := by rw [h2]
  rw [List.getElem?_append_right (by simp [masks_length]; omega), List.getElem?_take, if_pos (by omega)] at h3
  simp only [List.length_take, masks_length, Nat.min_eq_left (Nat.le_of_lt hl), Nat.sub_self, List.getElem?_cons_zero] at h3
  rw [List.getD_eq_getElem?_getD, ← h3]
  rfl

/-- What is listed is closed downward. -/
def Closed (os : List Oper) (L : Nat → Bool) : Prop := ∀ i o, os[i]? = some o → L i = true → ∀ e ∈ o.after.toList, Region.binds .any e = true → L e.on = true

theorem mask_listed {os : List Oper} {L : Nat → Bool} (hE : edgesFine os = true) (hL : Closed os L) : ∀ (j : Nat) (o : Oper), os[j]? = some o → (∀ e ∈ o.after.toList, Region.binds .any e = true → L e.on = true) →
    ∀ i, ((masks os).getD j 0).testBit i = true → L i = true := by
  intro j
  induction j using Nat.strongRecOn with
  | _ j ih =>
    intro o hj he i hi
    rw [masks_get os j o hj] at hi
    have hlt := (List.getElem?_eq_some_iff.1 hj).1
    have hEj := List.all_eq_true.1 hE j (by simpa using hlt)
    rw [hj] at hEj
    rcases foldl_mask _ _ 0 i hi with h0 | ⟨e, h1, h2, h3⟩
    · simp at h0
    · have hlist := he e h1 h2
      have hon : e.on < j := by
        have := List.all_eq_true.1 hEj e h1
        simpa [h2] using this
      rcases h3 with rfl | h3
      · exact hlist
      · have hex : ∃ o', os[e.on]? = some o' := ⟨_, List.getElem?_eq_getElem (by omega)⟩
        obtain ⟨o', ho'⟩ := hex
        refine ih e.on hon o' ho' (hL e.on o' ho' hlist) i ?_
        rw [List.getD_eq_getElem?_getD, List.getElem?_take, if_pos hon] at h3
        rw [List.getD_eq_getElem?_getD]
        exact h3

end Go.Proofs.Ytnjhhgfpclngcaa.X
