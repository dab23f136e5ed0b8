/- The results of SliceOf are small. -/
import Derived.Test.YtnjhhgfpclngcaaXF33
import Derived.Test.YtnjhhgfpclngcaaXG1
set_option linter.unusedVariables false
set_option linter.unusedSimpArgs false
set_option maxRecDepth 20000
set_option maxHeartbeats 4000000
namespace Go.Proofs.Ytnjhhgfpclngcaa.X
open Go Go.RowKit

theorem smallM_of {rows : List (List Int)} {A B : Nat} (h1 : rows.length ≤ A) (h2 : ∀ i, i < rows.length → (rows.getD i []).length ≤ B) (hAB : A ≤ 1000 ∧ B ≤ 1000) : SmallM rows := by
  have ht : ∀ i, i ≤ rows.length → tot rows i ≤ i * 1000 := fun i => by
    induction i with
    | zero => intro _; simp
    | succ i ih =>
      intro hi
      have e := tot_succ (rows := rows) (i := i) (by omega)
      have := ih (by omega)
      have := h2 i (by omega)
      omega
  have := ht rows.length (Nat.le_refl _)
  exact ⟨by omega, fun i hi => by have := h2 i hi; omega, by omega⟩
theorem smallM_nil : SmallM [] := ⟨by simp, by simp, by simp [tot]⟩
theorem slR_small (t : Ten) (s a : Int) : SmallM (slR t s a).1 := by
  unfold slR
  split
  · rename_i h
    have fu := TF.turnN (n := s.toNat) (isT_facts h)
    split
    · have := fu.j
      have := fu.k
      refine smallM_of (A := 9) (B := 9) (by rw [sliceT_len]; omega) (fun i hi => ?_) (by omega)
      rw [sliceT_len] at hi
      rw [sliceT_get hi, gen_len]
      omega
    · exact smallM_nil
  · exact smallM_nil
end Go.Proofs.Ytnjhhgfpclngcaa.X
