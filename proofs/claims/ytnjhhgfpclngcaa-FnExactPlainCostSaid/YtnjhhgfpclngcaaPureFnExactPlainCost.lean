/- The program's PlainCost and the reference's PlainCost return the same two numbers for every int64 argument. No condition. -/
import Derived.Test.YtnjhhgfpclngcaaPFnExactPlainCostx1
namespace Go.Proofs.Ytnjhhgfpclngcaa.Pure
open Go.RowKit Go.Proofs.Ytnjhhgfpclngcaa.PFnExactPlainCost Go.Proofs.YtnjhhgfpclngcaaW.PrintWords Go.Proofs.YtnjhhgfpclngcaaW.PrintLast

theorem FnExactPlainCost : laws_FnExactPlainCost.Pure := by
  intro a0 _
  unfold laws_FnExactPlainCost.f spec_PlainCost.f impl_PlainCost.f spec_l01In.f
  by_cases h1 : a0 < 1
  · have h2 : ¬ a0 ≥ 1 := by omega
    simp [h1, h2]
  · have h2 : a0 ≥ 1 := by omega
    by_cases h3 : a0 ≤ 50000
    · have h4 : ¬ a0 > 50000 := by omega
      simp [h1, h2, h3, h4]
    · have h4 : a0 > 50000 := by omega
      simp [h1, h2, h3, h4]

end Go.Proofs.Ytnjhhgfpclngcaa.Pure
