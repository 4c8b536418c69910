/-
  For all arguments the program's PrimaryOf returns what the reference's PrimaryOf returns; no conditions.
-/
import Derived.Test.YtkibnkfmcmbhnaaPFnExactPrimaryOfx1
namespace Go.Proofs.Ytkibnkfmcmbhnaa.Pure
open Go.RowKit Go.Proofs.Ytkibnkfmcmbhnaa.PFnExactPrimaryOf Go.Proofs.YtkibnkfmcmbhnaaW.PrintWords Go.Proofs.YtkibnkfmcmbhnaaW.PrintLast

set_option linter.unusedSimpArgs false
set_option linter.unusedVariables false
theorem FnExactPrimaryOf : laws_FnExactPrimaryOf.Pure := by
  intro a0 a1 _ _
  unfold laws_FnExactPrimaryOf.f spec_PrimaryOf.f impl_PrimaryOf.f spec_l9View.f impl_primary.f laws_eqIntResult.f
  unfold spec_l1In.f impl_within.f
  by_cases h1 : 0 ≤ a0 <;> by_cases h2 : a0 ≤ 200 <;> by_cases h3 : 1 ≤ a1 <;> by_cases h4 : a1 ≤ 5 <;>
    first
    | (have h5 : ¬ a1 = 0 := by omega
       simp [h1, h2, h3, h4, h5]; done)
    | (simp [h1, h2, h3, h4]; done)

end Go.Proofs.Ytkibnkfmcmbhnaa.Pure
