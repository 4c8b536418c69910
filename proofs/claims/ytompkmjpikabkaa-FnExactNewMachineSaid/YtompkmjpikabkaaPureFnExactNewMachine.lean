/-
  The law FnExactNewMachine in plain Lean: for every number handed in, the value that the code answers is the value that the specification answers, and what is written into it is its own.
-/
import Derived.Test.YtompkmjpikabkaaPFnExactNewMachinex7
import Derived.Test.YtompkmjpikabkaaPWFnExactNewMachine
import Derived.Test.YtompkmjpikabkaaGoodFnExactNewMachine
namespace Go.Proofs.Ytompkmjpikabkaa.Pure
open Go.RowKit Go.Proofs.Ytompkmjpikabkaa.PFnExactNewMachine Go.Proofs.YtompkmjpikabkaaW.PrintWords Go.Proofs.YtompkmjpikabkaaW.PrintLast Go.Proofs.YtompkmjpikabkaaW.PrintMore Go.Proofs.Ytompkmjpikabkaa.PW

set_option linter.unusedSimpArgs false
set_option linter.unusedVariables false
/-- Outside of 0 to 24 the code and the specification answer what they answer at -1. -/
theorem spec_NewBlocks_out (a0 : Int) (h : ¬ (0 ≤ a0 ∧ a0 ≤ 24)) : spec_NewBlocks.f a0 = spec_NewBlocks.f (-1) := by
  unfold spec_NewBlocks.f spec_l1In.f
  by_cases h0 : a0 ≥ 0
  · have h1 : decide (a0 ≤ 24) = false := decide_eq_false (by omega)
    rw [if_pos h0, if_neg (show ¬ ((-1 : Int) ≥ 0) by omega), h1]
    rfl
  · rw [if_neg h0, if_neg (show ¬ ((-1 : Int) ≥ 0) by omega)]
    rfl
theorem impl_NewBlocks_out (a0 : Int) (h : ¬ (0 ≤ a0 ∧ a0 ≤ 24)) : impl_NewBlocks.f a0 = impl_NewBlocks.f (-1) := by
  unfold impl_NewBlocks.f impl_within.f
  by_cases h0 : 0 ≤ a0
  · have h1 : decide (a0 ≤ 24) = false := decide_eq_false (by omega)
    rw [if_pos h0, if_neg (show ¬ (0 ≤ (-1 : Int)) by omega), h1]
    rfl
  · rw [if_neg h0, if_neg (show ¬ (0 ≤ (-1 : Int)) by omega)]
    rfl
theorem spec_NewMachine_out (a0 : Int) (h : ¬ (0 ≤ a0 ∧ a0 ≤ 24)) : spec_NewMachine.f a0 = spec_NewMachine.f (-1) := by
  unfold spec_NewMachine.f spec_NewPool.f spec_NewForest.f
  rw [spec_NewBlocks_out a0 h]
theorem impl_NewMachine_out (a0 : Int) (h : ¬ (0 ≤ a0 ∧ a0 ≤ 24)) : impl_NewMachine.f a0 = impl_NewMachine.f (-1) := by
  unfold impl_NewMachine.f impl_NewPool.f impl_NewForest.f
  rw [impl_NewBlocks_out a0 h]
theorem FnExactNewMachine : ∀ (a0 : Int), (Lit.int .i64 a0).wf = true → ∃ k, laws_FnExactNewMachine.f k a0 = some true := by
  intro a0 _
  refine ⟨30, ?_⟩
  by_cases h : 0 ≤ a0 ∧ a0 ≤ 24
  · have hall : ∀ n : Fin 25, laws_FnExactNewMachine.f 30 ((n.val : Nat) : Int) = some true := by decide +kernel
    have := hall ⟨a0.toNat, by omega⟩
    rwa [show ((⟨a0.toNat, by omega⟩ : Fin 25).val : Int) = a0 from Int.toNat_of_nonneg h.1] at this
  · have he : laws_FnExactNewMachine.f 30 a0 = laws_FnExactNewMachine.f 30 (-1) := by
      unfold laws_FnExactNewMachine.f
      rw [spec_NewMachine_out a0 h, impl_NewMachine_out a0 h]
    rw [he]
    decide +kernel

end Go.Proofs.Ytompkmjpikabkaa.Pure
