/-
  For all arguments the program's EntryFault returns what the reference's returns; no conditions.
-/
import Derived.Test.YtkibnkfmcmbhnaaPFnExactEntryFaultx4
import Derived.Test.YtkibnkfmcmbhnaaGoodFnExactEntryFault
namespace Go.Proofs.Ytkibnkfmcmbhnaa.Pure
open Go.RowKit Go.Proofs.Ytkibnkfmcmbhnaa.PFnExactEntryFault Go.Proofs.YtkibnkfmcmbhnaaW.PrintWords Go.Proofs.YtkibnkfmcmbhnaaW.PrintLast Go.Proofs.YtkibnkfmcmbhnaaW.PrintMore

set_option linter.unusedSimpArgs false
set_option linter.unusedVariables false
/-- What an operation's fault is. -/
def opF (kd vol a v : Int) : Int :=
  if 1 ≤ kd ∧ kd ≤ 6 then
    (if ¬ (1 ≤ vol ∧ vol ≤ 99) ∨ ((2 ≤ kd ∧ kd ≤ 4) ∧ ¬ (0 ≤ a ∧ a ≤ 15)) ∨ (kd = 1 ∧ ¬ (1 ≤ v ∧ v ≤ 16)) ∨ (kd = 2 ∧ ¬ (0 ≤ v ∧ v ≤ 255)) ∨ (kd = 5 ∧ ¬ (1 ≤ v ∧ v ≤ 99)) then 3
     else if (¬ (2 ≤ kd ∧ kd ≤ 4) ∧ a ≠ 0) ∨ ((kd = 3 ∨ kd = 4 ∨ kd = 6) ∧ v ≠ 0) then 1 else 0)
  else 1
theorem spec_l1In_eq (a lo hi : Int) : spec_l1In.f a lo hi = some (decide (lo ≤ a) && decide (a ≤ hi)) := by
  unfold spec_l1In.f
  by_cases h : lo ≤ a <;> simp [h]
theorem impl_within_eq (a lo hi : Int) : impl_within.f a lo hi = some (decide (lo ≤ a) && decide (a ≤ hi)) := by
  unfold impl_within.f
  by_cases h : lo ≤ a <;> simp [h]
theorem spec_OpFault_eq (k : Nat) (kd vol a v : Int) : spec_OpFault.f (k + 3) kd vol a v = some (opF kd vol a v) := by
  unfold spec_OpFault.f
  simp only [spec_l1In_eq, Option.bind_some]
  by_cases hk : 1 ≤ kd ∧ kd ≤ 6
  · obtain ⟨hk1, hk2⟩ := hk
    by_cases h1 : 1 ≤ vol ∧ vol ≤ 99
    · by_cases h2 : 0 ≤ a ∧ a ≤ 15
      · have : kd = 1 ∨ kd = 2 ∨ kd = 3 ∨ kd = 4 ∨ kd = 5 ∨ kd = 6 := by omega
        rcases this with rfl | rfl | rfl | rfl | rfl | rfl <;>
          simp [spec_OpFault.j0, spec_OpFault.j1, spec_OpFault.j2, spec_l5Id.f, spec_l4Place.f, spec_l3Data.f, spec_l1In_eq, opF, h1.1, h1.2, h2.1, h2.2] <;>
          (repeat' split) <;> first | rfl | omega | (exfalso; simp_all; omega) | simp_all
      · have : kd = 1 ∨ kd = 2 ∨ kd = 3 ∨ kd = 4 ∨ kd = 5 ∨ kd = 6 := by omega
        have h2' : (decide (0 ≤ a) && decide (a ≤ 15)) = false := by simpa using h2
        rcases this with rfl | rfl | rfl | rfl | rfl | rfl <;>
          simp [spec_OpFault.j0, spec_OpFault.j1, spec_OpFault.j2, spec_l5Id.f, spec_l4Place.f, spec_l3Data.f, spec_l1In_eq, opF, h1.1, h1.2, h2'] <;>
          (repeat' split) <;> first | rfl | omega | (exfalso; simp_all; omega) | simp_all
    · have h1' : (decide (1 ≤ vol) && decide (vol ≤ 99)) = false := by simpa using h1
      have : kd = 1 ∨ kd = 2 ∨ kd = 3 ∨ kd = 4 ∨ kd = 5 ∨ kd = 6 := by omega
      rcases this with rfl | rfl | rfl | rfl | rfl | rfl <;>
        simp [spec_OpFault.j0, spec_OpFault.j1, spec_OpFault.j2, spec_l5Id.f, spec_l4Place.f, spec_l3Data.f, spec_l1In_eq, opF, h1'] <;>
        (repeat' split) <;> first | rfl | omega | (exfalso; simp_all; omega) | simp_all
  · have : (decide (1 ≤ kd) && decide (kd ≤ 6)) = false := by simpa using hk
    simp [this, opF, hk]
theorem impl_OpFault_eq (k : Nat) (kd vol a v : Int) : impl_OpFault.f (k + 3) kd vol a v = some (opF kd vol a v) := by
  unfold impl_OpFault.f
  simp only [impl_within_eq, Option.bind_some]
  by_cases hk : 1 ≤ kd ∧ kd ≤ 6
  · obtain ⟨hk1, hk2⟩ := hk
    by_cases h1 : 1 ≤ vol ∧ vol ≤ 99
    · by_cases h2 : 0 ≤ a ∧ a ≤ 15
      · have : kd = 1 ∨ kd = 2 ∨ kd = 3 ∨ kd = 4 ∨ kd = 5 ∨ kd = 6 := by omega
        rcases this with rfl | rfl | rfl | rfl | rfl | rfl <;>
          simp [impl_OpFault.j0, impl_OpFault.j1, impl_isId.f, impl_isTreePlace.f, impl_isQuota.f, impl_isByte.f, impl_within_eq, opF, h1.1, h1.2, h2.1, h2.2] <;>
          (repeat' split) <;> first | rfl | omega | (exfalso; simp_all; omega) | simp_all
      · have : kd = 1 ∨ kd = 2 ∨ kd = 3 ∨ kd = 4 ∨ kd = 5 ∨ kd = 6 := by omega
        have h2' : (decide (0 ≤ a) && decide (a ≤ 15)) = false := by simpa using h2
        rcases this with rfl | rfl | rfl | rfl | rfl | rfl <;>
          simp [impl_OpFault.j0, impl_OpFault.j1, impl_isId.f, impl_isTreePlace.f, impl_isQuota.f, impl_isByte.f, impl_within_eq, opF, h1.1, h1.2, h2'] <;>
          (repeat' split) <;> first | rfl | omega | (exfalso; simp_all; omega) | simp_all
    · have h1' : (decide (1 ≤ vol) && decide (vol ≤ 99)) = false := by simpa using h1
      have : kd = 1 ∨ kd = 2 ∨ kd = 3 ∨ kd = 4 ∨ kd = 5 ∨ kd = 6 := by omega
      rcases this with rfl | rfl | rfl | rfl | rfl | rfl <;>
        simp [impl_OpFault.j0, impl_OpFault.j1, impl_isId.f, impl_isTreePlace.f, impl_isQuota.f, impl_isByte.f, impl_within_eq, opF, h1'] <;>
        (repeat' split) <;> first | rfl | omega | (exfalso; simp_all; omega) | simp_all
  · have : (decide (1 ≤ kd) && decide (kd ≤ 6)) = false := by simpa using hk
    simp [this, opF, hk]
/-- What an entry's fault is. -/
def entF (c s kd vol a v : Int) : Int := if (1 ≤ c ∧ c ≤ 99) ∧ 1 ≤ s ∧ s ≤ 999 then opF kd vol a v else 3
theorem spec_EntryFault_eq (k : Nat) (c s kd vol a v : Int) : spec_EntryFault.f (k + 3) c s kd vol a v = some (entF c s kd vol a v) := by
  unfold spec_EntryFault.f entF
  simp only [spec_l1In_eq, spec_OpFault_eq, Option.bind_some]
  by_cases h1 : 1 ≤ c ∧ c ≤ 99
  · by_cases h2 : 1 ≤ s ∧ s ≤ 999
    · simp [h1.1, h1.2, h2.1, h2.2]
    · have h2' : (decide (1 ≤ s) && decide (s ≤ 999)) = false := by simpa using h2
      simp [h1.1, h1.2, h2', h2]
  · have h1' : (decide (1 ≤ c) && decide (c ≤ 99)) = false := by simpa using h1
    simp [h1', h1]
theorem impl_EntryFault_eq (k : Nat) (c s kd vol a v : Int) : impl_EntryFault.f (k + 3) c s kd vol a v = some (entF c s kd vol a v) := by
  unfold impl_EntryFault.f entF impl_isId.f
  simp only [impl_within_eq, impl_OpFault_eq, Option.bind_some]
  by_cases h1 : 1 ≤ c ∧ c ≤ 99
  · by_cases h2 : 1 ≤ s ∧ s ≤ 999
    · simp [h1.1, h1.2, h2.1, h2.2]
    · have h2' : (decide (1 ≤ s) && decide (s ≤ 999)) = false := by simpa using h2
      simp [h1.1, h1.2, h2', h2]
  · have h1' : (decide (1 ≤ c) && decide (c ≤ 99)) = false := by simpa using h1
    simp [h1', h1]

theorem FnExactEntryFault : ∀ (x0 : S30), good30 x0 → ∃ k, laws_FnExactEntryFault.f k x0.f0 x0.f1 x0.f2.f0 x0.f2.f1 x0.f2.f2 x0.f2.f3 = some true := by
  intro x0 _
  refine ⟨3, ?_⟩
  unfold laws_FnExactEntryFault.f
  simp [laws_toEntry.f, laws_toOp.f, spec_EntryFault_eq 0, impl_EntryFault_eq 0]

end Go.Proofs.Ytkibnkfmcmbhnaa.Pure
