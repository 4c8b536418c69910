/-
  The openers of the argument types of FnExactLogFault, and what is known of what was opened; no conditions.
-/
import Derived.Test.YtkibnkfmcmbhnaaPFnExactLogFaultx0
import Derived.Test.YtkibnkfmcmbhnaaOpn
namespace Go.Proofs.Ytkibnkfmcmbhnaa.PFnExactLogFault
open Go.RowKit Go.Proofs.Ytkibnkfmcmbhnaa.Opn Go.Proofs.YtkibnkfmcmbhnaaW.PrintWords
theorem opn2 : Opn Try.prog 2 (Kd.int .i64) (fun n => (Lit.int .i64 n).wf = true) := opn_int Try.underlying2 (by kernel_rfl)
def good28 (x : S28) : Prop := (Lit.int .i64 x.f0).wf = true ∧ (Lit.int .i64 x.f1).wf = true ∧ (Lit.int .i64 x.f2).wf = true ∧ (Lit.int .i64 x.f3).wf = true
theorem opn28 : Opn Try.prog 28 k28 good28 := opn_struct Try.underlying28 (by kernel_rfl) (fs_cons opn2 rfl rfl (fs_cons opn2 rfl rfl (fs_cons opn2 rfl rfl (fs_one opn2 rfl rfl)))) (fun x : S28 => (x.f0, x.f1, x.f2, x.f3)) (fun a => ⟨a.1, a.2.1, a.2.2.1, a.2.2.2⟩) (fun _ => rfl)
def good30 (x : S30) : Prop := (Lit.int .i64 x.f0).wf = true ∧ (Lit.int .i64 x.f1).wf = true ∧ good28 x.f2
theorem opn30 : Opn Try.prog 30 k30 good30 := opn_struct Try.underlying30 (by kernel_rfl) (fs_cons opn2 rfl rfl (fs_cons opn2 rfl rfl (fs_one opn28 rfl rfl))) (fun x : S30 => (x.f0, x.f1, x.f2)) (fun a => ⟨a.1, a.2.1, a.2.2⟩) (fun _ => rfl)
def good37 (xs : List (S30)) : Prop := xs.length ≤ 9223372036854775807 ∧ ∀ x ∈ xs, good30 x
theorem opn37 : Opn Try.prog 37 (Kd.slice 30 k30) good37 := opn_slice Try.underlying37 (by kernel_rfl) opn30
end Go.Proofs.Ytkibnkfmcmbhnaa.PFnExactLogFault
