/-
  The openers of the argument types of FnExactBestLog, and what is known of what was opened; no conditions.
-/
import Derived.Test.YtkibnkfmcmbhnabPFnExactBestLogx0
import Derived.Test.YtkibnkfmcmbhnabOpn
namespace Go.Proofs.Ytkibnkfmcmbhnab.PFnExactBestLog
open Go.RowKit Go.Proofs.Ytkibnkfmcmbhnab.Opn Go.Proofs.YtkibnkfmcmbhnabW.PrintWords
theorem opn2 : Opn Try.prog 2 (Kd.int .i64) (fun n => (Lit.int .i64 n).wf = true) := opn_int Try.underlying2 (by kernel_rfl)
def good22 (xs : List (Int)) : Prop := xs.length ≤ 9223372036854775807 ∧ ∀ x ∈ xs, (fun n => (Lit.int .i64 n).wf = true) x
theorem opn22 : Opn Try.prog 22 (Kd.slice 2 (Kd.int .i64)) good22 := opn_slice Try.underlying22 (by kernel_rfl) opn2
def good80 (x : S80) : Prop := (Lit.int .i64 x.f0).wf = true ∧ (Lit.int .i64 x.f1).wf = true ∧ (Lit.int .i64 x.f2).wf = true ∧ (Lit.int .i64 x.f3).wf = true
theorem opn80 : Opn Try.prog 80 k80 good80 := opn_struct Try.underlying80 (by kernel_rfl) (fs_cons opn2 rfl rfl (fs_cons opn2 rfl rfl (fs_cons opn2 rfl rfl (fs_one opn2 rfl rfl)))) (fun x : S80 => (x.f0, x.f1, x.f2, x.f3)) (fun a => ⟨a.1, a.2.1, a.2.2.1, a.2.2.2⟩) (fun _ => rfl)
def good82 (x : S82) : Prop := (Lit.int .i64 x.f0).wf = true ∧ (Lit.int .i64 x.f1).wf = true ∧ good80 x.f2
theorem opn82 : Opn Try.prog 82 k82 good82 := opn_struct Try.underlying82 (by kernel_rfl) (fs_cons opn2 rfl rfl (fs_cons opn2 rfl rfl (fs_one opn80 rfl rfl))) (fun x : S82 => (x.f0, x.f1, x.f2)) (fun a => ⟨a.1, a.2.1, a.2.2⟩) (fun _ => rfl)
def good64 (xs : List (S82)) : Prop := xs.length ≤ 9223372036854775807 ∧ ∀ x ∈ xs, good82 x
theorem opn64 : Opn Try.prog 64 (Kd.slice 82 k82) good64 := opn_slice Try.underlying64 (by kernel_rfl) opn82
def good34 (xs : List (List (S82))) : Prop := xs.length ≤ 9223372036854775807 ∧ ∀ x ∈ xs, good64 x
theorem opn34 : Opn Try.prog 34 (Kd.slice 64 (Kd.slice 82 k82)) good34 := opn_slice Try.underlying34 (by kernel_rfl) opn64
end Go.Proofs.Ytkibnkfmcmbhnab.PFnExactBestLog
