/-
  The openers of the argument types of FnExactUnpackEntry, and what is known of what was opened; no conditions.
-/
import Derived.Test.YtkibnkfmcmbhnabPFnExactUnpackEntryx0
import Derived.Test.YtkibnkfmcmbhnabOpn
namespace Go.Proofs.Ytkibnkfmcmbhnab.PFnExactUnpackEntry
open Go.RowKit Go.Proofs.Ytkibnkfmcmbhnab.Opn Go.Proofs.YtkibnkfmcmbhnabW.PrintWords
theorem opn2 : Opn Try.prog 2 (Kd.int .i64) (fun n => (Lit.int .i64 n).wf = true) := opn_int Try.underlying2 (by kernel_rfl)
def good22 (xs : List (Int)) : Prop := xs.length ≤ 9223372036854775807 ∧ ∀ x ∈ xs, (fun n => (Lit.int .i64 n).wf = true) x
theorem opn22 : Opn Try.prog 22 (Kd.slice 2 (Kd.int .i64)) good22 := opn_slice Try.underlying22 (by kernel_rfl) opn2
end Go.Proofs.Ytkibnkfmcmbhnab.PFnExactUnpackEntry
