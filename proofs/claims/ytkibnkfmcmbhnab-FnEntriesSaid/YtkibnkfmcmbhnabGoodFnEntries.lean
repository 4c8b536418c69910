/-
  The openers of the argument types of FnEntries, and what is known of what was opened; no conditions.
-/
import Derived.Test.YtkibnkfmcmbhnabPFnEntriesx0
import Derived.Test.YtkibnkfmcmbhnabOpnFnEntries
namespace Go.Proofs.Ytkibnkfmcmbhnab.PFnEntries
open Go.RowKit Go.Proofs.Ytkibnkfmcmbhnab.Opn Go.Proofs.YtkibnkfmcmbhnabW.PrintWords
theorem opn5 : Opn Try.prog 5 (Kd.int .u8) (fun n => (Lit.int .u8 n).wf = true) := opn_int Try.underlying5 (by kernel_rfl)
def good44 (xs : List (Int)) : Prop := xs.length ≤ 9223372036854775807 ∧ ∀ x ∈ xs, (fun n => (Lit.int .u8 n).wf = true) x
theorem opn44 : Opn Try.prog 44 (Kd.slice 5 (Kd.int .u8)) good44 := opn_slice Try.underlying44 (by kernel_rfl) opn5
end Go.Proofs.Ytkibnkfmcmbhnab.PFnEntries
