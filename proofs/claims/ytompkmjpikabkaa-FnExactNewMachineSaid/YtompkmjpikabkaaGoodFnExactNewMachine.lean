/-
  The openers of the argument types of FnExactNewMachine, and what is known of what was opened; no conditions.
-/
import Derived.Test.YtompkmjpikabkaaPFnExactNewMachinex0
import Derived.Test.YtompkmjpikabkaaOpnFnExactNewMachine
namespace Go.Proofs.Ytompkmjpikabkaa.PFnExactNewMachine
open Go.RowKit Go.Proofs.Ytompkmjpikabkaa.Opn Go.Proofs.YtompkmjpikabkaaW.PrintWords
theorem opn2 : Opn Try.prog 2 (Kd.int .i64) (fun n => (Lit.int .i64 n).wf = true) := opn_int Try.underlying2 (by kernel_rfl)
end Go.Proofs.Ytompkmjpikabkaa.PFnExactNewMachine
