/-
  Facts of the whole program that every row asks, second part; no conditions.
-/
import Derived.Test.YtkecenijjdpfdaaRows
import Derived.WalkKit
import Derived.ProofKit
import Derived.OpenShut
import Derived.ShutString
import Derived.ChangeOld
import Derived.Below
import Derived.Carry
import Derived.SizedLaws
import Derived.JoinedOf
namespace Go.Proofs.Ytkecenijjdpfdaa.AL
open Go Go.ChangeShapes Go.WideShapes Go.ChangeAt Go.RowKit
theorem k_enter : Try.prog.mayEnter = true := by kernel_rfl
theorem k_lifts : (Rows.fnExactMachineFaultRow.lifted == Try.prog.liftsFinal) = true := by kernel_rfl
end Go.Proofs.Ytkecenijjdpfdaa.AL
