/-
  Facts of the whole program that every row asks, first part; no conditions.
-/
import Derived.Test.YtkecenijjdpfdaaRows
import Derived.WalkKit
import Derived.ProofKit
import Derived.OpenShut
import Derived.ShutString
import Derived.ChangeOld
import Derived.Below
import Derived.Carry
import Derived.SizedLaws
import Derived.JoinedOf
namespace Go.Proofs.Ytkecenijjdpfdaa.AL
open Go Go.ChangeShapes Go.WideShapes Go.ChangeAt Go.RowKit
theorem k_own : ownKnob Try.prog.godebug = none := by kernel_rfl
theorem k_laid : laidOutB Try.prog = true := by kernel_rfl
theorem k_maps : mapsRowed Try.prog = true := by kernel_rfl
theorem k_stops : Try.prog.stopsHeard = true := by kernel_rfl
theorem k_plain : (Rows.fnExactMachineFaultRow.plainKeys == Try.prog.plainKeys) = true := by kernel_rfl
end Go.Proofs.Ytkecenijjdpfdaa.AL
