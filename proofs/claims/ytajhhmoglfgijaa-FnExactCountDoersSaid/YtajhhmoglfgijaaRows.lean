/-
  No cell of these rows narrows 'for every input' (looked for: loops, veiled, ifaces, maps, wideKeys, modest, calm, conditions, laid).
  DERIVED. THE GIVEN ROWS OF THIS SEAT. 6 by the template 'for every input the law returns true; each argument reads behind the call as it read before'; 0 by the template 'total and deterministic' (their statements: YtajhhmoglfgijaaTotals.lean).
  GIVEN WITH THE SEED: the statements are not yours to turn. If you find one false, say at which input.
  Laid BY PROGRAM, IN A SANDBOX (cutbox-rows.mjs): the forced cells as the released guide's own fill.sh prints them over the translation c24ac19bf9ede98f… (all of the seat's roots in one cut). By AI agents, Wed Nov 11 2026. No macro, syntax, notation, axiom, sorry.
-/
import Derived.Test.YtajhhmoglfgijaaChecked
import GoSem.Claim
import GoSem.ClaimJoined
import GoSem.ClaimMapViews
import Derived.JoinedTies
import Derived.KernelRfl
namespace Go.Proofs.Ytajhhmoglfgijaa
/- THE CELL 'sum', in the pinned program and in every row, IS THE sha256 OF THE DUMP (.gsa) THAT YtajhhmoglfgijaaProg.lean LOADS. Nothing in Lean hashes anything: it is a label: what it is worth is what the hold of that sum in a sandbox is worth. -/
noncomputable def Try.pinned : Pinned := { name := "ytajhhmoglfgijaa", sum := "c24ac19bf9ede98ff3b43e7c23aa51561be4a807f3d2fd0ee7c1cab45df57b21", checked := Try.checked }
namespace Rows
def none {H : Type} : Left H := { results := [], args := [] }

/-- 'laws.FnExactReplicaFault': WHATEVER THE INPUT: true; the input reads as it did. -/
def fnExactReplicaFaultSpec : ChangeSpec := { name := "fnExactReplicaFault", fn := fun _ => fun
  | [d] => { results := [.lit (.bool true)], args := [d] }
  | _ => none }
def fnExactReplicaFaultRow : OpenClaim := { program := "ytajhhmoglfgijaa", sum := "c24ac19bf9ede98ff3b43e7c23aa51561be4a807f3d2fd0ee7c1cab45df57b21", func := "loop.example/g00277/laws.FnExactReplicaFault", spec := "fnExactReplicaFault", unfollowed := true, recurses := true, apart := false }
def FnExactReplicaFaultSaid : Prop := fnExactReplicaFaultRow.holds Try.pinned (OpenSpec.ofChange fnExactReplicaFaultSpec)

/-- ITS FALSE NEIGHBOUR: 'it returns false'. Refute it at one input. -/
def fnExactReplicaFaultWrong : ChangeSpec := { name := "fnExactReplicaFault", fn := fun _ => fun
  | [d] => { results := [.lit (.bool false)], args := [d] }
  | _ => none }
def FnExactReplicaFaultWrongFalsely : Prop := fnExactReplicaFaultRow.holds Try.pinned (OpenSpec.ofChange fnExactReplicaFaultWrong)

/-- 'laws.FnExactNewReplica': WHATEVER THE INPUT: true; the input reads as it did. -/
def fnExactNewReplicaSpec : ChangeSpec := { name := "fnExactNewReplica", fn := fun _ => fun
  | [d1, d2] => { results := [.lit (.bool true)], args := [d1, d2] }
  | _ => none }
def fnExactNewReplicaRow : OpenClaim := { program := "ytajhhmoglfgijaa", sum := "c24ac19bf9ede98ff3b43e7c23aa51561be4a807f3d2fd0ee7c1cab45df57b21", func := "loop.example/g00277/laws.FnExactNewReplica", spec := "fnExactNewReplica", apart := false }
def FnExactNewReplicaSaid : Prop := fnExactNewReplicaRow.holds Try.pinned (OpenSpec.ofChange fnExactNewReplicaSpec)

/-- ITS FALSE NEIGHBOUR: 'it returns false'. Refute it at one input. -/
def fnExactNewReplicaWrong : ChangeSpec := { name := "fnExactNewReplica", fn := fun _ => fun
  | [d1, d2] => { results := [.lit (.bool false)], args := [d1, d2] }
  | _ => none }
def FnExactNewReplicaWrongFalsely : Prop := fnExactNewReplicaRow.holds Try.pinned (OpenSpec.ofChange fnExactNewReplicaWrong)

/-- 'laws.FnExactCountAsks': WHATEVER THE INPUT: true; the input reads as it did. -/
def fnExactCountAsksSpec : ChangeSpec := { name := "fnExactCountAsks", fn := fun _ => fun
  | [d] => { results := [.lit (.bool true)], args := [d] }
  | _ => none }
def fnExactCountAsksRow : OpenClaim := { program := "ytajhhmoglfgijaa", sum := "c24ac19bf9ede98ff3b43e7c23aa51561be4a807f3d2fd0ee7c1cab45df57b21", func := "loop.example/g00277/laws.FnExactCountAsks", spec := "fnExactCountAsks", unfollowed := true, recurses := true, apart := false }
def FnExactCountAsksSaid : Prop := fnExactCountAsksRow.holds Try.pinned (OpenSpec.ofChange fnExactCountAsksSpec)

/-- ITS FALSE NEIGHBOUR: 'it returns false'. Refute it at one input. -/
def fnExactCountAsksWrong : ChangeSpec := { name := "fnExactCountAsks", fn := fun _ => fun
  | [d] => { results := [.lit (.bool false)], args := [d] }
  | _ => none }
def FnExactCountAsksWrongFalsely : Prop := fnExactCountAsksRow.holds Try.pinned (OpenSpec.ofChange fnExactCountAsksWrong)

/-- 'laws.FnExactCountDoers': WHATEVER THE INPUT: true; the input reads as it did. -/
def fnExactCountDoersSpec : ChangeSpec := { name := "fnExactCountDoers", fn := fun _ => fun
  | [d] => { results := [.lit (.bool true)], args := [d] }
  | _ => none }
def fnExactCountDoersRow : OpenClaim := { program := "ytajhhmoglfgijaa", sum := "c24ac19bf9ede98ff3b43e7c23aa51561be4a807f3d2fd0ee7c1cab45df57b21", func := "loop.example/g00277/laws.FnExactCountDoers", spec := "fnExactCountDoers", unfollowed := true, recurses := true, apart := false }
def FnExactCountDoersSaid : Prop := fnExactCountDoersRow.holds Try.pinned (OpenSpec.ofChange fnExactCountDoersSpec)

/-- ITS FALSE NEIGHBOUR: 'it returns false'. Refute it at one input. -/
def fnExactCountDoersWrong : ChangeSpec := { name := "fnExactCountDoers", fn := fun _ => fun
  | [d] => { results := [.lit (.bool false)], args := [d] }
  | _ => none }
def FnExactCountDoersWrongFalsely : Prop := fnExactCountDoersRow.holds Try.pinned (OpenSpec.ofChange fnExactCountDoersWrong)

/-- 'laws.FnExactTellOf': WHATEVER THE INPUT: true; the input reads as it did. -/
def fnExactTellOfSpec : ChangeSpec := { name := "fnExactTellOf", fn := fun _ => fun
  | [d] => { results := [.lit (.bool true)], args := [d] }
  | _ => none }
def fnExactTellOfRow : OpenClaim := { program := "ytajhhmoglfgijaa", sum := "c24ac19bf9ede98ff3b43e7c23aa51561be4a807f3d2fd0ee7c1cab45df57b21", func := "loop.example/g00277/laws.FnExactTellOf", spec := "fnExactTellOf", unfollowed := true, recurses := true, apart := false }
def FnExactTellOfSaid : Prop := fnExactTellOfRow.holds Try.pinned (OpenSpec.ofChange fnExactTellOfSpec)

/-- ITS FALSE NEIGHBOUR: 'it returns false'. Refute it at one input. -/
def fnExactTellOfWrong : ChangeSpec := { name := "fnExactTellOf", fn := fun _ => fun
  | [d] => { results := [.lit (.bool false)], args := [d] }
  | _ => none }
def FnExactTellOfWrongFalsely : Prop := fnExactTellOfRow.holds Try.pinned (OpenSpec.ofChange fnExactTellOfWrong)

/-- 'laws.FnExactAgreedBy': WHATEVER THE INPUT: true; the input reads as it did. -/
def fnExactAgreedBySpec : ChangeSpec := { name := "fnExactAgreedBy", fn := fun _ => fun
  | [d] => { results := [.lit (.bool true)], args := [d] }
  | _ => none }
def fnExactAgreedByRow : OpenClaim := { program := "ytajhhmoglfgijaa", sum := "c24ac19bf9ede98ff3b43e7c23aa51561be4a807f3d2fd0ee7c1cab45df57b21", func := "loop.example/g00277/laws.FnExactAgreedBy", spec := "fnExactAgreedBy", unfollowed := true, recurses := true, apart := false }
def FnExactAgreedBySaid : Prop := fnExactAgreedByRow.holds Try.pinned (OpenSpec.ofChange fnExactAgreedBySpec)

/-- ITS FALSE NEIGHBOUR: 'it returns false'. Refute it at one input. -/
def fnExactAgreedByWrong : ChangeSpec := { name := "fnExactAgreedBy", fn := fun _ => fun
  | [d] => { results := [.lit (.bool false)], args := [d] }
  | _ => none }
def FnExactAgreedByWrongFalsely : Prop := fnExactAgreedByRow.holds Try.pinned (OpenSpec.ofChange fnExactAgreedByWrong)

/- THE SECOND FORM. 'bulk': how many values and letters a reading holds, each counted each time it is reached (what is shared counts as often as it is met; a slice's spare places count too). A statement '..UptoSaid' is the law's where the arguments, and the package variables that the reading takes, are together of bulk at most 1048576: NARROWER than '..Said'. Prove '..Said' where nothing that the law and all that it calls make is longer than what came in: it says more and counts as full. Else prove '..UptoSaid'. A law counts once. -/
mutual
def uptoBulk {H : Type} : DataW H → Nat
  | .lit (.string bytes) => bytes.length + 1
  | .lit _ => 1
  | .nil => 1
  | .ptr d => uptoBulk d + 1
  | .slice elems spare => uptoBulkAll elems + uptoBulkAll spare + 1
  | .agg parts => uptoBulkAll parts + 1
  | .iface _ d => uptoBulk d + 1
  | .map entries => uptoBulkEntries entries + 1
  | .held _ => 1
def uptoBulkAll {H : Type} : List (DataW H) → Nat
  | [] => 0
  | d :: r => uptoBulk d + uptoBulkAll r
def uptoBulkEntries {H : Type} : List (Lit × DataW H) → Nat
  | [] => 0
  | x :: r => uptoBulkEntry x + uptoBulkEntries r
def uptoBulkEntry {H : Type} : Lit × DataW H → Nat
  | (.string bytes, d) => bytes.length + uptoBulk d + 1
  | (_, d) => uptoBulk d + 1
 end
def uptoSmall : (H : Type) → List (DataW H) → Bool := fun _ ds => decide (uptoBulkAll ds ≤ 1048576)
def OpenSpec.upto (s : _root_.Go.ChangeSpec) : _root_.Go.OpenSpec := { _root_.Go.OpenSpec.ofChange s with cond := some uptoSmall }

/-- 'laws.FnExactReplicaFault', WHERE WHAT IT READS IS OF BULK AT MOST 1048576: true; the input reads as it did. -/
def fnExactReplicaFaultUptoRow : OpenClaim := { program := "ytajhhmoglfgijaa", sum := "c24ac19bf9ede98ff3b43e7c23aa51561be4a807f3d2fd0ee7c1cab45df57b21", func := "loop.example/g00277/laws.FnExactReplicaFault", spec := "fnExactReplicaFault", unfollowed := true, recurses := true, apart := false, narrowed := true }
def FnExactReplicaFaultUptoSaid : Prop := fnExactReplicaFaultUptoRow.holds Try.pinned (OpenSpec.upto fnExactReplicaFaultSpec)

/-- 'laws.FnExactNewReplica', WHERE WHAT IT READS IS OF BULK AT MOST 1048576: true; the input reads as it did. -/
def fnExactNewReplicaUptoRow : OpenClaim := { program := "ytajhhmoglfgijaa", sum := "c24ac19bf9ede98ff3b43e7c23aa51561be4a807f3d2fd0ee7c1cab45df57b21", func := "loop.example/g00277/laws.FnExactNewReplica", spec := "fnExactNewReplica", apart := false, narrowed := true }
def FnExactNewReplicaUptoSaid : Prop := fnExactNewReplicaUptoRow.holds Try.pinned (OpenSpec.upto fnExactNewReplicaSpec)

/-- 'laws.FnExactCountAsks', WHERE WHAT IT READS IS OF BULK AT MOST 1048576: true; the input reads as it did. -/
def fnExactCountAsksUptoRow : OpenClaim := { program := "ytajhhmoglfgijaa", sum := "c24ac19bf9ede98ff3b43e7c23aa51561be4a807f3d2fd0ee7c1cab45df57b21", func := "loop.example/g00277/laws.FnExactCountAsks", spec := "fnExactCountAsks", unfollowed := true, recurses := true, apart := false, narrowed := true }
def FnExactCountAsksUptoSaid : Prop := fnExactCountAsksUptoRow.holds Try.pinned (OpenSpec.upto fnExactCountAsksSpec)

/-- 'laws.FnExactCountDoers', WHERE WHAT IT READS IS OF BULK AT MOST 1048576: true; the input reads as it did. -/
def fnExactCountDoersUptoRow : OpenClaim := { program := "ytajhhmoglfgijaa", sum := "c24ac19bf9ede98ff3b43e7c23aa51561be4a807f3d2fd0ee7c1cab45df57b21", func := "loop.example/g00277/laws.FnExactCountDoers", spec := "fnExactCountDoers", unfollowed := true, recurses := true, apart := false, narrowed := true }
def FnExactCountDoersUptoSaid : Prop := fnExactCountDoersUptoRow.holds Try.pinned (OpenSpec.upto fnExactCountDoersSpec)

/-- 'laws.FnExactTellOf', WHERE WHAT IT READS IS OF BULK AT MOST 1048576: true; the input reads as it did. -/
def fnExactTellOfUptoRow : OpenClaim := { program := "ytajhhmoglfgijaa", sum := "c24ac19bf9ede98ff3b43e7c23aa51561be4a807f3d2fd0ee7c1cab45df57b21", func := "loop.example/g00277/laws.FnExactTellOf", spec := "fnExactTellOf", unfollowed := true, recurses := true, apart := false, narrowed := true }
def FnExactTellOfUptoSaid : Prop := fnExactTellOfUptoRow.holds Try.pinned (OpenSpec.upto fnExactTellOfSpec)

/-- 'laws.FnExactAgreedBy', WHERE WHAT IT READS IS OF BULK AT MOST 1048576: true; the input reads as it did. -/
def fnExactAgreedByUptoRow : OpenClaim := { program := "ytajhhmoglfgijaa", sum := "c24ac19bf9ede98ff3b43e7c23aa51561be4a807f3d2fd0ee7c1cab45df57b21", func := "loop.example/g00277/laws.FnExactAgreedBy", spec := "fnExactAgreedBy", unfollowed := true, recurses := true, apart := false, narrowed := true }
def FnExactAgreedByUptoSaid : Prop := fnExactAgreedByUptoRow.holds Try.pinned (OpenSpec.upto fnExactAgreedBySpec)

end Rows
end Go.Proofs.Ytajhhmoglfgijaa
