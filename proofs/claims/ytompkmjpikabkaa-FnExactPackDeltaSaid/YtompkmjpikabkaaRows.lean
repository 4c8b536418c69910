/-
  No cell of these rows narrows 'for every input' (looked for: loops, veiled, ifaces, maps, wideKeys, modest, calm, conditions, laid).
  DERIVED. THE GIVEN ROWS OF THIS SEAT. 6 by the template 'for every input the law returns true; each argument reads behind the call as it read before'; 0 by the template 'total and deterministic' (their statements: YtompkmjpikabkaaTotals.lean).
  GIVEN WITH THE SEED: the statements are not yours to turn. If you find one false, say at which input.
  Laid BY PROGRAM, IN A SANDBOX (cutbox-rows.mjs): the forced cells as the released guide's own fill.sh prints them over the translation 08edc151ba9249f0… (all of the seat's roots in one cut). By AI agents, Wed Nov 11 2026. No macro, syntax, notation, axiom, sorry.
-/
import Derived.Test.YtompkmjpikabkaaChecked
import GoSem.Claim
import GoSem.ClaimJoined
import GoSem.ClaimMapViews
import Derived.JoinedTies
import Derived.KernelRfl
namespace Go.Proofs.Ytompkmjpikabkaa
/- THE CELL 'sum', in the pinned program and in every row, IS THE sha256 OF THE DUMP (.gsa) THAT YtompkmjpikabkaaProg.lean LOADS. Nothing in Lean hashes anything: it is a label: what it is worth is what the hold of that sum in a sandbox is worth. -/
noncomputable def Try.pinned : Pinned := { name := "ytompkmjpikabkaa", sum := "08edc151ba9249f03c159fdad8cb703e74b2657583280fd73c34caa36f83d693", checked := Try.checked }
namespace Rows
def none {H : Type} : Left H := { results := [], args := [] }

/-- 'laws.FnExactPackDelta': WHATEVER THE INPUT: true; the input reads as it did. -/
def fnExactPackDeltaSpec : ChangeSpec := { name := "fnExactPackDelta", fn := fun _ => fun
  | [d] => { results := [.lit (.bool true)], args := [d] }
  | _ => none }
def fnExactPackDeltaRow : OpenClaim := { program := "ytompkmjpikabkaa", sum := "08edc151ba9249f03c159fdad8cb703e74b2657583280fd73c34caa36f83d693", func := "loop.example/g00277/laws.FnExactPackDelta", spec := "fnExactPackDelta", apart := false }
def FnExactPackDeltaSaid : Prop := fnExactPackDeltaRow.holds Try.pinned (OpenSpec.ofChange fnExactPackDeltaSpec)

/-- ITS FALSE NEIGHBOUR: 'it returns false'. Refute it at one input. -/
def fnExactPackDeltaWrong : ChangeSpec := { name := "fnExactPackDelta", fn := fun _ => fun
  | [d] => { results := [.lit (.bool false)], args := [d] }
  | _ => none }
def FnExactPackDeltaWrongFalsely : Prop := fnExactPackDeltaRow.holds Try.pinned (OpenSpec.ofChange fnExactPackDeltaWrong)

/-- 'laws.FnExactSameMachines': WHATEVER THE INPUT: true; the input reads as it did. -/
def fnExactSameMachinesSpec : ChangeSpec := { name := "fnExactSameMachines", fn := fun _ => fun
  | [d1, d2] => { results := [.lit (.bool true)], args := [d1, d2] }
  | _ => none }
def fnExactSameMachinesRow : OpenClaim := { program := "ytompkmjpikabkaa", sum := "08edc151ba9249f03c159fdad8cb703e74b2657583280fd73c34caa36f83d693", func := "loop.example/g00277/laws.FnExactSameMachines", spec := "fnExactSameMachines", unfollowed := true, recurses := true, apart := false }
def FnExactSameMachinesSaid : Prop := fnExactSameMachinesRow.holds Try.pinned (OpenSpec.ofChange fnExactSameMachinesSpec)

/-- ITS FALSE NEIGHBOUR: 'it returns false'. Refute it at one input. -/
def fnExactSameMachinesWrong : ChangeSpec := { name := "fnExactSameMachines", fn := fun _ => fun
  | [d1, d2] => { results := [.lit (.bool false)], args := [d1, d2] }
  | _ => none }
def FnExactSameMachinesWrongFalsely : Prop := fnExactSameMachinesRow.holds Try.pinned (OpenSpec.ofChange fnExactSameMachinesWrong)

/-- 'laws.FnExactNewMachine': WHATEVER THE INPUT: true; the input reads as it did. -/
def fnExactNewMachineSpec : ChangeSpec := { name := "fnExactNewMachine", fn := fun _ => fun
  | [d] => { results := [.lit (.bool true)], args := [d] }
  | _ => none }
def fnExactNewMachineRow : OpenClaim := { program := "ytompkmjpikabkaa", sum := "08edc151ba9249f03c159fdad8cb703e74b2657583280fd73c34caa36f83d693", func := "loop.example/g00277/laws.FnExactNewMachine", spec := "fnExactNewMachine", apart := false }
def FnExactNewMachineSaid : Prop := fnExactNewMachineRow.holds Try.pinned (OpenSpec.ofChange fnExactNewMachineSpec)

/-- ITS FALSE NEIGHBOUR: 'it returns false'. Refute it at one input. -/
def fnExactNewMachineWrong : ChangeSpec := { name := "fnExactNewMachine", fn := fun _ => fun
  | [d] => { results := [.lit (.bool false)], args := [d] }
  | _ => none }
def FnExactNewMachineWrongFalsely : Prop := fnExactNewMachineRow.holds Try.pinned (OpenSpec.ofChange fnExactNewMachineWrong)

/-- 'laws.FnExactSignPlain': WHATEVER THE INPUT: true; the input reads as it did. -/
def fnExactSignPlainSpec : ChangeSpec := { name := "fnExactSignPlain", fn := fun _ => fun
  | [d] => { results := [.lit (.bool true)], args := [d] }
  | _ => none }
def fnExactSignPlainRow : OpenClaim := { program := "ytompkmjpikabkaa", sum := "08edc151ba9249f03c159fdad8cb703e74b2657583280fd73c34caa36f83d693", func := "loop.example/g00277/laws.FnExactSignPlain", spec := "fnExactSignPlain", unfollowed := true, recurses := true, apart := false }
def FnExactSignPlainSaid : Prop := fnExactSignPlainRow.holds Try.pinned (OpenSpec.ofChange fnExactSignPlainSpec)

/-- ITS FALSE NEIGHBOUR: 'it returns false'. Refute it at one input. -/
def fnExactSignPlainWrong : ChangeSpec := { name := "fnExactSignPlain", fn := fun _ => fun
  | [d] => { results := [.lit (.bool false)], args := [d] }
  | _ => none }
def FnExactSignPlainWrongFalsely : Prop := fnExactSignPlainRow.holds Try.pinned (OpenSpec.ofChange fnExactSignPlainWrong)

/-- 'laws.FnExactUnpackDelta': WHATEVER THE INPUT: true; the input reads as it did. -/
def fnExactUnpackDeltaSpec : ChangeSpec := { name := "fnExactUnpackDelta", fn := fun _ => fun
  | [d] => { results := [.lit (.bool true)], args := [d] }
  | _ => none }
def fnExactUnpackDeltaRow : OpenClaim := { program := "ytompkmjpikabkaa", sum := "08edc151ba9249f03c159fdad8cb703e74b2657583280fd73c34caa36f83d693", func := "loop.example/g00277/laws.FnExactUnpackDelta", spec := "fnExactUnpackDelta", unfollowed := true, recurses := true, apart := false }
def FnExactUnpackDeltaSaid : Prop := fnExactUnpackDeltaRow.holds Try.pinned (OpenSpec.ofChange fnExactUnpackDeltaSpec)

/-- ITS FALSE NEIGHBOUR: 'it returns false'. Refute it at one input. -/
def fnExactUnpackDeltaWrong : ChangeSpec := { name := "fnExactUnpackDelta", fn := fun _ => fun
  | [d] => { results := [.lit (.bool false)], args := [d] }
  | _ => none }
def FnExactUnpackDeltaWrongFalsely : Prop := fnExactUnpackDeltaRow.holds Try.pinned (OpenSpec.ofChange fnExactUnpackDeltaWrong)

/-- 'laws.FnExactMachineFault': WHATEVER THE INPUT: true; the input reads as it did. -/
def fnExactMachineFaultSpec : ChangeSpec := { name := "fnExactMachineFault", fn := fun _ => fun
  | [d] => { results := [.lit (.bool true)], args := [d] }
  | _ => none }
def fnExactMachineFaultRow : OpenClaim := { program := "ytompkmjpikabkaa", sum := "08edc151ba9249f03c159fdad8cb703e74b2657583280fd73c34caa36f83d693", func := "loop.example/g00277/laws.FnExactMachineFault", spec := "fnExactMachineFault", unfollowed := true, recurses := true, apart := false }
def FnExactMachineFaultSaid : Prop := fnExactMachineFaultRow.holds Try.pinned (OpenSpec.ofChange fnExactMachineFaultSpec)

/-- ITS FALSE NEIGHBOUR: 'it returns false'. Refute it at one input. -/
def fnExactMachineFaultWrong : ChangeSpec := { name := "fnExactMachineFault", fn := fun _ => fun
  | [d] => { results := [.lit (.bool false)], args := [d] }
  | _ => none }
def FnExactMachineFaultWrongFalsely : Prop := fnExactMachineFaultRow.holds Try.pinned (OpenSpec.ofChange fnExactMachineFaultWrong)

/- THE SECOND FORM. 'bulk': how many values and letters a reading holds, each counted each time it is reached (what is shared counts as often as it is met; a slice's spare places count too). A statement '..UptoSaid' is the law's where the arguments, and the package variables that the reading takes, are together of bulk at most 1048576: NARROWER than '..Said'. Prove '..Said' where nothing that the law and all that it calls make is longer than what came in: it says more and counts as full. Else prove '..UptoSaid'. A law counts once. -/
mutual
def uptoBulk {H : Type} : DataW H → Nat
  | .lit (.string bytes) => bytes.length + 1
  | .lit _ => 1
  | .nil => 1
  | .ptr d => uptoBulk d + 1
  | .slice elems spare => uptoBulkAll elems + uptoBulkAll spare + 1
  | .agg parts => uptoBulkAll parts + 1
  | .iface _ d => uptoBulk d + 1
  | .map entries => uptoBulkEntries entries + 1
  | .held _ => 1
def uptoBulkAll {H : Type} : List (DataW H) → Nat
  | [] => 0
  | d :: r => uptoBulk d + uptoBulkAll r
def uptoBulkEntries {H : Type} : List (Lit × DataW H) → Nat
  | [] => 0
  | x :: r => uptoBulkEntry x + uptoBulkEntries r
def uptoBulkEntry {H : Type} : Lit × DataW H → Nat
  | (.string bytes, d) => bytes.length + uptoBulk d + 1
  | (_, d) => uptoBulk d + 1
 end
def uptoSmall : (H : Type) → List (DataW H) → Bool := fun _ ds => decide (uptoBulkAll ds ≤ 1048576)
def OpenSpec.upto (s : _root_.Go.ChangeSpec) : _root_.Go.OpenSpec := { _root_.Go.OpenSpec.ofChange s with cond := some uptoSmall }

/-- 'laws.FnExactPackDelta', WHERE WHAT IT READS IS OF BULK AT MOST 1048576: true; the input reads as it did. -/
def fnExactPackDeltaUptoRow : OpenClaim := { program := "ytompkmjpikabkaa", sum := "08edc151ba9249f03c159fdad8cb703e74b2657583280fd73c34caa36f83d693", func := "loop.example/g00277/laws.FnExactPackDelta", spec := "fnExactPackDelta", apart := false, narrowed := true }
def FnExactPackDeltaUptoSaid : Prop := fnExactPackDeltaUptoRow.holds Try.pinned (OpenSpec.upto fnExactPackDeltaSpec)

/-- 'laws.FnExactSameMachines', WHERE WHAT IT READS IS OF BULK AT MOST 1048576: true; the input reads as it did. -/
def fnExactSameMachinesUptoRow : OpenClaim := { program := "ytompkmjpikabkaa", sum := "08edc151ba9249f03c159fdad8cb703e74b2657583280fd73c34caa36f83d693", func := "loop.example/g00277/laws.FnExactSameMachines", spec := "fnExactSameMachines", unfollowed := true, recurses := true, apart := false, narrowed := true }
def FnExactSameMachinesUptoSaid : Prop := fnExactSameMachinesUptoRow.holds Try.pinned (OpenSpec.upto fnExactSameMachinesSpec)

/-- 'laws.FnExactNewMachine', WHERE WHAT IT READS IS OF BULK AT MOST 1048576: true; the input reads as it did. -/
def fnExactNewMachineUptoRow : OpenClaim := { program := "ytompkmjpikabkaa", sum := "08edc151ba9249f03c159fdad8cb703e74b2657583280fd73c34caa36f83d693", func := "loop.example/g00277/laws.FnExactNewMachine", spec := "fnExactNewMachine", apart := false, narrowed := true }
def FnExactNewMachineUptoSaid : Prop := fnExactNewMachineUptoRow.holds Try.pinned (OpenSpec.upto fnExactNewMachineSpec)

/-- 'laws.FnExactSignPlain', WHERE WHAT IT READS IS OF BULK AT MOST 1048576: true; the input reads as it did. -/
def fnExactSignPlainUptoRow : OpenClaim := { program := "ytompkmjpikabkaa", sum := "08edc151ba9249f03c159fdad8cb703e74b2657583280fd73c34caa36f83d693", func := "loop.example/g00277/laws.FnExactSignPlain", spec := "fnExactSignPlain", unfollowed := true, recurses := true, apart := false, narrowed := true }
def FnExactSignPlainUptoSaid : Prop := fnExactSignPlainUptoRow.holds Try.pinned (OpenSpec.upto fnExactSignPlainSpec)

/-- 'laws.FnExactUnpackDelta', WHERE WHAT IT READS IS OF BULK AT MOST 1048576: true; the input reads as it did. -/
def fnExactUnpackDeltaUptoRow : OpenClaim := { program := "ytompkmjpikabkaa", sum := "08edc151ba9249f03c159fdad8cb703e74b2657583280fd73c34caa36f83d693", func := "loop.example/g00277/laws.FnExactUnpackDelta", spec := "fnExactUnpackDelta", unfollowed := true, recurses := true, apart := false, narrowed := true }
def FnExactUnpackDeltaUptoSaid : Prop := fnExactUnpackDeltaUptoRow.holds Try.pinned (OpenSpec.upto fnExactUnpackDeltaSpec)

/-- 'laws.FnExactMachineFault', WHERE WHAT IT READS IS OF BULK AT MOST 1048576: true; the input reads as it did. -/
def fnExactMachineFaultUptoRow : OpenClaim := { program := "ytompkmjpikabkaa", sum := "08edc151ba9249f03c159fdad8cb703e74b2657583280fd73c34caa36f83d693", func := "loop.example/g00277/laws.FnExactMachineFault", spec := "fnExactMachineFault", unfollowed := true, recurses := true, apart := false, narrowed := true }
def FnExactMachineFaultUptoSaid : Prop := fnExactMachineFaultUptoRow.holds Try.pinned (OpenSpec.upto fnExactMachineFaultSpec)

end Rows
end Go.Proofs.Ytompkmjpikabkaa
