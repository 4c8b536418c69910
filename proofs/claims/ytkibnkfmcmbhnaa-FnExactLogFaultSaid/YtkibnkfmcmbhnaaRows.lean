/-
  No cell of these rows narrows 'for every input' (looked for: loops, veiled, ifaces, maps, wideKeys, modest, calm, conditions, laid).
  DERIVED. THE GIVEN ROWS OF THIS SEAT. 6 by the template 'for every input the law returns true; each argument reads behind the call as it read before'; 0 by the template 'total and deterministic' (their statements: YtkibnkfmcmbhnaaTotals.lean).
  GIVEN WITH THE SEED: the statements are not yours to turn. If you find one false, say at which input.
  Laid BY PROGRAM, IN A SANDBOX (cutbox-rows.mjs): the forced cells as the released guide's own fill.sh prints them over the translation 11cf3615f307bf6b… (all of the seat's roots in one cut). By AI agents, Wed Nov 11 2026. No macro, syntax, notation, axiom, sorry.
-/
import Derived.Test.YtkibnkfmcmbhnaaChecked
import GoSem.Claim
import GoSem.ClaimJoined
import GoSem.ClaimMapViews
import Derived.JoinedTies
import Derived.KernelRfl
namespace Go.Proofs.Ytkibnkfmcmbhnaa
/- THE CELL 'sum', in the pinned program and in every row, IS THE sha256 OF THE DUMP (.gsa) THAT YtkibnkfmcmbhnaaProg.lean LOADS. Nothing in Lean hashes anything: it is a label: what it is worth is what the hold of that sum in a sandbox is worth. -/
noncomputable def Try.pinned : Pinned := { name := "ytkibnkfmcmbhnaa", sum := "11cf3615f307bf6b12d8b8b73d3f2bff4f0863b219364d7bb90b30a1f5b27745", checked := Try.checked }
namespace Rows
def none {H : Type} : Left H := { results := [], args := [] }

/-- 'laws.FnExactPrimaryOf': WHATEVER THE INPUT: true; the input reads as it did. -/
def fnExactPrimaryOfSpec : ChangeSpec := { name := "fnExactPrimaryOf", fn := fun _ => fun
  | [d1, d2] => { results := [.lit (.bool true)], args := [d1, d2] }
  | _ => none }
def fnExactPrimaryOfRow : OpenClaim := { program := "ytkibnkfmcmbhnaa", sum := "11cf3615f307bf6b12d8b8b73d3f2bff4f0863b219364d7bb90b30a1f5b27745", func := "loop.example/g00277/laws.FnExactPrimaryOf", spec := "fnExactPrimaryOf", apart := false }
def FnExactPrimaryOfSaid : Prop := fnExactPrimaryOfRow.holds Try.pinned (OpenSpec.ofChange fnExactPrimaryOfSpec)

/-- ITS FALSE NEIGHBOUR: 'it returns false'. Refute it at one input. -/
def fnExactPrimaryOfWrong : ChangeSpec := { name := "fnExactPrimaryOf", fn := fun _ => fun
  | [d1, d2] => { results := [.lit (.bool false)], args := [d1, d2] }
  | _ => none }
def FnExactPrimaryOfWrongFalsely : Prop := fnExactPrimaryOfRow.holds Try.pinned (OpenSpec.ofChange fnExactPrimaryOfWrong)

/-- 'laws.FnExactEntryFault': WHATEVER THE INPUT: true; the input reads as it did. -/
def fnExactEntryFaultSpec : ChangeSpec := { name := "fnExactEntryFault", fn := fun _ => fun
  | [d] => { results := [.lit (.bool true)], args := [d] }
  | _ => none }
def fnExactEntryFaultRow : OpenClaim := { program := "ytkibnkfmcmbhnaa", sum := "11cf3615f307bf6b12d8b8b73d3f2bff4f0863b219364d7bb90b30a1f5b27745", func := "loop.example/g00277/laws.FnExactEntryFault", spec := "fnExactEntryFault", apart := false }
def FnExactEntryFaultSaid : Prop := fnExactEntryFaultRow.holds Try.pinned (OpenSpec.ofChange fnExactEntryFaultSpec)

/-- ITS FALSE NEIGHBOUR: 'it returns false'. Refute it at one input. -/
def fnExactEntryFaultWrong : ChangeSpec := { name := "fnExactEntryFault", fn := fun _ => fun
  | [d] => { results := [.lit (.bool false)], args := [d] }
  | _ => none }
def FnExactEntryFaultWrongFalsely : Prop := fnExactEntryFaultRow.holds Try.pinned (OpenSpec.ofChange fnExactEntryFaultWrong)

/-- 'laws.FnExactCommonOf': WHATEVER THE INPUT: true; the input reads as it did. -/
def fnExactCommonOfSpec : ChangeSpec := { name := "fnExactCommonOf", fn := fun _ => fun
  | [d1, d2] => { results := [.lit (.bool true)], args := [d1, d2] }
  | _ => none }
def fnExactCommonOfRow : OpenClaim := { program := "ytkibnkfmcmbhnaa", sum := "11cf3615f307bf6b12d8b8b73d3f2bff4f0863b219364d7bb90b30a1f5b27745", func := "loop.example/g00277/laws.FnExactCommonOf", spec := "fnExactCommonOf", apart := false }
def FnExactCommonOfSaid : Prop := fnExactCommonOfRow.holds Try.pinned (OpenSpec.ofChange fnExactCommonOfSpec)

/-- ITS FALSE NEIGHBOUR: 'it returns false'. Refute it at one input. -/
def fnExactCommonOfWrong : ChangeSpec := { name := "fnExactCommonOf", fn := fun _ => fun
  | [d1, d2] => { results := [.lit (.bool false)], args := [d1, d2] }
  | _ => none }
def FnExactCommonOfWrongFalsely : Prop := fnExactCommonOfRow.holds Try.pinned (OpenSpec.ofChange fnExactCommonOfWrong)

/-- 'laws.FnExactIsBeginning': WHATEVER THE INPUT: true; the input reads as it did. -/
def fnExactIsBeginningSpec : ChangeSpec := { name := "fnExactIsBeginning", fn := fun _ => fun
  | [d1, d2] => { results := [.lit (.bool true)], args := [d1, d2] }
  | _ => none }
def fnExactIsBeginningRow : OpenClaim := { program := "ytkibnkfmcmbhnaa", sum := "11cf3615f307bf6b12d8b8b73d3f2bff4f0863b219364d7bb90b30a1f5b27745", func := "loop.example/g00277/laws.FnExactIsBeginning", spec := "fnExactIsBeginning", apart := false }
def FnExactIsBeginningSaid : Prop := fnExactIsBeginningRow.holds Try.pinned (OpenSpec.ofChange fnExactIsBeginningSpec)

/-- ITS FALSE NEIGHBOUR: 'it returns false'. Refute it at one input. -/
def fnExactIsBeginningWrong : ChangeSpec := { name := "fnExactIsBeginning", fn := fun _ => fun
  | [d1, d2] => { results := [.lit (.bool false)], args := [d1, d2] }
  | _ => none }
def FnExactIsBeginningWrongFalsely : Prop := fnExactIsBeginningRow.holds Try.pinned (OpenSpec.ofChange fnExactIsBeginningWrong)

/-- 'laws.FnExactPackEntry': WHATEVER THE INPUT: true; the input reads as it did. -/
def fnExactPackEntrySpec : ChangeSpec := { name := "fnExactPackEntry", fn := fun _ => fun
  | [d] => { results := [.lit (.bool true)], args := [d] }
  | _ => none }
def fnExactPackEntryRow : OpenClaim := { program := "ytkibnkfmcmbhnaa", sum := "11cf3615f307bf6b12d8b8b73d3f2bff4f0863b219364d7bb90b30a1f5b27745", func := "loop.example/g00277/laws.FnExactPackEntry", spec := "fnExactPackEntry", apart := false }
def FnExactPackEntrySaid : Prop := fnExactPackEntryRow.holds Try.pinned (OpenSpec.ofChange fnExactPackEntrySpec)

/-- ITS FALSE NEIGHBOUR: 'it returns false'. Refute it at one input. -/
def fnExactPackEntryWrong : ChangeSpec := { name := "fnExactPackEntry", fn := fun _ => fun
  | [d] => { results := [.lit (.bool false)], args := [d] }
  | _ => none }
def FnExactPackEntryWrongFalsely : Prop := fnExactPackEntryRow.holds Try.pinned (OpenSpec.ofChange fnExactPackEntryWrong)

/-- 'laws.FnExactLogFault': WHATEVER THE INPUT: true; the input reads as it did. -/
def fnExactLogFaultSpec : ChangeSpec := { name := "fnExactLogFault", fn := fun _ => fun
  | [d] => { results := [.lit (.bool true)], args := [d] }
  | _ => none }
def fnExactLogFaultRow : OpenClaim := { program := "ytkibnkfmcmbhnaa", sum := "11cf3615f307bf6b12d8b8b73d3f2bff4f0863b219364d7bb90b30a1f5b27745", func := "loop.example/g00277/laws.FnExactLogFault", spec := "fnExactLogFault", apart := false }
def FnExactLogFaultSaid : Prop := fnExactLogFaultRow.holds Try.pinned (OpenSpec.ofChange fnExactLogFaultSpec)

/-- ITS FALSE NEIGHBOUR: 'it returns false'. Refute it at one input. -/
def fnExactLogFaultWrong : ChangeSpec := { name := "fnExactLogFault", fn := fun _ => fun
  | [d] => { results := [.lit (.bool false)], args := [d] }
  | _ => none }
def FnExactLogFaultWrongFalsely : Prop := fnExactLogFaultRow.holds Try.pinned (OpenSpec.ofChange fnExactLogFaultWrong)

/- THE SECOND FORM. 'bulk': how many values and letters a reading holds, each counted each time it is reached (what is shared counts as often as it is met; a slice's spare places count too). A statement '..UptoSaid' is the law's where the arguments, and the package variables that the reading takes, are together of bulk at most 1048576: NARROWER than '..Said'. Prove '..Said' where nothing that the law and all that it calls make is longer than what came in: it says more and counts as full. Else prove '..UptoSaid'. A law counts once. -/
mutual
def uptoBulk {H : Type} : DataW H → Nat
  | .lit (.string bytes) => bytes.length + 1
  | .lit _ => 1
  | .nil => 1
  | .ptr d => uptoBulk d + 1
  | .slice elems spare => uptoBulkAll elems + uptoBulkAll spare + 1
  | .agg parts => uptoBulkAll parts + 1
  | .iface _ d => uptoBulk d + 1
  | .map entries => uptoBulkEntries entries + 1
  | .held _ => 1
def uptoBulkAll {H : Type} : List (DataW H) → Nat
  | [] => 0
  | d :: r => uptoBulk d + uptoBulkAll r
def uptoBulkEntries {H : Type} : List (Lit × DataW H) → Nat
  | [] => 0
  | x :: r => uptoBulkEntry x + uptoBulkEntries r
def uptoBulkEntry {H : Type} : Lit × DataW H → Nat
  | (.string bytes, d) => bytes.length + uptoBulk d + 1
  | (_, d) => uptoBulk d + 1
 end
def uptoSmall : (H : Type) → List (DataW H) → Bool := fun _ ds => decide (uptoBulkAll ds ≤ 1048576)
def OpenSpec.upto (s : _root_.Go.ChangeSpec) : _root_.Go.OpenSpec := { _root_.Go.OpenSpec.ofChange s with cond := some uptoSmall }

/-- 'laws.FnExactPrimaryOf', WHERE WHAT IT READS IS OF BULK AT MOST 1048576: true; the input reads as it did. -/
def fnExactPrimaryOfUptoRow : OpenClaim := { program := "ytkibnkfmcmbhnaa", sum := "11cf3615f307bf6b12d8b8b73d3f2bff4f0863b219364d7bb90b30a1f5b27745", func := "loop.example/g00277/laws.FnExactPrimaryOf", spec := "fnExactPrimaryOf", apart := false, narrowed := true }
def FnExactPrimaryOfUptoSaid : Prop := fnExactPrimaryOfUptoRow.holds Try.pinned (OpenSpec.upto fnExactPrimaryOfSpec)

/-- 'laws.FnExactEntryFault', WHERE WHAT IT READS IS OF BULK AT MOST 1048576: true; the input reads as it did. -/
def fnExactEntryFaultUptoRow : OpenClaim := { program := "ytkibnkfmcmbhnaa", sum := "11cf3615f307bf6b12d8b8b73d3f2bff4f0863b219364d7bb90b30a1f5b27745", func := "loop.example/g00277/laws.FnExactEntryFault", spec := "fnExactEntryFault", apart := false, narrowed := true }
def FnExactEntryFaultUptoSaid : Prop := fnExactEntryFaultUptoRow.holds Try.pinned (OpenSpec.upto fnExactEntryFaultSpec)

/-- 'laws.FnExactCommonOf', WHERE WHAT IT READS IS OF BULK AT MOST 1048576: true; the input reads as it did. -/
def fnExactCommonOfUptoRow : OpenClaim := { program := "ytkibnkfmcmbhnaa", sum := "11cf3615f307bf6b12d8b8b73d3f2bff4f0863b219364d7bb90b30a1f5b27745", func := "loop.example/g00277/laws.FnExactCommonOf", spec := "fnExactCommonOf", apart := false, narrowed := true }
def FnExactCommonOfUptoSaid : Prop := fnExactCommonOfUptoRow.holds Try.pinned (OpenSpec.upto fnExactCommonOfSpec)

/-- 'laws.FnExactIsBeginning', WHERE WHAT IT READS IS OF BULK AT MOST 1048576: true; the input reads as it did. -/
def fnExactIsBeginningUptoRow : OpenClaim := { program := "ytkibnkfmcmbhnaa", sum := "11cf3615f307bf6b12d8b8b73d3f2bff4f0863b219364d7bb90b30a1f5b27745", func := "loop.example/g00277/laws.FnExactIsBeginning", spec := "fnExactIsBeginning", apart := false, narrowed := true }
def FnExactIsBeginningUptoSaid : Prop := fnExactIsBeginningUptoRow.holds Try.pinned (OpenSpec.upto fnExactIsBeginningSpec)

/-- 'laws.FnExactPackEntry', WHERE WHAT IT READS IS OF BULK AT MOST 1048576: true; the input reads as it did. -/
def fnExactPackEntryUptoRow : OpenClaim := { program := "ytkibnkfmcmbhnaa", sum := "11cf3615f307bf6b12d8b8b73d3f2bff4f0863b219364d7bb90b30a1f5b27745", func := "loop.example/g00277/laws.FnExactPackEntry", spec := "fnExactPackEntry", apart := false, narrowed := true }
def FnExactPackEntryUptoSaid : Prop := fnExactPackEntryUptoRow.holds Try.pinned (OpenSpec.upto fnExactPackEntrySpec)

/-- 'laws.FnExactLogFault', WHERE WHAT IT READS IS OF BULK AT MOST 1048576: true; the input reads as it did. -/
def fnExactLogFaultUptoRow : OpenClaim := { program := "ytkibnkfmcmbhnaa", sum := "11cf3615f307bf6b12d8b8b73d3f2bff4f0863b219364d7bb90b30a1f5b27745", func := "loop.example/g00277/laws.FnExactLogFault", spec := "fnExactLogFault", apart := false, narrowed := true }
def FnExactLogFaultUptoSaid : Prop := fnExactLogFaultUptoRow.holds Try.pinned (OpenSpec.upto fnExactLogFaultSpec)

end Rows
end Go.Proofs.Ytkibnkfmcmbhnaa
