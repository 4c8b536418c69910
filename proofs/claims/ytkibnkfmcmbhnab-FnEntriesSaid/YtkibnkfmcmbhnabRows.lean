/-
  No cell of these rows narrows 'for every input' (looked for: loops, veiled, ifaces, maps, wideKeys, modest, calm, conditions, laid).
  DERIVED. THE GIVEN ROWS OF THIS SEAT. 4 by the template 'for every input the law returns true; each argument reads behind the call as it read before'; 0 by the template 'total and deterministic' (their statements: YtkibnkfmcmbhnabTotals.lean).
  GIVEN WITH THE SEED: the statements are not yours to turn. If you find one false, say at which input.
  Laid BY PROGRAM, IN A SANDBOX (cutbox-rows.mjs): the forced cells as the released guide's own fill.sh prints them over the translation 927a239dc580482c… (all of the seat's roots in one cut). By AI agents, Wed Nov 11 2026. No macro, syntax, notation, axiom, sorry.
-/
import Derived.Test.YtkibnkfmcmbhnabChecked
import GoSem.Claim
import GoSem.ClaimJoined
import GoSem.ClaimMapViews
import Derived.JoinedTies
import Derived.KernelRfl
namespace Go.Proofs.Ytkibnkfmcmbhnab
/- THE CELL 'sum', in the pinned program and in every row, IS THE sha256 OF THE DUMP (.gsa) THAT YtkibnkfmcmbhnabProg.lean LOADS. Nothing in Lean hashes anything: it is a label: what it is worth is what the hold of that sum in a sandbox is worth. -/
noncomputable def Try.pinned : Pinned := { name := "ytkibnkfmcmbhnab", sum := "927a239dc580482c3849b85aa619953fba13ac0b048b6024b55ba3123c452e60", checked := Try.checked }
namespace Rows
def none {H : Type} : Left H := { results := [], args := [] }

/-- 'laws.FnExactUnpackEntry': WHATEVER THE INPUT: true; the input reads as it did. -/
def fnExactUnpackEntrySpec : ChangeSpec := { name := "fnExactUnpackEntry", fn := fun _ => fun
  | [d] => { results := [.lit (.bool true)], args := [d] }
  | _ => none }
def fnExactUnpackEntryRow : OpenClaim := { program := "ytkibnkfmcmbhnab", sum := "927a239dc580482c3849b85aa619953fba13ac0b048b6024b55ba3123c452e60", func := "loop.example/g00277/laws.FnExactUnpackEntry", spec := "fnExactUnpackEntry", unfollowed := true, recurses := true, apart := false }
def FnExactUnpackEntrySaid : Prop := fnExactUnpackEntryRow.holds Try.pinned (OpenSpec.ofChange fnExactUnpackEntrySpec)

/-- ITS FALSE NEIGHBOUR: 'it returns false'. Refute it at one input. -/
def fnExactUnpackEntryWrong : ChangeSpec := { name := "fnExactUnpackEntry", fn := fun _ => fun
  | [d] => { results := [.lit (.bool false)], args := [d] }
  | _ => none }
def FnExactUnpackEntryWrongFalsely : Prop := fnExactUnpackEntryRow.holds Try.pinned (OpenSpec.ofChange fnExactUnpackEntryWrong)

/-- 'laws.FnExactBestLog': WHATEVER THE INPUT: true; the input reads as it did. -/
def fnExactBestLogSpec : ChangeSpec := { name := "fnExactBestLog", fn := fun _ => fun
  | [d1, d2] => { results := [.lit (.bool true)], args := [d1, d2] }
  | _ => none }
def fnExactBestLogRow : OpenClaim := { program := "ytkibnkfmcmbhnab", sum := "927a239dc580482c3849b85aa619953fba13ac0b048b6024b55ba3123c452e60", func := "loop.example/g00277/laws.FnExactBestLog", spec := "fnExactBestLog", apart := false }
def FnExactBestLogSaid : Prop := fnExactBestLogRow.holds Try.pinned (OpenSpec.ofChange fnExactBestLogSpec)

/-- ITS FALSE NEIGHBOUR: 'it returns false'. Refute it at one input. -/
def fnExactBestLogWrong : ChangeSpec := { name := "fnExactBestLog", fn := fun _ => fun
  | [d1, d2] => { results := [.lit (.bool false)], args := [d1, d2] }
  | _ => none }
def FnExactBestLogWrongFalsely : Prop := fnExactBestLogRow.holds Try.pinned (OpenSpec.ofChange fnExactBestLogWrong)

/-- 'laws.FnEntries': WHATEVER THE INPUT: true; the input reads as it did. -/
def fnEntriesSpec : ChangeSpec := { name := "fnEntries", fn := fun _ => fun
  | [d] => { results := [.lit (.bool true)], args := [d] }
  | _ => none }
def fnEntriesRow : OpenClaim := { program := "ytkibnkfmcmbhnab", sum := "927a239dc580482c3849b85aa619953fba13ac0b048b6024b55ba3123c452e60", func := "loop.example/g00277/laws.FnEntries", spec := "fnEntries", unfollowed := true, recurses := true, apart := false }
def FnEntriesSaid : Prop := fnEntriesRow.holds Try.pinned (OpenSpec.ofChange fnEntriesSpec)

/-- ITS FALSE NEIGHBOUR: 'it returns false'. Refute it at one input. -/
def fnEntriesWrong : ChangeSpec := { name := "fnEntries", fn := fun _ => fun
  | [d] => { results := [.lit (.bool false)], args := [d] }
  | _ => none }
def FnEntriesWrongFalsely : Prop := fnEntriesRow.holds Try.pinned (OpenSpec.ofChange fnEntriesWrong)

/-- 'laws.FnLogs': WHATEVER THE INPUT: true; the input reads as it did. -/
def fnLogsSpec : ChangeSpec := { name := "fnLogs", fn := fun _ => fun
  | [d] => { results := [.lit (.bool true)], args := [d] }
  | _ => none }
def fnLogsRow : OpenClaim := { program := "ytkibnkfmcmbhnab", sum := "927a239dc580482c3849b85aa619953fba13ac0b048b6024b55ba3123c452e60", func := "loop.example/g00277/laws.FnLogs", spec := "fnLogs", apart := false }
def FnLogsSaid : Prop := fnLogsRow.holds Try.pinned (OpenSpec.ofChange fnLogsSpec)

/-- ITS FALSE NEIGHBOUR: 'it returns false'. Refute it at one input. -/
def fnLogsWrong : ChangeSpec := { name := "fnLogs", fn := fun _ => fun
  | [d] => { results := [.lit (.bool false)], args := [d] }
  | _ => none }
def FnLogsWrongFalsely : Prop := fnLogsRow.holds Try.pinned (OpenSpec.ofChange fnLogsWrong)

/- THE SECOND FORM. 'bulk': how many values and letters a reading holds, each counted each time it is reached (what is shared counts as often as it is met; a slice's spare places count too). A statement '..UptoSaid' is the law's where the arguments, and the package variables that the reading takes, are together of bulk at most 1048576: NARROWER than '..Said'. Prove '..Said' where nothing that the law and all that it calls make is longer than what came in: it says more and counts as full. Else prove '..UptoSaid'. A law counts once. -/
mutual
def uptoBulk {H : Type} : DataW H → Nat
  | .lit (.string bytes) => bytes.length + 1
  | .lit _ => 1
  | .nil => 1
  | .ptr d => uptoBulk d + 1
  | .slice elems spare => uptoBulkAll elems + uptoBulkAll spare + 1
  | .agg parts => uptoBulkAll parts + 1
  | .iface _ d => uptoBulk d + 1
  | .map entries => uptoBulkEntries entries + 1
  | .held _ => 1
def uptoBulkAll {H : Type} : List (DataW H) → Nat
  | [] => 0
  | d :: r => uptoBulk d + uptoBulkAll r
def uptoBulkEntries {H : Type} : List (Lit × DataW H) → Nat
  | [] => 0
  | x :: r => uptoBulkEntry x + uptoBulkEntries r
def uptoBulkEntry {H : Type} : Lit × DataW H → Nat
  | (.string bytes, d) => bytes.length + uptoBulk d + 1
  | (_, d) => uptoBulk d + 1
 end
def uptoSmall : (H : Type) → List (DataW H) → Bool := fun _ ds => decide (uptoBulkAll ds ≤ 1048576)
def OpenSpec.upto (s : _root_.Go.ChangeSpec) : _root_.Go.OpenSpec := { _root_.Go.OpenSpec.ofChange s with cond := some uptoSmall }

/-- 'laws.FnExactUnpackEntry', WHERE WHAT IT READS IS OF BULK AT MOST 1048576: true; the input reads as it did. -/
def fnExactUnpackEntryUptoRow : OpenClaim := { program := "ytkibnkfmcmbhnab", sum := "927a239dc580482c3849b85aa619953fba13ac0b048b6024b55ba3123c452e60", func := "loop.example/g00277/laws.FnExactUnpackEntry", spec := "fnExactUnpackEntry", unfollowed := true, recurses := true, apart := false, narrowed := true }
def FnExactUnpackEntryUptoSaid : Prop := fnExactUnpackEntryUptoRow.holds Try.pinned (OpenSpec.upto fnExactUnpackEntrySpec)

/-- 'laws.FnExactBestLog', WHERE WHAT IT READS IS OF BULK AT MOST 1048576: true; the input reads as it did. -/
def fnExactBestLogUptoRow : OpenClaim := { program := "ytkibnkfmcmbhnab", sum := "927a239dc580482c3849b85aa619953fba13ac0b048b6024b55ba3123c452e60", func := "loop.example/g00277/laws.FnExactBestLog", spec := "fnExactBestLog", apart := false, narrowed := true }
def FnExactBestLogUptoSaid : Prop := fnExactBestLogUptoRow.holds Try.pinned (OpenSpec.upto fnExactBestLogSpec)

/-- 'laws.FnEntries', WHERE WHAT IT READS IS OF BULK AT MOST 1048576: true; the input reads as it did. -/
def fnEntriesUptoRow : OpenClaim := { program := "ytkibnkfmcmbhnab", sum := "927a239dc580482c3849b85aa619953fba13ac0b048b6024b55ba3123c452e60", func := "loop.example/g00277/laws.FnEntries", spec := "fnEntries", unfollowed := true, recurses := true, apart := false, narrowed := true }
def FnEntriesUptoSaid : Prop := fnEntriesUptoRow.holds Try.pinned (OpenSpec.upto fnEntriesSpec)

/-- 'laws.FnLogs', WHERE WHAT IT READS IS OF BULK AT MOST 1048576: true; the input reads as it did. -/
def fnLogsUptoRow : OpenClaim := { program := "ytkibnkfmcmbhnab", sum := "927a239dc580482c3849b85aa619953fba13ac0b048b6024b55ba3123c452e60", func := "loop.example/g00277/laws.FnLogs", spec := "fnLogs", apart := false, narrowed := true }
def FnLogsUptoSaid : Prop := fnLogsUptoRow.holds Try.pinned (OpenSpec.upto fnLogsSpec)

end Rows
end Go.Proofs.Ytkibnkfmcmbhnab
