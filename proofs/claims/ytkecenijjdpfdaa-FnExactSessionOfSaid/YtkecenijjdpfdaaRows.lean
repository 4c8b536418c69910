/-
  No cell of these rows narrows 'for every input' (looked for: loops, veiled, ifaces, maps, wideKeys, modest, calm, conditions, laid).
  DERIVED. THE GIVEN ROWS OF THIS SEAT. 12 by the template 'for every input the law returns true; each argument reads behind the call as it read before'; 0 by the template 'total and deterministic' (their statements: YtkecenijjdpfdaaTotals.lean).
  GIVEN WITH THE SEED: the statements are not yours to turn. If you find one false, say at which input.
  Laid BY PROGRAM, IN A SANDBOX (cutbox-rows.mjs): the forced cells as the released guide's own fill.sh prints them over the translation a6403047bed27de9… (all of the seat's roots in one cut). By AI agents, Wed Nov 11 2026. No macro, syntax, notation, axiom, sorry.
-/
import Derived.Test.YtkecenijjdpfdaaChecked
import GoSem.Claim
import GoSem.ClaimJoined
import GoSem.ClaimMapViews
import Derived.JoinedTies
import Derived.KernelRfl
namespace Go.Proofs.Ytkecenijjdpfdaa
/- THE CELL 'sum', in the pinned program and in every row, IS THE sha256 OF THE DUMP (.gsa) THAT YtkecenijjdpfdaaProg.lean LOADS. Nothing in Lean hashes anything: it is a label: what it is worth is what the hold of that sum in a sandbox is worth. -/
noncomputable def Try.pinned : Pinned := { name := "ytkecenijjdpfdaa", sum := "a6403047bed27de937170fd37264f04996d2e3db57b699d9218e13ebe5855487", checked := Try.checked }
namespace Rows
def none {H : Type} : Left H := { results := [], args := [] }

/-- 'laws.FnExactUnpackDelta': WHATEVER THE INPUT: true; the input reads as it did. -/
def fnExactUnpackDeltaSpec : ChangeSpec := { name := "fnExactUnpackDelta", fn := fun _ => fun
  | [d] => { results := [.lit (.bool true)], args := [d] }
  | _ => none }
def fnExactUnpackDeltaRow : OpenClaim := { program := "ytkecenijjdpfdaa", sum := "a6403047bed27de937170fd37264f04996d2e3db57b699d9218e13ebe5855487", func := "loop.example/g00277/laws.FnExactUnpackDelta", spec := "fnExactUnpackDelta", unfollowed := true, recurses := true, apart := false }
def FnExactUnpackDeltaSaid : Prop := fnExactUnpackDeltaRow.holds Try.pinned (OpenSpec.ofChange fnExactUnpackDeltaSpec)

/-- ITS FALSE NEIGHBOUR: 'it returns false'. Refute it at one input. -/
def fnExactUnpackDeltaWrong : ChangeSpec := { name := "fnExactUnpackDelta", fn := fun _ => fun
  | [d] => { results := [.lit (.bool false)], args := [d] }
  | _ => none }
def FnExactUnpackDeltaWrongFalsely : Prop := fnExactUnpackDeltaRow.holds Try.pinned (OpenSpec.ofChange fnExactUnpackDeltaWrong)

/-- 'laws.FnExactNewReplica': WHATEVER THE INPUT: true; the input reads as it did. -/
def fnExactNewReplicaSpec : ChangeSpec := { name := "fnExactNewReplica", fn := fun _ => fun
  | [d1, d2] => { results := [.lit (.bool true)], args := [d1, d2] }
  | _ => none }
def fnExactNewReplicaRow : OpenClaim := { program := "ytkecenijjdpfdaa", sum := "a6403047bed27de937170fd37264f04996d2e3db57b699d9218e13ebe5855487", func := "loop.example/g00277/laws.FnExactNewReplica", spec := "fnExactNewReplica", apart := false }
def FnExactNewReplicaSaid : Prop := fnExactNewReplicaRow.holds Try.pinned (OpenSpec.ofChange fnExactNewReplicaSpec)

/-- ITS FALSE NEIGHBOUR: 'it returns false'. Refute it at one input. -/
def fnExactNewReplicaWrong : ChangeSpec := { name := "fnExactNewReplica", fn := fun _ => fun
  | [d1, d2] => { results := [.lit (.bool false)], args := [d1, d2] }
  | _ => none }
def FnExactNewReplicaWrongFalsely : Prop := fnExactNewReplicaRow.holds Try.pinned (OpenSpec.ofChange fnExactNewReplicaWrong)

/-- 'laws.FnChoices': WHATEVER THE INPUT: true; the input reads as it did. -/
def fnChoicesSpec : ChangeSpec := { name := "fnChoices", fn := fun _ => fun
  | [d] => { results := [.lit (.bool true)], args := [d] }
  | _ => none }
def fnChoicesRow : OpenClaim := { program := "ytkecenijjdpfdaa", sum := "a6403047bed27de937170fd37264f04996d2e3db57b699d9218e13ebe5855487", func := "loop.example/g00277/laws.FnChoices", spec := "fnChoices", unfollowed := true, recurses := true, apart := false }
def FnChoicesSaid : Prop := fnChoicesRow.holds Try.pinned (OpenSpec.ofChange fnChoicesSpec)

/-- ITS FALSE NEIGHBOUR: 'it returns false'. Refute it at one input. -/
def fnChoicesWrong : ChangeSpec := { name := "fnChoices", fn := fun _ => fun
  | [d] => { results := [.lit (.bool false)], args := [d] }
  | _ => none }
def FnChoicesWrongFalsely : Prop := fnChoicesRow.holds Try.pinned (OpenSpec.ofChange fnChoicesWrong)

/-- 'laws.FnExactNewCluster': WHATEVER THE INPUT: true; the input reads as it did. -/
def fnExactNewClusterSpec : ChangeSpec := { name := "fnExactNewCluster", fn := fun _ => fun
  | [d] => { results := [.lit (.bool true)], args := [d] }
  | _ => none }
def fnExactNewClusterRow : OpenClaim := { program := "ytkecenijjdpfdaa", sum := "a6403047bed27de937170fd37264f04996d2e3db57b699d9218e13ebe5855487", func := "loop.example/g00277/laws.FnExactNewCluster", spec := "fnExactNewCluster", apart := false }
def FnExactNewClusterSaid : Prop := fnExactNewClusterRow.holds Try.pinned (OpenSpec.ofChange fnExactNewClusterSpec)

/-- ITS FALSE NEIGHBOUR: 'it returns false'. Refute it at one input. -/
def fnExactNewClusterWrong : ChangeSpec := { name := "fnExactNewCluster", fn := fun _ => fun
  | [d] => { results := [.lit (.bool false)], args := [d] }
  | _ => none }
def FnExactNewClusterWrongFalsely : Prop := fnExactNewClusterRow.holds Try.pinned (OpenSpec.ofChange fnExactNewClusterWrong)

/-- 'laws.FnExactMachineFault': WHATEVER THE INPUT: true; the input reads as it did. -/
def fnExactMachineFaultSpec : ChangeSpec := { name := "fnExactMachineFault", fn := fun _ => fun
  | [d] => { results := [.lit (.bool true)], args := [d] }
  | _ => none }
def fnExactMachineFaultRow : OpenClaim := { program := "ytkecenijjdpfdaa", sum := "a6403047bed27de937170fd37264f04996d2e3db57b699d9218e13ebe5855487", func := "loop.example/g00277/laws.FnExactMachineFault", spec := "fnExactMachineFault", unfollowed := true, recurses := true, apart := false }
def FnExactMachineFaultSaid : Prop := fnExactMachineFaultRow.holds Try.pinned (OpenSpec.ofChange fnExactMachineFaultSpec)

/-- ITS FALSE NEIGHBOUR: 'it returns false'. Refute it at one input. -/
def fnExactMachineFaultWrong : ChangeSpec := { name := "fnExactMachineFault", fn := fun _ => fun
  | [d] => { results := [.lit (.bool false)], args := [d] }
  | _ => none }
def FnExactMachineFaultWrongFalsely : Prop := fnExactMachineFaultRow.holds Try.pinned (OpenSpec.ofChange fnExactMachineFaultWrong)

/-- 'laws.FnExactSessionOf': WHATEVER THE INPUT: true; the input reads as it did. -/
def fnExactSessionOfSpec : ChangeSpec := { name := "fnExactSessionOf", fn := fun _ => fun
  | [d1, d2] => { results := [.lit (.bool true)], args := [d1, d2] }
  | _ => none }
def fnExactSessionOfRow : OpenClaim := { program := "ytkecenijjdpfdaa", sum := "a6403047bed27de937170fd37264f04996d2e3db57b699d9218e13ebe5855487", func := "loop.example/g00277/laws.FnExactSessionOf", spec := "fnExactSessionOf", unfollowed := true, recurses := true, apart := false }
def FnExactSessionOfSaid : Prop := fnExactSessionOfRow.holds Try.pinned (OpenSpec.ofChange fnExactSessionOfSpec)

/-- ITS FALSE NEIGHBOUR: 'it returns false'. Refute it at one input. -/
def fnExactSessionOfWrong : ChangeSpec := { name := "fnExactSessionOf", fn := fun _ => fun
  | [d1, d2] => { results := [.lit (.bool false)], args := [d1, d2] }
  | _ => none }
def FnExactSessionOfWrongFalsely : Prop := fnExactSessionOfRow.holds Try.pinned (OpenSpec.ofChange fnExactSessionOfWrong)

/-- 'laws.FnExactClusterFault': WHATEVER THE INPUT: true; the input reads as it did. -/
def fnExactClusterFaultSpec : ChangeSpec := { name := "fnExactClusterFault", fn := fun _ => fun
  | [d] => { results := [.lit (.bool true)], args := [d] }
  | _ => none }
def fnExactClusterFaultRow : OpenClaim := { program := "ytkecenijjdpfdaa", sum := "a6403047bed27de937170fd37264f04996d2e3db57b699d9218e13ebe5855487", func := "loop.example/g00277/laws.FnExactClusterFault", spec := "fnExactClusterFault", unfollowed := true, recurses := true, apart := false }
def FnExactClusterFaultSaid : Prop := fnExactClusterFaultRow.holds Try.pinned (OpenSpec.ofChange fnExactClusterFaultSpec)

/-- ITS FALSE NEIGHBOUR: 'it returns false'. Refute it at one input. -/
def fnExactClusterFaultWrong : ChangeSpec := { name := "fnExactClusterFault", fn := fun _ => fun
  | [d] => { results := [.lit (.bool false)], args := [d] }
  | _ => none }
def FnExactClusterFaultWrongFalsely : Prop := fnExactClusterFaultRow.holds Try.pinned (OpenSpec.ofChange fnExactClusterFaultWrong)

/-- 'laws.FnExactTellOf': WHATEVER THE INPUT: true; the input reads as it did. -/
def fnExactTellOfSpec : ChangeSpec := { name := "fnExactTellOf", fn := fun _ => fun
  | [d] => { results := [.lit (.bool true)], args := [d] }
  | _ => none }
def fnExactTellOfRow : OpenClaim := { program := "ytkecenijjdpfdaa", sum := "a6403047bed27de937170fd37264f04996d2e3db57b699d9218e13ebe5855487", func := "loop.example/g00277/laws.FnExactTellOf", spec := "fnExactTellOf", unfollowed := true, recurses := true, apart := false }
def FnExactTellOfSaid : Prop := fnExactTellOfRow.holds Try.pinned (OpenSpec.ofChange fnExactTellOfSpec)

/-- ITS FALSE NEIGHBOUR: 'it returns false'. Refute it at one input. -/
def fnExactTellOfWrong : ChangeSpec := { name := "fnExactTellOf", fn := fun _ => fun
  | [d] => { results := [.lit (.bool false)], args := [d] }
  | _ => none }
def FnExactTellOfWrongFalsely : Prop := fnExactTellOfRow.holds Try.pinned (OpenSpec.ofChange fnExactTellOfWrong)

/-- 'laws.FnExactAgreedBy': WHATEVER THE INPUT: true; the input reads as it did. -/
def fnExactAgreedBySpec : ChangeSpec := { name := "fnExactAgreedBy", fn := fun _ => fun
  | [d] => { results := [.lit (.bool true)], args := [d] }
  | _ => none }
def fnExactAgreedByRow : OpenClaim := { program := "ytkecenijjdpfdaa", sum := "a6403047bed27de937170fd37264f04996d2e3db57b699d9218e13ebe5855487", func := "loop.example/g00277/laws.FnExactAgreedBy", spec := "fnExactAgreedBy", unfollowed := true, recurses := true, apart := false }
def FnExactAgreedBySaid : Prop := fnExactAgreedByRow.holds Try.pinned (OpenSpec.ofChange fnExactAgreedBySpec)

/-- ITS FALSE NEIGHBOUR: 'it returns false'. Refute it at one input. -/
def fnExactAgreedByWrong : ChangeSpec := { name := "fnExactAgreedBy", fn := fun _ => fun
  | [d] => { results := [.lit (.bool false)], args := [d] }
  | _ => none }
def FnExactAgreedByWrongFalsely : Prop := fnExactAgreedByRow.holds Try.pinned (OpenSpec.ofChange fnExactAgreedByWrong)

/-- 'laws.FnExactApplyPlain': WHATEVER THE INPUT: true; the input reads as it did. -/
def fnExactApplyPlainSpec : ChangeSpec := { name := "fnExactApplyPlain", fn := fun _ => fun
  | [d1, d2, d3] => { results := [.lit (.bool true)], args := [d1, d2, d3] }
  | _ => none }
def fnExactApplyPlainRow : OpenClaim := { program := "ytkecenijjdpfdaa", sum := "a6403047bed27de937170fd37264f04996d2e3db57b699d9218e13ebe5855487", func := "loop.example/g00277/laws.FnExactApplyPlain", spec := "fnExactApplyPlain", inPlace := ["slices.overlaps[loop.example/g00277/impl.Vol]", "slices.overlaps[loop.example/g00277/impl.Cell]"], unfollowed := true, recurses := true, apart := false }
def FnExactApplyPlainSaid : Prop := fnExactApplyPlainRow.holds Try.pinned (OpenSpec.ofChange fnExactApplyPlainSpec)

/-- ITS FALSE NEIGHBOUR: 'it returns false'. Refute it at one input. -/
def fnExactApplyPlainWrong : ChangeSpec := { name := "fnExactApplyPlain", fn := fun _ => fun
  | [d1, d2, d3] => { results := [.lit (.bool false)], args := [d1, d2, d3] }
  | _ => none }
def FnExactApplyPlainWrongFalsely : Prop := fnExactApplyPlainRow.holds Try.pinned (OpenSpec.ofChange fnExactApplyPlainWrong)

/-- 'laws.FnExactTakeDelta': WHATEVER THE INPUT: true; the input reads as it did. -/
def fnExactTakeDeltaSpec : ChangeSpec := { name := "fnExactTakeDelta", fn := fun _ => fun
  | [d1, d2] => { results := [.lit (.bool true)], args := [d1, d2] }
  | _ => none }
def fnExactTakeDeltaRow : OpenClaim := { program := "ytkecenijjdpfdaa", sum := "a6403047bed27de937170fd37264f04996d2e3db57b699d9218e13ebe5855487", func := "loop.example/g00277/laws.FnExactTakeDelta", spec := "fnExactTakeDelta", inPlace := ["slices.overlaps[loop.example/g00277/impl.Cell]"], unfollowed := true, recurses := true, apart := false }
def FnExactTakeDeltaSaid : Prop := fnExactTakeDeltaRow.holds Try.pinned (OpenSpec.ofChange fnExactTakeDeltaSpec)

/-- ITS FALSE NEIGHBOUR: 'it returns false'. Refute it at one input. -/
def fnExactTakeDeltaWrong : ChangeSpec := { name := "fnExactTakeDelta", fn := fun _ => fun
  | [d1, d2] => { results := [.lit (.bool false)], args := [d1, d2] }
  | _ => none }
def FnExactTakeDeltaWrongFalsely : Prop := fnExactTakeDeltaRow.holds Try.pinned (OpenSpec.ofChange fnExactTakeDeltaWrong)

/-- 'laws.FnExactDeltaOf': WHATEVER THE INPUT: true; the input reads as it did. -/
def fnExactDeltaOfSpec : ChangeSpec := { name := "fnExactDeltaOf", fn := fun _ => fun
  | [d1, d2] => { results := [.lit (.bool true)], args := [d1, d2] }
  | _ => none }
def fnExactDeltaOfRow : OpenClaim := { program := "ytkecenijjdpfdaa", sum := "a6403047bed27de937170fd37264f04996d2e3db57b699d9218e13ebe5855487", func := "loop.example/g00277/laws.FnExactDeltaOf", spec := "fnExactDeltaOf", unfollowed := true, recurses := true, apart := false }
def FnExactDeltaOfSaid : Prop := fnExactDeltaOfRow.holds Try.pinned (OpenSpec.ofChange fnExactDeltaOfSpec)

/-- ITS FALSE NEIGHBOUR: 'it returns false'. Refute it at one input. -/
def fnExactDeltaOfWrong : ChangeSpec := { name := "fnExactDeltaOf", fn := fun _ => fun
  | [d1, d2] => { results := [.lit (.bool false)], args := [d1, d2] }
  | _ => none }
def FnExactDeltaOfWrongFalsely : Prop := fnExactDeltaOfRow.holds Try.pinned (OpenSpec.ofChange fnExactDeltaOfWrong)

/- THE SECOND FORM. 'bulk': how many values and letters a reading holds, each counted each time it is reached (what is shared counts as often as it is met; a slice's spare places count too). A statement '..UptoSaid' is the law's where the arguments, and the package variables that the reading takes, are together of bulk at most 1048576: NARROWER than '..Said'. Prove '..Said' where nothing that the law and all that it calls make is longer than what came in: it says more and counts as full. Else prove '..UptoSaid'. A law counts once. -/
mutual
def uptoBulk {H : Type} : DataW H → Nat
  | .lit (.string bytes) => bytes.length + 1
  | .lit _ => 1
  | .nil => 1
  | .ptr d => uptoBulk d + 1
  | .slice elems spare => uptoBulkAll elems + uptoBulkAll spare + 1
  | .agg parts => uptoBulkAll parts + 1
  | .iface _ d => uptoBulk d + 1
  | .map entries => uptoBulkEntries entries + 1
  | .held _ => 1
def uptoBulkAll {H : Type} : List (DataW H) → Nat
  | [] => 0
  | d :: r => uptoBulk d + uptoBulkAll r
def uptoBulkEntries {H : Type} : List (Lit × DataW H) → Nat
  | [] => 0
  | x :: r => uptoBulkEntry x + uptoBulkEntries r
def uptoBulkEntry {H : Type} : Lit × DataW H → Nat
  | (.string bytes, d) => bytes.length + uptoBulk d + 1
  | (_, d) => uptoBulk d + 1
 end
def uptoSmall : (H : Type) → List (DataW H) → Bool := fun _ ds => decide (uptoBulkAll ds ≤ 1048576)
def OpenSpec.upto (s : _root_.Go.ChangeSpec) : _root_.Go.OpenSpec := { _root_.Go.OpenSpec.ofChange s with cond := some uptoSmall }

/-- 'laws.FnExactUnpackDelta', WHERE WHAT IT READS IS OF BULK AT MOST 1048576: true; the input reads as it did. -/
def fnExactUnpackDeltaUptoRow : OpenClaim := { program := "ytkecenijjdpfdaa", sum := "a6403047bed27de937170fd37264f04996d2e3db57b699d9218e13ebe5855487", func := "loop.example/g00277/laws.FnExactUnpackDelta", spec := "fnExactUnpackDelta", unfollowed := true, recurses := true, apart := false, narrowed := true }
def FnExactUnpackDeltaUptoSaid : Prop := fnExactUnpackDeltaUptoRow.holds Try.pinned (OpenSpec.upto fnExactUnpackDeltaSpec)

/-- 'laws.FnExactNewReplica', WHERE WHAT IT READS IS OF BULK AT MOST 1048576: true; the input reads as it did. -/
def fnExactNewReplicaUptoRow : OpenClaim := { program := "ytkecenijjdpfdaa", sum := "a6403047bed27de937170fd37264f04996d2e3db57b699d9218e13ebe5855487", func := "loop.example/g00277/laws.FnExactNewReplica", spec := "fnExactNewReplica", apart := false, narrowed := true }
def FnExactNewReplicaUptoSaid : Prop := fnExactNewReplicaUptoRow.holds Try.pinned (OpenSpec.upto fnExactNewReplicaSpec)

/-- 'laws.FnChoices', WHERE WHAT IT READS IS OF BULK AT MOST 1048576: true; the input reads as it did. -/
def fnChoicesUptoRow : OpenClaim := { program := "ytkecenijjdpfdaa", sum := "a6403047bed27de937170fd37264f04996d2e3db57b699d9218e13ebe5855487", func := "loop.example/g00277/laws.FnChoices", spec := "fnChoices", unfollowed := true, recurses := true, apart := false, narrowed := true }
def FnChoicesUptoSaid : Prop := fnChoicesUptoRow.holds Try.pinned (OpenSpec.upto fnChoicesSpec)

/-- 'laws.FnExactNewCluster', WHERE WHAT IT READS IS OF BULK AT MOST 1048576: true; the input reads as it did. -/
def fnExactNewClusterUptoRow : OpenClaim := { program := "ytkecenijjdpfdaa", sum := "a6403047bed27de937170fd37264f04996d2e3db57b699d9218e13ebe5855487", func := "loop.example/g00277/laws.FnExactNewCluster", spec := "fnExactNewCluster", apart := false, narrowed := true }
def FnExactNewClusterUptoSaid : Prop := fnExactNewClusterUptoRow.holds Try.pinned (OpenSpec.upto fnExactNewClusterSpec)

/-- 'laws.FnExactMachineFault', WHERE WHAT IT READS IS OF BULK AT MOST 1048576: true; the input reads as it did. -/
def fnExactMachineFaultUptoRow : OpenClaim := { program := "ytkecenijjdpfdaa", sum := "a6403047bed27de937170fd37264f04996d2e3db57b699d9218e13ebe5855487", func := "loop.example/g00277/laws.FnExactMachineFault", spec := "fnExactMachineFault", unfollowed := true, recurses := true, apart := false, narrowed := true }
def FnExactMachineFaultUptoSaid : Prop := fnExactMachineFaultUptoRow.holds Try.pinned (OpenSpec.upto fnExactMachineFaultSpec)

/-- 'laws.FnExactSessionOf', WHERE WHAT IT READS IS OF BULK AT MOST 1048576: true; the input reads as it did. -/
def fnExactSessionOfUptoRow : OpenClaim := { program := "ytkecenijjdpfdaa", sum := "a6403047bed27de937170fd37264f04996d2e3db57b699d9218e13ebe5855487", func := "loop.example/g00277/laws.FnExactSessionOf", spec := "fnExactSessionOf", unfollowed := true, recurses := true, apart := false, narrowed := true }
def FnExactSessionOfUptoSaid : Prop := fnExactSessionOfUptoRow.holds Try.pinned (OpenSpec.upto fnExactSessionOfSpec)

/-- 'laws.FnExactClusterFault', WHERE WHAT IT READS IS OF BULK AT MOST 1048576: true; the input reads as it did. -/
def fnExactClusterFaultUptoRow : OpenClaim := { program := "ytkecenijjdpfdaa", sum := "a6403047bed27de937170fd37264f04996d2e3db57b699d9218e13ebe5855487", func := "loop.example/g00277/laws.FnExactClusterFault", spec := "fnExactClusterFault", unfollowed := true, recurses := true, apart := false, narrowed := true }
def FnExactClusterFaultUptoSaid : Prop := fnExactClusterFaultUptoRow.holds Try.pinned (OpenSpec.upto fnExactClusterFaultSpec)

/-- 'laws.FnExactTellOf', WHERE WHAT IT READS IS OF BULK AT MOST 1048576: true; the input reads as it did. -/
def fnExactTellOfUptoRow : OpenClaim := { program := "ytkecenijjdpfdaa", sum := "a6403047bed27de937170fd37264f04996d2e3db57b699d9218e13ebe5855487", func := "loop.example/g00277/laws.FnExactTellOf", spec := "fnExactTellOf", unfollowed := true, recurses := true, apart := false, narrowed := true }
def FnExactTellOfUptoSaid : Prop := fnExactTellOfUptoRow.holds Try.pinned (OpenSpec.upto fnExactTellOfSpec)

/-- 'laws.FnExactAgreedBy', WHERE WHAT IT READS IS OF BULK AT MOST 1048576: true; the input reads as it did. -/
def fnExactAgreedByUptoRow : OpenClaim := { program := "ytkecenijjdpfdaa", sum := "a6403047bed27de937170fd37264f04996d2e3db57b699d9218e13ebe5855487", func := "loop.example/g00277/laws.FnExactAgreedBy", spec := "fnExactAgreedBy", unfollowed := true, recurses := true, apart := false, narrowed := true }
def FnExactAgreedByUptoSaid : Prop := fnExactAgreedByUptoRow.holds Try.pinned (OpenSpec.upto fnExactAgreedBySpec)

/-- 'laws.FnExactApplyPlain', WHERE WHAT IT READS IS OF BULK AT MOST 1048576: true; the input reads as it did. -/
def fnExactApplyPlainUptoRow : OpenClaim := { program := "ytkecenijjdpfdaa", sum := "a6403047bed27de937170fd37264f04996d2e3db57b699d9218e13ebe5855487", func := "loop.example/g00277/laws.FnExactApplyPlain", spec := "fnExactApplyPlain", inPlace := ["slices.overlaps[loop.example/g00277/impl.Vol]", "slices.overlaps[loop.example/g00277/impl.Cell]"], unfollowed := true, recurses := true, apart := false, narrowed := true }
def FnExactApplyPlainUptoSaid : Prop := fnExactApplyPlainUptoRow.holds Try.pinned (OpenSpec.upto fnExactApplyPlainSpec)

/-- 'laws.FnExactTakeDelta', WHERE WHAT IT READS IS OF BULK AT MOST 1048576: true; the input reads as it did. -/
def fnExactTakeDeltaUptoRow : OpenClaim := { program := "ytkecenijjdpfdaa", sum := "a6403047bed27de937170fd37264f04996d2e3db57b699d9218e13ebe5855487", func := "loop.example/g00277/laws.FnExactTakeDelta", spec := "fnExactTakeDelta", inPlace := ["slices.overlaps[loop.example/g00277/impl.Cell]"], unfollowed := true, recurses := true, apart := false, narrowed := true }
def FnExactTakeDeltaUptoSaid : Prop := fnExactTakeDeltaUptoRow.holds Try.pinned (OpenSpec.upto fnExactTakeDeltaSpec)

/-- 'laws.FnExactDeltaOf', WHERE WHAT IT READS IS OF BULK AT MOST 1048576: true; the input reads as it did. -/
def fnExactDeltaOfUptoRow : OpenClaim := { program := "ytkecenijjdpfdaa", sum := "a6403047bed27de937170fd37264f04996d2e3db57b699d9218e13ebe5855487", func := "loop.example/g00277/laws.FnExactDeltaOf", spec := "fnExactDeltaOf", unfollowed := true, recurses := true, apart := false, narrowed := true }
def FnExactDeltaOfUptoSaid : Prop := fnExactDeltaOfUptoRow.holds Try.pinned (OpenSpec.upto fnExactDeltaOfSpec)

end Rows
end Go.Proofs.Ytkecenijjdpfdaa
