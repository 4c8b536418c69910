/-
  Records that hold slices, to be read alone.
-/
import Derived.Test.YtkecenijjdpfdaaALB1
namespace Go.Proofs.Ytkecenijjdpfdaa.AL
open Go Go.Proofs.Ytkecenijjdpfdaa
set_option linter.unusedVariables false
set_option linter.unusedSimpArgs false
set_option maxRecDepth 100000
set_option maxHeartbeats 2000000

structure GNode where
  refs : Int
  leaf : Bool
  kids : List Int
  deriving DecidableEq, Inhabited
structure GForest where
  nodes : List GNode
  blocks : List GBlock
  deriving DecidableEq, Inhabited
structure GPool where
  forest : GForest
  vols : List GVol
  deriving DecidableEq, Inhabited
structure GMachine where
  pool : GPool
  sessions : List GSession
  deriving DecidableEq, Inhabited
abbrev eNode (v : GNode) : List AV := [.int .i64 v.refs, .bool v.leaf, .fro 1 (v.kids.map eInt)]
def eForest (f : GForest) : List AV := [.fro 3 (f.nodes.map eNode), .fro 2 (f.blocks.map eBlock)]
def ePool (p : GPool) : List AV := [.fro 3 (p.forest.nodes.map eNode), .fro 2 (p.forest.blocks.map eBlock), .fro 3 (p.vols.map eVol)]
def eMachine (m : GMachine) : List AV := ePool m.pool ++ [.fro 4 (m.sessions.map eSession)]
theorem lt_froF {α : Type} {e : α → List AV} (he : Flat e) {n sz : Nat} {xs : List α} : Lt n (.fro sz (xs.map e)) = True := eq_true (lt_fro fun row hr => by
  obtain ⟨x, _, rfl⟩ := List.mem_map.1 hr
  exact he x n)
theorem flat_node : Flat eNode := fun x n => by simp only [eNode, ltL_cons, ltL_nil, lt_int, lt_bool, lt_froF flat_int, and_self]
theorem row_node : ∀ x, RowOk 3 (eNode x) := fun _ => ⟨rfl, rfl⟩
end Go.Proofs.Ytkecenijjdpfdaa.AL
