/-
  FnExactSessionOf: its arguments as data.
-/
import Derived.Test.YtkecenijjdpfdaaALB2
namespace Go.Proofs.Ytkecenijjdpfdaa.AL
open Go Go.Proofs.Ytkecenijjdpfdaa
set_option linter.unusedVariables false
set_option linter.unusedSimpArgs false
theorem ao2 : AO Try.prog 2 1 (fun n : Int => [AV.int .i64 n]) (fun n : Int => (Lit.int .i64 n).wf = true) := ao_int Try.underlying2 (by kernel_rfl)
theorem ao4 : AO Try.prog 4 1 (fun b : Bool => [AV.bool b]) (fun _ : Bool => True) := ao_bool Try.underlying4 (by kernel_rfl)
def good22 (xs : List (Int)) : Prop := xs.length ≤ 9223372036854775807 ∧ ∀ x ∈ xs, (fun n : Int => (Lit.int .i64 n).wf = true) x
theorem ao22 : AO Try.prog 22 1 (fun xs : List (Int) => [AV.fro 1 (xs.map (fun n : Int => [AV.int .i64 n]))]) good22 := ao_slice (by decide) Try.underlying22 (by kernel_rfl) ao2
def good359 (x : GNode) : Prop := (fun n : Int => (Lit.int .i64 n).wf = true) x.refs ∧ (fun _ : Bool => True) x.leaf ∧ good22 x.kids
theorem ao359 : AO Try.prog 359 3 eNode good359 := (ao_struct Try.underlying359 (by kernel_rfl) (aos_cons ao2 rfl rfl (aos_cons ao4 rfl rfl (aos_one ao22 rfl rfl))) (fun x : GNode => (x.refs, x.leaf, x.kids)) (fun a => ⟨a.1, a.2.1, a.2.2⟩) (fun _ => rfl)).to (fun _ => rfl)
def good68 (xs : List (GNode)) : Prop := xs.length ≤ 9223372036854775807 ∧ ∀ x ∈ xs, good359 x
theorem ao68 : AO Try.prog 68 1 (fun xs : List (GNode) => [AV.fro 3 (xs.map eNode)]) good68 := ao_slice (by decide) Try.underlying68 (by kernel_rfl) ao359
def good366 (x : GBlock) : Prop := (fun n : Int => (Lit.int .i64 n).wf = true) x.refs ∧ (fun n : Int => (Lit.int .i64 n).wf = true) x.data
theorem ao366 : AO Try.prog 366 2 eBlock good366 := (ao_struct Try.underlying366 (by kernel_rfl) (aos_cons ao2 rfl rfl (aos_one ao2 rfl rfl)) (fun x : GBlock => (x.refs, x.data)) (fun a => ⟨a.1, a.2⟩) (fun _ => rfl)).to (fun _ => rfl)
def good69 (xs : List (GBlock)) : Prop := xs.length ≤ 9223372036854775807 ∧ ∀ x ∈ xs, good366 x
theorem ao69 : AO Try.prog 69 1 (fun xs : List (GBlock) => [AV.fro 2 (xs.map eBlock)]) good69 := ao_slice (by decide) Try.underlying69 (by kernel_rfl) ao366
def good71 (x : GForest) : Prop := good68 x.nodes ∧ good69 x.blocks
theorem ao71 : AO Try.prog 71 2 eForest good71 := (ao_struct Try.underlying71 (by kernel_rfl) (aos_cons ao68 rfl rfl (aos_one ao69 rfl rfl)) (fun x : GForest => (x.nodes, x.blocks)) (fun a => ⟨a.1, a.2⟩) (fun _ => rfl)).to (fun _ => rfl)
def good303 (x : GVol) : Prop := (fun n : Int => (Lit.int .i64 n).wf = true) x.id ∧ (fun n : Int => (Lit.int .i64 n).wf = true) x.quota ∧ (fun n : Int => (Lit.int .i64 n).wf = true) x.root
theorem ao303 : AO Try.prog 303 3 eVol good303 := (ao_struct Try.underlying303 (by kernel_rfl) (aos_cons ao2 rfl rfl (aos_cons ao2 rfl rfl (aos_one ao2 rfl rfl))) (fun x : GVol => (x.id, x.quota, x.root)) (fun a => ⟨a.1, a.2.1, a.2.2⟩) (fun _ => rfl)).to (fun _ => rfl)
def good72 (xs : List (GVol)) : Prop := xs.length ≤ 9223372036854775807 ∧ ∀ x ∈ xs, good303 x
theorem ao72 : AO Try.prog 72 1 (fun xs : List (GVol) => [AV.fro 3 (xs.map eVol)]) good72 := ao_slice (by decide) Try.underlying72 (by kernel_rfl) ao303
def good74 (x : GPool) : Prop := good71 x.forest ∧ good72 x.vols
theorem ao74 : AO Try.prog 74 3 ePool good74 := (ao_struct Try.underlying74 (by kernel_rfl) (aos_cons ao71 rfl rfl (aos_one ao72 rfl rfl)) (fun x : GPool => (x.forest, x.vols)) (fun a => ⟨a.1, a.2⟩) (fun _ => rfl)).to (fun _ => rfl)
def good266 (x : GSession) : Prop := (fun n : Int => (Lit.int .i64 n).wf = true) x.client ∧ (fun n : Int => (Lit.int .i64 n).wf = true) x.seq ∧ (fun n : Int => (Lit.int .i64 n).wf = true) x.reply ∧ (fun n : Int => (Lit.int .i64 n).wf = true) x.val
theorem ao266 : AO Try.prog 266 4 eSession good266 := (ao_struct Try.underlying266 (by kernel_rfl) (aos_cons ao2 rfl rfl (aos_cons ao2 rfl rfl (aos_cons ao2 rfl rfl (aos_one ao2 rfl rfl)))) (fun x : GSession => (x.client, x.seq, x.reply, x.val)) (fun a => ⟨a.1, a.2.1, a.2.2.1, a.2.2.2⟩) (fun _ => rfl)).to (fun _ => rfl)
def good75 (xs : List (GSession)) : Prop := xs.length ≤ 9223372036854775807 ∧ ∀ x ∈ xs, good266 x
theorem ao75 : AO Try.prog 75 1 (fun xs : List (GSession) => [AV.fro 4 (xs.map eSession)]) good75 := ao_slice (by decide) Try.underlying75 (by kernel_rfl) ao266
def good77 (x : GMachine) : Prop := good74 x.pool ∧ good75 x.sessions
theorem ao77 : AO Try.prog 77 4 eMachine good77 := (ao_struct Try.underlying77 (by kernel_rfl) (aos_cons ao74 rfl rfl (aos_one ao75 rfl rfl)) (fun x : GMachine => (x.pool, x.sessions)) (fun a => ⟨a.1, a.2⟩) (fun _ => rfl)).to (fun _ => rfl)
end Go.Proofs.Ytkecenijjdpfdaa.AL
