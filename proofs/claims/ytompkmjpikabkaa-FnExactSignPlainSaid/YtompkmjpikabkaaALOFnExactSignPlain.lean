/-
  FnExactSignPlain: its arguments as data.
-/
import Derived.Test.YtompkmjpikabkaaALB1
namespace Go.Proofs.Ytompkmjpikabkaa.AL
open Go Go.Proofs.Ytompkmjpikabkaa
set_option linter.unusedVariables false
set_option linter.unusedSimpArgs false
theorem ao2 : AO Try.prog 2 1 (fun n : Int => [AV.int .i64 n]) (fun n : Int => (Lit.int .i64 n).wf = true) := ao_int Try.underlying2 (by kernel_rfl)
def good135 (x : GVol) : Prop := (fun n : Int => (Lit.int .i64 n).wf = true) x.id ∧ (fun n : Int => (Lit.int .i64 n).wf = true) x.quota ∧ (fun n : Int => (Lit.int .i64 n).wf = true) x.root
theorem ao135 : AO Try.prog 135 3 eVol good135 := (ao_struct Try.underlying135 (by kernel_rfl) (aos_cons ao2 rfl rfl (aos_cons ao2 rfl rfl (aos_one ao2 rfl rfl))) (fun x : GVol => (x.id, x.quota, x.root)) (fun a => ⟨a.1, a.2.1, a.2.2⟩) (fun _ => rfl)).to (fun _ => rfl)
def good22 (xs : List (GVol)) : Prop := xs.length ≤ 9223372036854775807 ∧ ∀ x ∈ xs, good135 x
theorem ao22 : AO Try.prog 22 1 (fun xs : List (GVol) => [AV.fro 3 (xs.map eVol)]) good22 := ao_slice (by decide) Try.underlying22 (by kernel_rfl) ao135
def good165 (x : GCell) : Prop := (fun n : Int => (Lit.int .i64 n).wf = true) x.vol ∧ (fun n : Int => (Lit.int .i64 n).wf = true) x.pos ∧ (fun n : Int => (Lit.int .i64 n).wf = true) x.val
theorem ao165 : AO Try.prog 165 3 eCell good165 := (ao_struct Try.underlying165 (by kernel_rfl) (aos_cons ao2 rfl rfl (aos_cons ao2 rfl rfl (aos_one ao2 rfl rfl))) (fun x : GCell => (x.vol, x.pos, x.val)) (fun a => ⟨a.1, a.2.1, a.2.2⟩) (fun _ => rfl)).to (fun _ => rfl)
def good69 (xs : List (GCell)) : Prop := xs.length ≤ 9223372036854775807 ∧ ∀ x ∈ xs, good165 x
theorem ao69 : AO Try.prog 69 1 (fun xs : List (GCell) => [AV.fro 3 (xs.map eCell)]) good69 := ao_slice (by decide) Try.underlying69 (by kernel_rfl) ao165
def good27 (xs : List (Int)) : Prop := xs.length ≤ 9223372036854775807 ∧ ∀ x ∈ xs, (fun n : Int => (Lit.int .i64 n).wf = true) x
theorem ao27 : AO Try.prog 27 1 (fun xs : List (Int) => [AV.fro 1 (xs.map (fun n : Int => [AV.int .i64 n]))]) good27 := ao_slice (by decide) Try.underlying27 (by kernel_rfl) ao2
def good71 (x : GPlain) : Prop := (fun n : Int => (Lit.int .i64 n).wf = true) x.blocks ∧ good22 x.vols ∧ good69 x.cells ∧ good27 x.shares
theorem ao71 : AO Try.prog 71 4 ePlain good71 := (ao_struct Try.underlying71 (by kernel_rfl) (aos_cons ao2 rfl rfl (aos_cons ao22 rfl rfl (aos_cons ao69 rfl rfl (aos_one ao27 rfl rfl)))) (fun x : GPlain => (x.blocks, x.vols, x.cells, x.shares)) (fun a => ⟨a.1, a.2.1, a.2.2.1, a.2.2.2⟩) (fun _ => rfl)).to (fun _ => rfl)
end Go.Proofs.Ytompkmjpikabkaa.AL
