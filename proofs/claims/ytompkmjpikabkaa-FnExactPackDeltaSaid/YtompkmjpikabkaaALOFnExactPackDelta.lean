/-
  FnExactPackDelta: its arguments as data.
-/
import Derived.Test.YtompkmjpikabkaaALB1
namespace Go.Proofs.Ytompkmjpikabkaa.AL
open Go Go.Proofs.Ytompkmjpikabkaa
set_option linter.unusedVariables false
set_option linter.unusedSimpArgs false
theorem ao2 : AO Try.prog 2 1 (fun n : Int => [AV.int .i64 n]) (fun n : Int => (Lit.int .i64 n).wf = true) := ao_int Try.underlying2 (by kernel_rfl)
def good135 (x : GVol) : Prop := (fun n : Int => (Lit.int .i64 n).wf = true) x.id ∧ (fun n : Int => (Lit.int .i64 n).wf = true) x.quota ∧ (fun n : Int => (Lit.int .i64 n).wf = true) x.root
theorem ao135 : AO Try.prog 135 3 eVol good135 := (ao_struct Try.underlying135 (by kernel_rfl) (aos_cons ao2 rfl rfl (aos_cons ao2 rfl rfl (aos_one ao2 rfl rfl))) (fun x : GVol => (x.id, x.quota, x.root)) (fun a => ⟨a.1, a.2.1, a.2.2⟩) (fun _ => rfl)).to (fun _ => rfl)
def good22 (xs : List (GVol)) : Prop := xs.length ≤ 9223372036854775807 ∧ ∀ x ∈ xs, good135 x
theorem ao22 : AO Try.prog 22 1 (fun xs : List (GVol) => [AV.fro 3 (xs.map eVol)]) good22 := ao_slice (by decide) Try.underlying22 (by kernel_rfl) ao135
theorem ao4 : AO Try.prog 4 1 (fun b : Bool => [AV.bool b]) (fun _ : Bool => True) := ao_bool Try.underlying4 (by kernel_rfl)
def good137 (x : GStep) : Prop := (fun _ : Bool => True) x.has ∧ (fun n : Int => (Lit.int .i64 n).wf = true) x.vol ∧ (fun n : Int => (Lit.int .i64 n).wf = true) x.pos ∧ (fun n : Int => (Lit.int .i64 n).wf = true) x.val
theorem ao137 : AO Try.prog 137 4 eStep good137 := (ao_struct Try.underlying137 (by kernel_rfl) (aos_cons ao4 rfl rfl (aos_cons ao2 rfl rfl (aos_cons ao2 rfl rfl (aos_one ao2 rfl rfl)))) (fun x : GStep => (x.has, x.vol, x.pos, x.val)) (fun a => ⟨a.1, a.2.1, a.2.2.1, a.2.2.2⟩) (fun _ => rfl)).to (fun _ => rfl)
def good23 (xs : List (GStep)) : Prop := xs.length ≤ 9223372036854775807 ∧ ∀ x ∈ xs, good137 x
theorem ao23 : AO Try.prog 23 1 (fun xs : List (GStep) => [AV.fro 4 (xs.map eStep)]) good23 := ao_slice (by decide) Try.underlying23 (by kernel_rfl) ao137
def good25 (x : GDelta) : Prop := (fun n : Int => (Lit.int .i64 n).wf = true) x.fr ∧ (fun n : Int => (Lit.int .i64 n).wf = true) x.to ∧ good22 x.vols ∧ good23 x.steps
theorem ao25 : AO Try.prog 25 4 eDelta good25 := (ao_struct Try.underlying25 (by kernel_rfl) (aos_cons ao2 rfl rfl (aos_cons ao2 rfl rfl (aos_cons ao22 rfl rfl (aos_one ao23 rfl rfl)))) (fun x : GDelta => (x.fr, x.to, x.vols, x.steps)) (fun a => ⟨a.1, a.2.1, a.2.2.1, a.2.2.2⟩) (fun _ => rfl)).to (fun _ => rfl)
end Go.Proofs.Ytompkmjpikabkaa.AL
