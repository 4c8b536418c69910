/-
  The openers of the argument types of FnExactPackEntry, and what is known of what was opened; no conditions.
-/
import Derived.Test.YtkibnkfmcmbhnaaPFnExactPackEntryx0
import Derived.Test.YtkibnkfmcmbhnaaOpn
namespace Go.Proofs.Ytkibnkfmcmbhnaa.PFnExactPackEntry
open Go.RowKit Go.Proofs.Ytkibnkfmcmbhnaa.Opn Go.Proofs.YtkibnkfmcmbhnaaW.PrintWords
structure S28 where
  f0 : Int
  f1 : Int
  f2 : Int
  f3 : Int
def k28 : Kd S28 := Kd.iso (Kd.pair (Kd.int .i64) (Kd.pair (Kd.int .i64) (Kd.pair (Kd.int .i64) (Kd.int .i64)))) (fun x : S28 => (x.f0, x.f1, x.f2, x.f3))
theorem k28_open {w : World} {x : S28} {cs : List Value} (h : k28.K w x cs) : cs = [.int .i64 x.f0, .int .i64 x.f1, .int .i64 x.f2, .int .i64 x.f3] := by
  obtain ⟨_, _, rfl, rfl, ⟨_, _, rfl, rfl, ⟨_, _, rfl, rfl, rfl⟩⟩⟩ := h
  exact rfl
structure S30 where
  f0 : Int
  f1 : Int
  f2 : S28
def k30 : Kd S30 := Kd.iso (Kd.pair (Kd.int .i64) (Kd.pair (Kd.int .i64) k28)) (fun x : S30 => (x.f0, x.f1, x.f2))
theorem k30_open {w : World} {x : S30} {cs : List Value} (h : k30.K w x cs) : cs = [.int .i64 x.f0, .int .i64 x.f1, .int .i64 x.f2.f0, .int .i64 x.f2.f1, .int .i64 x.f2.f2, .int .i64 x.f2.f3] := by
  obtain ⟨_, _, rfl, rfl, ⟨_, _, rfl, rfl, s2⟩⟩ := h
  obtain rfl := k28_open s2
  exact rfl
theorem opn2 : Opn Try.prog 2 (Kd.int .i64) (fun n => (Lit.int .i64 n).wf = true) := opn_int Try.underlying2 (by kernel_rfl)
def good28 (x : S28) : Prop := (Lit.int .i64 x.f0).wf = true ∧ (Lit.int .i64 x.f1).wf = true ∧ (Lit.int .i64 x.f2).wf = true ∧ (Lit.int .i64 x.f3).wf = true
theorem opn28 : Opn Try.prog 28 k28 good28 := opn_struct Try.underlying28 (by kernel_rfl) (fs_cons opn2 rfl rfl (fs_cons opn2 rfl rfl (fs_cons opn2 rfl rfl (fs_one opn2 rfl rfl)))) (fun x : S28 => (x.f0, x.f1, x.f2, x.f3)) (fun a => ⟨a.1, a.2.1, a.2.2.1, a.2.2.2⟩) (fun _ => rfl)
def good30 (x : S30) : Prop := (Lit.int .i64 x.f0).wf = true ∧ (Lit.int .i64 x.f1).wf = true ∧ good28 x.f2
theorem opn30 : Opn Try.prog 30 k30 good30 := opn_struct Try.underlying30 (by kernel_rfl) (fs_cons opn2 rfl rfl (fs_cons opn2 rfl rfl (fs_one opn28 rfl rfl))) (fun x : S30 => (x.f0, x.f1, x.f2)) (fun a => ⟨a.1, a.2.1, a.2.2⟩) (fun _ => rfl)
end Go.Proofs.Ytkibnkfmcmbhnaa.PFnExactPackEntry
