/-
  The openers of the argument types of FnExactSameMachines, and what is known of what was opened; no conditions.
-/
import Derived.Test.YtompkmjpikabkaaPFnExactSameMachinesx0
import Derived.Test.YtompkmjpikabkaaOpnFnExactSameMachines
namespace Go.Proofs.Ytompkmjpikabkaa.PFnExactSameMachines
open Go.RowKit Go.Proofs.Ytompkmjpikabkaa.Opn Go.Proofs.YtompkmjpikabkaaW.PrintWords
structure S44 where
  f0 : List (S206)
  f1 : List (S209)
def k44 : Kd S44 := Kd.iso (Kd.pair (Kd.slice 206 k206) (Kd.slice 209 k209)) (fun x : S44 => (x.f0, x.f1))
theorem k44_open {w : World} {x : S44} {cs : List Value} (h : k44.K w x cs) : ∃ A0 c0 A1 c1, cs = [.slice A0 x.f0.length c0, .slice A1 x.f1.length c1] ∧ x.f0.length ≤ c0 ∧ Kd.C k206 w A0 x.f0.length x.f0 ∧ x.f1.length ≤ c1 ∧ Kd.C k209 w A1 x.f1.length x.f1 := by
  obtain ⟨_, _, rfl, ⟨A0, c0, rfl, l0, g0⟩, ⟨A1, c1, rfl, l1, g1⟩⟩ := h
  exact ⟨A0, c0, A1, c1, rfl, l0, g0, l1, g1⟩
structure S46 where
  f0 : S44
  f1 : List (S135)
def k46 : Kd S46 := Kd.iso (Kd.pair k44 (Kd.slice 135 k135)) (fun x : S46 => (x.f0, x.f1))
theorem k46_open {w : World} {x : S46} {cs : List Value} (h : k46.K w x cs) : ∃ A0 c0 A1 c1 A2 c2, cs = [.slice A0 x.f0.f0.length c0, .slice A1 x.f0.f1.length c1, .slice A2 x.f1.length c2] ∧ x.f0.f0.length ≤ c0 ∧ Kd.C k206 w A0 x.f0.f0.length x.f0.f0 ∧ x.f0.f1.length ≤ c1 ∧ Kd.C k209 w A1 x.f0.f1.length x.f0.f1 ∧ x.f1.length ≤ c2 ∧ Kd.C k135 w A2 x.f1.length x.f1 := by
  obtain ⟨_, _, rfl, s0, ⟨A2, c2, rfl, l2, g2⟩⟩ := h
  obtain ⟨A0, c0, A1, c1, rfl, l0, g0, l1, g1⟩ := k44_open s0
  exact ⟨A0, c0, A1, c1, A2, c2, rfl, l0, g0, l1, g1, l2, g2⟩
structure S49 where
  f0 : S46
  f1 : List (S149)
def k49 : Kd S49 := Kd.iso (Kd.pair k46 (Kd.slice 149 k149)) (fun x : S49 => (x.f0, x.f1))
theorem k49_open {w : World} {x : S49} {cs : List Value} (h : k49.K w x cs) : ∃ A0 c0 A1 c1 A2 c2 A3 c3, cs = [.slice A0 x.f0.f0.f0.length c0, .slice A1 x.f0.f0.f1.length c1, .slice A2 x.f0.f1.length c2, .slice A3 x.f1.length c3] ∧ x.f0.f0.f0.length ≤ c0 ∧ Kd.C k206 w A0 x.f0.f0.f0.length x.f0.f0.f0 ∧ x.f0.f0.f1.length ≤ c1 ∧ Kd.C k209 w A1 x.f0.f0.f1.length x.f0.f0.f1 ∧ x.f0.f1.length ≤ c2 ∧ Kd.C k135 w A2 x.f0.f1.length x.f0.f1 ∧ x.f1.length ≤ c3 ∧ Kd.C k149 w A3 x.f1.length x.f1 := by
  obtain ⟨_, _, rfl, s0, ⟨A3, c3, rfl, l3, g3⟩⟩ := h
  obtain ⟨A0, c0, A1, c1, A2, c2, rfl, l0, g0, l1, g1, l2, g2⟩ := k46_open s0
  exact ⟨A0, c0, A1, c1, A2, c2, A3, c3, rfl, l0, g0, l1, g1, l2, g2, l3, g3⟩
theorem opn2 : Opn Try.prog 2 (Kd.int .i64) (fun n => (Lit.int .i64 n).wf = true) := opn_int Try.underlying2 (by kernel_rfl)
theorem opn4 : Opn Try.prog 4 Kd.bool (fun _ => True) := opn_bool Try.underlying4 (by kernel_rfl)
def good27 (xs : List (Int)) : Prop := xs.length ≤ 9223372036854775807 ∧ ∀ x ∈ xs, (fun n => (Lit.int .i64 n).wf = true) x
theorem opn27 : Opn Try.prog 27 (Kd.slice 2 (Kd.int .i64)) good27 := opn_slice Try.underlying27 (by kernel_rfl) opn2
def good206 (x : S206) : Prop := (Lit.int .i64 x.f0).wf = true ∧ True ∧ good27 x.f2
theorem opn206 : Opn Try.prog 206 k206 good206 := opn_struct Try.underlying206 (by kernel_rfl) (fs_cons opn2 rfl rfl (fs_cons opn4 rfl rfl (fs_one opn27 rfl rfl))) (fun x : S206 => (x.f0, x.f1, x.f2)) (fun a => ⟨a.1, a.2.1, a.2.2⟩) (fun _ => rfl)
def good41 (xs : List (S206)) : Prop := xs.length ≤ 9223372036854775807 ∧ ∀ x ∈ xs, good206 x
theorem opn41 : Opn Try.prog 41 (Kd.slice 206 k206) good41 := opn_slice Try.underlying41 (by kernel_rfl) opn206
def good209 (x : S209) : Prop := (Lit.int .i64 x.f0).wf = true ∧ (Lit.int .i64 x.f1).wf = true
theorem opn209 : Opn Try.prog 209 k209 good209 := opn_struct Try.underlying209 (by kernel_rfl) (fs_cons opn2 rfl rfl (fs_one opn2 rfl rfl)) (fun x : S209 => (x.f0, x.f1)) (fun a => ⟨a.1, a.2⟩) (fun _ => rfl)
def good42 (xs : List (S209)) : Prop := xs.length ≤ 9223372036854775807 ∧ ∀ x ∈ xs, good209 x
theorem opn42 : Opn Try.prog 42 (Kd.slice 209 k209) good42 := opn_slice Try.underlying42 (by kernel_rfl) opn209
def good44 (x : S44) : Prop := good41 x.f0 ∧ good42 x.f1
theorem opn44 : Opn Try.prog 44 k44 good44 := opn_struct Try.underlying44 (by kernel_rfl) (fs_cons opn41 rfl rfl (fs_one opn42 rfl rfl)) (fun x : S44 => (x.f0, x.f1)) (fun a => ⟨a.1, a.2⟩) (fun _ => rfl)
def good135 (x : S135) : Prop := (Lit.int .i64 x.f0).wf = true ∧ (Lit.int .i64 x.f1).wf = true ∧ (Lit.int .i64 x.f2).wf = true
theorem opn135 : Opn Try.prog 135 k135 good135 := opn_struct Try.underlying135 (by kernel_rfl) (fs_cons opn2 rfl rfl (fs_cons opn2 rfl rfl (fs_one opn2 rfl rfl))) (fun x : S135 => (x.f0, x.f1, x.f2)) (fun a => ⟨a.1, a.2.1, a.2.2⟩) (fun _ => rfl)
def good22 (xs : List (S135)) : Prop := xs.length ≤ 9223372036854775807 ∧ ∀ x ∈ xs, good135 x
theorem opn22 : Opn Try.prog 22 (Kd.slice 135 k135) good22 := opn_slice Try.underlying22 (by kernel_rfl) opn135
def good46 (x : S46) : Prop := good44 x.f0 ∧ good22 x.f1
theorem opn46 : Opn Try.prog 46 k46 good46 := opn_struct Try.underlying46 (by kernel_rfl) (fs_cons opn44 rfl rfl (fs_one opn22 rfl rfl)) (fun x : S46 => (x.f0, x.f1)) (fun a => ⟨a.1, a.2⟩) (fun _ => rfl)
def good149 (x : S149) : Prop := (Lit.int .i64 x.f0).wf = true ∧ (Lit.int .i64 x.f1).wf = true ∧ (Lit.int .i64 x.f2).wf = true ∧ (Lit.int .i64 x.f3).wf = true
theorem opn149 : Opn Try.prog 149 k149 good149 := opn_struct Try.underlying149 (by kernel_rfl) (fs_cons opn2 rfl rfl (fs_cons opn2 rfl rfl (fs_cons opn2 rfl rfl (fs_one opn2 rfl rfl)))) (fun x : S149 => (x.f0, x.f1, x.f2, x.f3)) (fun a => ⟨a.1, a.2.1, a.2.2.1, a.2.2.2⟩) (fun _ => rfl)
def good47 (xs : List (S149)) : Prop := xs.length ≤ 9223372036854775807 ∧ ∀ x ∈ xs, good149 x
theorem opn47 : Opn Try.prog 47 (Kd.slice 149 k149) good47 := opn_slice Try.underlying47 (by kernel_rfl) opn149
def good49 (x : S49) : Prop := good46 x.f0 ∧ good47 x.f1
theorem opn49 : Opn Try.prog 49 k49 good49 := opn_struct Try.underlying49 (by kernel_rfl) (fs_cons opn46 rfl rfl (fs_one opn47 rfl rfl)) (fun x : S49 => (x.f0, x.f1)) (fun a => ⟨a.1, a.2⟩) (fun _ => rfl)
end Go.Proofs.Ytompkmjpikabkaa.PFnExactSameMachines
