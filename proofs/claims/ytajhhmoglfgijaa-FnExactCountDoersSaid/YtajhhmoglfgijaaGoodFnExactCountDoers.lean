/-
  The openers of the argument types of FnExactCountDoers, and what is known of what was opened; no conditions.
-/
import Derived.Test.YtajhhmoglfgijaaPFnExactCountDoersx0
import Derived.Test.YtajhhmoglfgijaaOpnFnExactCountDoers
namespace Go.Proofs.Ytajhhmoglfgijaa.PFnExactCountDoers
open Go.RowKit Go.Proofs.Ytajhhmoglfgijaa.Opn Go.Proofs.YtajhhmoglfgijaaW.PrintWords
structure S27 where
  f0 : Int
  f1 : Int
  f2 : Int
  f3 : Bool
  f4 : Int
  f5 : List (S99)
  f6 : Int
  f7 : List (Int)
  f8 : List (Bool)
  f9 : List (S88)
def k27 : Kd S27 := Kd.iso (Kd.pair (Kd.int .i64) (Kd.pair (Kd.int .i64) (Kd.pair (Kd.int .i64) (Kd.pair Kd.bool (Kd.pair (Kd.int .i64) (Kd.pair (Kd.slice 99 k99) (Kd.pair (Kd.int .i64) (Kd.pair (Kd.slice 2 (Kd.int .i64)) (Kd.pair (Kd.slice 4 Kd.bool) (Kd.slice 88 k88)))))))))) (fun x : S27 => (x.f0, x.f1, x.f2, x.f3, x.f4, x.f5, x.f6, x.f7, x.f8, x.f9))
theorem k27_open {w : World} {x : S27} {cs : List Value} (h : k27.K w x cs) : ∃ A5 c5 A7 c7 A8 c8 A9 c9, cs = [.int .i64 x.f0, .int .i64 x.f1, .int .i64 x.f2, .bool x.f3, .int .i64 x.f4, .slice A5 x.f5.length c5, .int .i64 x.f6, .slice A7 x.f7.length c7, .slice A8 x.f8.length c8, .slice A9 x.f9.length c9] ∧ x.f5.length ≤ c5 ∧ Kd.C k99 w A5 x.f5.length x.f5 ∧ x.f7.length ≤ c7 ∧ Kd.C (Kd.int .i64) w A7 x.f7.length x.f7 ∧ x.f8.length ≤ c8 ∧ Kd.C Kd.bool w A8 x.f8.length x.f8 ∧ x.f9.length ≤ c9 ∧ Kd.C k88 w A9 x.f9.length x.f9 := by
  obtain ⟨_, _, rfl, rfl, ⟨_, _, rfl, rfl, ⟨_, _, rfl, rfl, ⟨_, _, rfl, rfl, ⟨_, _, rfl, rfl, ⟨_, _, rfl, ⟨A5, c5, rfl, l5, g5⟩, ⟨_, _, rfl, rfl, ⟨_, _, rfl, ⟨A7, c7, rfl, l7, g7⟩, ⟨_, _, rfl, ⟨A8, c8, rfl, l8, g8⟩, ⟨A9, c9, rfl, l9, g9⟩⟩⟩⟩⟩⟩⟩⟩⟩⟩ := h
  exact ⟨A5, c5, A7, c7, A8, c8, A9, c9, rfl, l5, g5, l7, g7, l8, g8, l9, g9⟩
theorem opn2 : Opn Try.prog 2 (Kd.int .i64) (fun n => (Lit.int .i64 n).wf = true) := opn_int Try.underlying2 (by kernel_rfl)
theorem opn4 : Opn Try.prog 4 Kd.bool (fun _ => True) := opn_bool Try.underlying4 (by kernel_rfl)
def good97 (x : S97) : Prop := (Lit.int .i64 x.f0).wf = true ∧ (Lit.int .i64 x.f1).wf = true ∧ (Lit.int .i64 x.f2).wf = true ∧ (Lit.int .i64 x.f3).wf = true
theorem opn97 : Opn Try.prog 97 k97 good97 := opn_struct Try.underlying97 (by kernel_rfl) (fs_cons opn2 rfl rfl (fs_cons opn2 rfl rfl (fs_cons opn2 rfl rfl (fs_one opn2 rfl rfl)))) (fun x : S97 => (x.f0, x.f1, x.f2, x.f3)) (fun a => ⟨a.1, a.2.1, a.2.2.1, a.2.2.2⟩) (fun _ => rfl)
def good99 (x : S99) : Prop := (Lit.int .i64 x.f0).wf = true ∧ (Lit.int .i64 x.f1).wf = true ∧ good97 x.f2
theorem opn99 : Opn Try.prog 99 k99 good99 := opn_struct Try.underlying99 (by kernel_rfl) (fs_cons opn2 rfl rfl (fs_cons opn2 rfl rfl (fs_one opn97 rfl rfl))) (fun x : S99 => (x.f0, x.f1, x.f2)) (fun a => ⟨a.1, a.2.1, a.2.2⟩) (fun _ => rfl)
def good22 (xs : List (S99)) : Prop := xs.length ≤ 9223372036854775807 ∧ ∀ x ∈ xs, good99 x
theorem opn22 : Opn Try.prog 22 (Kd.slice 99 k99) good22 := opn_slice Try.underlying22 (by kernel_rfl) opn99
def good23 (xs : List (Int)) : Prop := xs.length ≤ 9223372036854775807 ∧ ∀ x ∈ xs, (fun n => (Lit.int .i64 n).wf = true) x
theorem opn23 : Opn Try.prog 23 (Kd.slice 2 (Kd.int .i64)) good23 := opn_slice Try.underlying23 (by kernel_rfl) opn2
def good24 (xs : List (Bool)) : Prop := xs.length ≤ 9223372036854775807 ∧ ∀ x ∈ xs, (fun _ => True) x
theorem opn24 : Opn Try.prog 24 (Kd.slice 4 Kd.bool) good24 := opn_slice Try.underlying24 (by kernel_rfl) opn4
def good88 (x : S88) : Prop := True ∧ (Lit.int .i64 x.f1).wf = true ∧ good22 x.f2 ∧ (Lit.int .i64 x.f3).wf = true
theorem opn88 : Opn Try.prog 88 k88 good88 := opn_struct Try.underlying88 (by kernel_rfl) (fs_cons opn4 rfl rfl (fs_cons opn2 rfl rfl (fs_cons opn22 rfl rfl (fs_one opn2 rfl rfl)))) (fun x : S88 => (x.f0, x.f1, x.f2, x.f3)) (fun a => ⟨a.1, a.2.1, a.2.2.1, a.2.2.2⟩) (fun _ => rfl)
def good25 (xs : List (S88)) : Prop := xs.length ≤ 9223372036854775807 ∧ ∀ x ∈ xs, good88 x
theorem opn25 : Opn Try.prog 25 (Kd.slice 88 k88) good25 := opn_slice Try.underlying25 (by kernel_rfl) opn88
def good27 (x : S27) : Prop := (Lit.int .i64 x.f0).wf = true ∧ (Lit.int .i64 x.f1).wf = true ∧ (Lit.int .i64 x.f2).wf = true ∧ True ∧ (Lit.int .i64 x.f4).wf = true ∧ good22 x.f5 ∧ (Lit.int .i64 x.f6).wf = true ∧ good23 x.f7 ∧ good24 x.f8 ∧ good25 x.f9
theorem opn27 : Opn Try.prog 27 k27 good27 := opn_struct Try.underlying27 (by kernel_rfl) (fs_cons opn2 rfl rfl (fs_cons opn2 rfl rfl (fs_cons opn2 rfl rfl (fs_cons opn4 rfl rfl (fs_cons opn2 rfl rfl (fs_cons opn22 rfl rfl (fs_cons opn2 rfl rfl (fs_cons opn23 rfl rfl (fs_cons opn24 rfl rfl (fs_one opn25 rfl rfl)))))))))) (fun x : S27 => (x.f0, x.f1, x.f2, x.f3, x.f4, x.f5, x.f6, x.f7, x.f8, x.f9)) (fun a => ⟨a.1, a.2.1, a.2.2.1, a.2.2.2.1, a.2.2.2.2.1, a.2.2.2.2.2.1, a.2.2.2.2.2.2.1, a.2.2.2.2.2.2.2.1, a.2.2.2.2.2.2.2.2.1, a.2.2.2.2.2.2.2.2.2⟩) (fun _ => rfl)
end Go.Proofs.Ytajhhmoglfgijaa.PFnExactCountDoers
