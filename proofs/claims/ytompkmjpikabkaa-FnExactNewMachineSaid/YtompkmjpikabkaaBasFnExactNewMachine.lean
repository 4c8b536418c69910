/-
  Words for walks that are written by hand: endings of integers and bools, what a call below leaves readable; and the plain functions that the entries' laws compute. No conditions beyond each lemma's own.
-/
import Derived.Test.YtompkmjpikabkaaVFnExactNewMachine
import Derived.WalkKit
import Derived.Below
namespace Go.Proofs.YtompkmjpikabkaaW.PrintWords
open Go.RowKit
set_option linter.unusedSimpArgs false
set_option linter.unusedVariables false
theorem ret_i64 {a b : Int} (h : a = b) : Ending.returned (.int .i64 a) = .returned (.int .i64 b) := by rw [h]
theorem ret_bool {a b : Bool} (h : a = b) : Ending.returned (.bool a) = .returned (.bool b) := by rw [h]
/-- Behind a call that leaves what is there as it was, all old cells and marks read as before. -/
theorem bcell {W w1 : World} (hb : Below W.heap.size W w1) : (∀ b o, b < W.heap.size → w1.cell? ⟨b, o, none⟩ = W.cell? ⟨b, o, none⟩) ∧ (∀ b o, b < W.heap.size → w1.frozen? ⟨b, o, none⟩ = W.frozen? ⟨b, o, none⟩) :=
  ⟨fun b o h => hb.cell (p := ⟨b, o, none⟩) h, fun b o h => hb.frozen (p := ⟨b, o, none⟩) h⟩
/-- Is it a word? -/
def okW (n : Int) : Bool := decide (0 ≤ n) && decide (n ≤ 65535)
/-- The place of the first that is no word; -1 if there is none. -/
def noW : List Int → Int → Int
  | [], _ => -1
  | x :: xs, i => if okW x = true then noW xs (i + 1) else i
theorem noW_neg : ∀ (l : List Int) (i : Int), 0 ≤ i → (decide (noW l i ≥ 0) = !l.all okW)
  | [], i, h => by simp [noW]
  | x :: xs, i, h => by
    by_cases hb : okW x = true
    · simp only [noW, List.all_cons, if_pos hb, hb, Bool.true_and]
      exact noW_neg xs (i + 1) (by omega)
    · rw [Bool.not_eq_true] at hb
      simp [noW, List.all_cons, hb, h]
/-- What an operation's fault is. -/
def opF (kd vol a v : Int) : Int :=
  if 1 ≤ kd ∧ kd ≤ 6 then
    (if ¬ (1 ≤ vol ∧ vol ≤ 99) ∨ ((2 ≤ kd ∧ kd ≤ 4) ∧ ¬ (0 ≤ a ∧ a ≤ 15)) ∨ (kd = 1 ∧ ¬ (1 ≤ v ∧ v ≤ 16)) ∨ (kd = 2 ∧ ¬ (0 ≤ v ∧ v ≤ 255)) ∨ (kd = 5 ∧ ¬ (1 ≤ v ∧ v ≤ 99)) then 3
     else if (¬ (2 ≤ kd ∧ kd ≤ 4) ∧ a ≠ 0) ∨ ((kd = 3 ∨ kd = 4 ∨ kd = 6) ∧ v ≠ 0) then 1 else 0)
  else 1
/-- What an entry's fault is. -/
def entF (c s kd vol a v : Int) : Int := if (1 ≤ c ∧ c ≤ 99) ∧ 1 ≤ s ∧ s ≤ 999 then opF kd vol a v else 3
end Go.Proofs.YtompkmjpikabkaaW.PrintWords
