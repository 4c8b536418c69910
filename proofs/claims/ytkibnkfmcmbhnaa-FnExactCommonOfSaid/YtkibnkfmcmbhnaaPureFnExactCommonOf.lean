/-
  For all arguments the program's CommonOf returns what the reference's returns; no conditions.
-/
import Derived.Test.YtkibnkfmcmbhnaaPFnExactCommonOfx3
import Derived.Test.YtkibnkfmcmbhnaaPW
import Derived.Test.YtkibnkfmcmbhnaaGoodFnExactCommonOf
namespace Go.Proofs.Ytkibnkfmcmbhnaa.Pure
open Go.RowKit Go.Proofs.Ytkibnkfmcmbhnaa.PFnExactCommonOf Go.Proofs.YtkibnkfmcmbhnaaW.PrintWords Go.Proofs.YtkibnkfmcmbhnaaW.PrintLast Go.Proofs.YtkibnkfmcmbhnaaW.PrintMore Go.Proofs.Ytkibnkfmcmbhnaa.PW

set_option linter.unusedSimpArgs false
set_option linter.unusedVariables false
/-- '==' of entries, as a Bool. -/
def eqE (x y : S34) : Bool := ((x.f0) == (y.f0) && ((x.f1) == (y.f1) && (((x.f2.f0) == (y.f2.f0) && ((x.f2.f1) == (y.f2.f1) && ((x.f2.f2) == (y.f2.f2) && ((x.f2.f3) == (y.f2.f3))))))))

def toE (x : S30) : S34 := ⟨x.f0, x.f1, ⟨x.f2.f0, x.f2.f1, x.f2.f2, x.f2.f3⟩⟩
theorem toEntryS_ev (xs : List S30) (hn : xs.length ≤ 1048576) : Ev (fun k => laws_toEntryS.f k xs) (xs.map toE) := by
  have h := ev_conv laws_toEntryS.l0 toE z30 z34 xs (by omega)
    (fun k out i h0 h1 h2 => by simp only [laws_toEntryS.l0, laws_toEntry.f, laws_toOp.f, Option.bind_some, if_pos h0, if_pos h1, if_pos h2]; rfl)
    (fun k out i h1 => by simp only [laws_toEntryS.l0, if_neg h1])
  refine Ev.congr (fun k => ?_) h
  unfold laws_toEntryS.f
  rw [if_pos (by omega), if_pos (by simp; omega)]
  simp
theorem eqEntryS_ev (xs : List S34) (hn : xs.length ≤ 1048576) : Ev (fun k => laws_eqEntryS.f k xs xs) true := by
  have h := ev_same laws_eqEntryS.l0 xs (by omega)
    (fun i h0 h1 => ⟨0, fun k _ => by simp [laws_eqEntryS.l0, laws_eqEntry.f, laws_eqOp.f, if_pos h0, if_pos h1]⟩)
    (fun k i h1 => by simp only [laws_eqEntryS.l0, if_neg h1])
  refine Ev.congr (fun k => ?_) h
  unfold laws_eqEntryS.f
  rw [if_pos rfl]

theorem spec_CommonOf_ev (xs ys : List S34) (hn : xs.length ≤ 1048576) : Ev (fun k => spec_CommonOf.f k xs ys) (cm eqE xs ys : Int) :=
  ev_common eqE z34 xs ys (fun k i => spec_CommonOf.l0 k xs ys i) (by omega)
    (fun k i h0 h1 h2 hq => by simp only [spec_CommonOf.l0, if_pos h0, if_pos h1, if_pos h2]; exact if_pos hq)
    (fun k i h0 h1 h2 hq => by simp only [spec_CommonOf.l0, if_pos h0, if_pos h1, if_pos h2]; exact if_neg hq)
    (fun k i h0 h => by
      simp only [spec_CommonOf.l0, if_pos h0]
      by_cases h1 : i < (xs.length : Int)
      · rw [if_pos h1, if_neg (fun h2 => h ⟨h1, h2⟩)]
      · rw [if_neg h1])
theorem mn_lt (i a b : Int) : i < mn a b ↔ i < a ∧ i < b := by unfold mn; split <;> omega
theorem impl_common_ev (xs ys : List S34) (hn : xs.length ≤ 1048576) : Ev (fun k => impl_common.f k xs ys) (cm eqE xs ys : Int) :=
  ev_common eqE z34 xs ys (fun k i => impl_common.l0 k xs ys i) (by omega)
    (fun k i h0 h1 h2 hq => by simp only [impl_common.l0, if_pos ((mn_lt ..).2 ⟨h1, h2⟩), if_pos h0, if_pos h1, if_pos h2]; exact if_pos hq)
    (fun k i h0 h1 h2 hq => by simp only [impl_common.l0, if_pos ((mn_lt ..).2 ⟨h1, h2⟩), if_pos h0, if_pos h1, if_pos h2]; exact if_neg hq)
    (fun k i h0 h => by simp only [impl_common.l0, if_neg (fun h' => h ((mn_lt ..).1 h'))])

theorem sz_eq (l : List S30) (n : Int) (h0 : 0 ≤ n) (h1 : n ≤ 1048576) (hl : l.length ≤ 9223372036854775807) : laws_szEntryS.f l n = some (if n - l.length < 0 then -1 else n - l.length) := by
  unfold laws_szEntryS.f
  rw [wrap_id (by omega) (by omega)]
  split <;> simp_all

theorem FnExactCommonOf : ∀ (x0 : List (S30)) (x1 : List (S30)), good37 x0 → good37 x1 → ∃ k, laws_FnExactCommonOf.f k x0 x1 = some true := by
  intro x0 x1 g0 g1
  refine Ev.rounds ?_
  unfold laws_FnExactCommonOf.f
  refine Ev.bind (ev_eq 0 fun _ _ => sz_eq x0 1048576 (by omega) (by omega) g0.1) ?_
  by_cases h0 : (1048576 : Int) - x0.length < 0
  · simp only [if_pos h0]
    simp only [show (-1 : Int) < 0 from by decide, if_true]
    exact Ev.now true
  simp only [if_neg h0]
  refine Ev.bind (ev_eq 0 fun _ _ => sz_eq x1 _ (by omega) (by omega) g1.1) ?_
  by_cases h1 : (1048576 : Int) - x0.length - x1.length < 0
  · simp only [if_pos h1]
    simp only [show (-1 : Int) < 0 from by decide, if_true]
    exact Ev.now true
  simp only [if_neg h1]
  have e0 := toEntryS_ev x0 (by omega)
  have e1 := toEntryS_ev x1 (by omega)
  refine Ev.bind e0 (Ev.bind e1 (Ev.bind (spec_CommonOf_ev _ _ (by simp; omega)) (Ev.bind e0 (Ev.bind e1 (Ev.bind (a := (cm eqE (x0.map toE) (x1.map toE) : Int)) ?_ ?_)))))
  · unfold impl_CommonOf.f
    exact Ev.bind (impl_common_ev _ _ (by simp; omega)) (Ev.now _)
  · simp only [if_true]
    refine Ev.bind e0 (Ev.bind (eqEntryS_ev _ (by simp; omega)) ?_)
    simp only [if_true]
    refine Ev.bind e1 (Ev.bind (eqEntryS_ev _ (by simp; omega)) ?_)
    simp only [if_true]
    exact Ev.now _

end Go.Proofs.Ytkibnkfmcmbhnaa.Pure
