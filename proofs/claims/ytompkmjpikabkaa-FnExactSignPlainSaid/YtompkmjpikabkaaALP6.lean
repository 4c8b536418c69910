/-
  The sign of a plain pool.
-/
import Derived.Test.YtompkmjpikabkaaALP5
namespace Go.Proofs.Ytompkmjpikabkaa.AL
open Go Go.Proofs.Ytompkmjpikabkaa
set_option linter.unusedVariables false
set_option linter.unusedSimpArgs false
set_option maxRecDepth 100000
set_option maxHeartbeats 2000000

/-- A sum's next value. -/
def sumS (h w : Int) : Int := (h * 263 + w % 65521 + 1) % 65521
def sumW (xs : List Int) : Int := xs.foldl sumS 9
theorem sum_in (xs : List Int) : 0 ≤ sumW xs ∧ sumW xs < 65521 := by
  have : ∀ (xs : List Int) (a : Int), 0 ≤ a ∧ a < 65521 → 0 ≤ xs.foldl sumS a ∧ xs.foldl sumS a < 65521 := by
    intro xs
    induction xs with
    | nil => exact fun a h => h
    | cons x xs ih => exact fun a h => ih _ (by unfold sumS; omega)
  exact this xs 9 (by decide)
theorem sum_succ {xs : List Int} {j : Nat} (h : j < xs.length) : sumW (xs.take (j + 1)) = sumS (sumW (xs.take j)) (nth xs j) := by
  rw [nth_eq h, List.take_succ_eq_append_getElem h, sumW, List.foldl_append]; rfl
theorem sum_0 {xs : List Int} : sumW (xs.take 0) = 9 := rfl
theorem sum_n {xs : List Int} : sumW (xs.take xs.length) = sumW xs := by rw [List.take_length]
theorem tm_cases (w : Int) : (w.tmod 65521 = w % 65521 ∨ w.tmod 65521 = w % 65521 - 65521) ∧ (w.tmod 65521 < 0 ∨ w.tmod 65521 = w % 65521) := by
  rcases Int.le_total 0 w with h | h
  · have := Int.tmod_eq_emod_of_nonneg (b := 65521) h
    omega
  · have h1 : w.tmod 65521 = -((-w) % 65521) := by
      rw [← Int.tmod_eq_emod_of_nonneg (by omega : 0 ≤ -w), Int.neg_tmod, Int.neg_neg]
    omega
theorem tm_pos {a : Int} (h : 0 ≤ a) : a.tmod 65521 = a % 65521 := Int.tmod_eq_emod_of_nonneg h
section
variable {h w : Int} (h0 : 0 ≤ h) (h1 : h < 65521)
include h0 h1
theorem step_s : (IntKind.i64.wrap (IntKind.i64.wrap (IntKind.i64.wrap (h * 263) + (IntKind.i64.wrap (w.tmod 65521 + 65521)).tmod 65521) + 1)).tmod 65521 = sumS h w := by
  have ht := tm_cases w
  rw [wrap_in (n := h * 263) (by omega) (by omega), wrap_in (n := w.tmod 65521 + 65521) (by omega) (by omega), tm_pos (a := w.tmod 65521 + 65521) (by omega)]
  rw [wrap_in (n := h * 263 + _) (by omega) (by omega), wrap_in (by omega) (by omega), tm_pos (by omega), sumS]
  omega
theorem step_n (hn : w.tmod 65521 < 0) : (IntKind.i64.wrap (IntKind.i64.wrap (IntKind.i64.wrap (h * 263) + IntKind.i64.wrap (w.tmod 65521 + 65521)) + 1)).tmod 65521 = sumS h w := by
  have ht := tm_cases w
  rw [wrap_in (n := h * 263) (by omega) (by omega), wrap_in (n := w.tmod 65521 + 65521) (by omega) (by omega)]
  rw [wrap_in (n := h * 263 + _) (by omega) (by omega), wrap_in (by omega) (by omega), tm_pos (by omega), sumS]
  omega
theorem step_p (hn : ¬ w.tmod 65521 < 0) : (IntKind.i64.wrap (IntKind.i64.wrap (IntKind.i64.wrap (h * 263) + w.tmod 65521) + 1)).tmod 65521 = sumS h w := by
  have ht := tm_cases w
  rw [wrap_in (n := h * 263) (by omega) (by omega)]
  rw [wrap_in (n := h * 263 + _) (by omega) (by omega), wrap_in (by omega) (by omega), tm_pos (by omega), sumS]
  omega
end
theorem S_SumWords (s : AV) (xs : List Int) (H : Heap) (hs : Sl H s 1 (xs.map eInt)) (hn : xs.length ≤ 1048576) : ADet Try.prog 122 [s] H (.int .i64 (sumW xs)) H := by
  refine adet_run hT (fun _ => false) Try.func122 rfl (by kernel_rfl) (by kernel_rfl) ?_
  simp only [TT, RS, flagOf, gslot, aop, ev, cv, putA, pickAV, if_false, if_true, Nat.reduceAdd, Nat.reduceSub, true_implies, reduceCtorEq, false_implies, implies_true, retAll, retOne, oneOf, cond_true, cond_false, rd, wr, joinT, splice, lay, layRows, abuiltin, abPure, abMem, szv, asNat, loOf, aslice, kindOf, szOf, Nat.reduceLeDiff, Nat.reduceLT, Nat.reduceMul, Nat.reduceEqDiff, ne_eq, Int.reduceLT, Int.reduceLE, Int.reduceEq, Try.ntmps122, Try.results122]
  refine lp_up hT xs.length (fun j => [s, .any, .any, .int .i64 (sumW (xs.take j)), .int .i64 (j : Int), .any, .any, .any, .any, .any, .any, .any, .any, .any, .any, .any, .any, .any, .any, .any, .any, .any, .any, .any]) (fun j => H) (fun _ => True) (by kernel_rfl) trivial ?_ (fun j hj _ => ?_) (fun hV => ?_)
  · exact wk_any rfl (by simp only [anyL_nil, anyL_any, anyL_same, anyL_int, anyL_bool, and_true, true_and]; try exact ⟨rfl, rfl⟩)
  · simp only [TT, RS, flagOf, gslot, aop, ev, cv, putA, pickAV, if_false, if_true, Nat.reduceAdd, Nat.reduceSub, true_implies, reduceCtorEq, false_implies, implies_true, retAll, retOne, oneOf, cond_true, cond_false, rd, wr, joinT, splice, lay, layRows, abuiltin, abPure, abMem, szv, asNat, loOf, aslice, kindOf, szOf, Nat.reduceLeDiff, Nat.reduceLT, Nat.reduceMul, Nat.reduceEqDiff, ne_eq, Int.reduceLT, Int.reduceLE, Int.reduceEq, hs.get, hs.len, hs.szk, List.length_map, getD_nth hj, eInt]
    have hi := sum_in (xs.take j)
    repeat' (first | (with_reducible refine wk_any rfl ?_) | (with_reducible refine wk_same ?_) | ((with_reducible refine wk_drop ?_ ?_); rotate_left; rfl) | (with_reducible refine And.intro ?_ ?_) | (with_reducible intro _) | ((with_reducible first | refine br_of ?_ ?_ | refine guB_ofT ?_ ?_ | refine guB_ofF ?_ ?_ | refine guD_ofT ?_ ?_ | refine guD_ofF ?_ ?_) <;> intro hb_ <;> (try simp only [decide_eq_true_eq, decide_eq_false_iff_not, Bool.not_true, Bool.not_false, Bool.not_eq_eq_eq_not, cond_true, cond_false] at hb_) <;> (try (exact absurd hb_ (by omega))) <;> (try simp only [TT, RS, flagOf, gslot, aop, ev, cv, putA, pickAV, if_false, if_true, Nat.reduceAdd, Nat.reduceSub, true_implies, reduceCtorEq, false_implies, implies_true, retAll, retOne, oneOf, cond_true, cond_false, rd, wr, joinT, splice, lay, layRows, abuiltin, abPure, abMem, szv, asNat, loOf, aslice, kindOf, szOf, Nat.reduceLeDiff, Nat.reduceLT, Nat.reduceMul, Nat.reduceEqDiff, ne_eq, Int.reduceLT, Int.reduceLE, Int.reduceEq, hs.get, hs.len, hs.szk, List.length_map, getD_nth hj, eInt])))
    all_goals first | omega | (simp only [anyL_nil, anyL_any, anyL_same, anyL_int, anyL_bool, and_true, true_and]; rw [wrap_succ (by omega), sum_succ hj]; rw [step_s hi.1 hi.2]; exact ⟨rfl, rfl⟩)
  · simp only [TT, RS, flagOf, gslot, aop, ev, cv, putA, pickAV, if_false, if_true, Nat.reduceAdd, Nat.reduceSub, true_implies, reduceCtorEq, false_implies, implies_true, retAll, retOne, oneOf, cond_true, cond_false, rd, wr, joinT, splice, lay, layRows, abuiltin, abPure, abMem, szv, asNat, loOf, aslice, kindOf, szOf, Nat.reduceLeDiff, Nat.reduceLT, Nat.reduceMul, Nat.reduceEqDiff, ne_eq, Int.reduceLT, Int.reduceLE, Int.reduceEq, hs.len, List.length_map]
    repeat' (first | (with_reducible refine wk_same ?_) | ((with_reducible refine wk_drop ?_ ?_); rotate_left; rfl) | (with_reducible refine And.intro ?_ ?_) | (with_reducible intro _) | ((with_reducible first | refine br_of ?_ ?_ | refine guB_ofT ?_ ?_ | refine guB_ofF ?_ ?_ | refine guD_ofT ?_ ?_ | refine guD_ofF ?_ ?_) <;> intro hb_ <;> (try simp only [decide_eq_true_eq, decide_eq_false_iff_not, Bool.not_true, Bool.not_false, Bool.not_eq_eq_eq_not, cond_true, cond_false] at hb_) <;> (try (exact absurd hb_ (by omega))) <;> (try simp only [TT, RS, flagOf, gslot, aop, ev, cv, putA, pickAV, if_false, if_true, Nat.reduceAdd, Nat.reduceSub, true_implies, reduceCtorEq, false_implies, implies_true, retAll, retOne, oneOf, cond_true, cond_false, rd, wr, joinT, splice, lay, layRows, abuiltin, abPure, abMem, szv, asNat, loOf, aslice, kindOf, szOf, Nat.reduceLeDiff, Nat.reduceLT, Nat.reduceMul, Nat.reduceEqDiff, ne_eq, Int.reduceLT, Int.reduceLE, Int.reduceEq, hs.len, List.length_map])))
    all_goals first | omega | (rw [sum_n]; done)
theorem I_SumWords (s : AV) (xs : List Int) (H : Heap) (hs : Sl H s 1 (xs.map eInt)) (hn : xs.length ≤ 1048576) : ADet Try.prog 127 [s] H (.int .i64 (sumW xs)) H := by
  refine adet_run hT (fun _ => false) Try.func127 rfl (by kernel_rfl) (by kernel_rfl) ?_
  simp only [TT, RS, flagOf, gslot, aop, ev, cv, putA, pickAV, if_false, if_true, Nat.reduceAdd, Nat.reduceSub, true_implies, reduceCtorEq, false_implies, implies_true, retAll, retOne, oneOf, cond_true, cond_false, rd, wr, joinT, splice, lay, layRows, abuiltin, abPure, abMem, szv, asNat, loOf, aslice, kindOf, szOf, Nat.reduceLeDiff, Nat.reduceLT, Nat.reduceMul, Nat.reduceEqDiff, ne_eq, Int.reduceLT, Int.reduceLE, Int.reduceEq, Try.ntmps127, Try.results127, hs.len, List.length_map]
  refine lp_up hT xs.length (fun j => [s, .any, .any, .int .i64 (sumW (xs.take j)), .any, .any, .any, s, .int .i64 (xs.length : Int), .int .i64 (j : Int), .any, .any, .any, .any, .any, .any, .any, .any, .any, .any, .any, .any, .any, .any, .any, .any, .any]) (fun j => H) (fun _ => True) (by kernel_rfl) trivial ?_ (fun j hj _ => ?_) (fun hV => ?_)
  · exact wk_any rfl (by simp only [anyL_nil, anyL_any, anyL_same, anyL_int, anyL_bool, and_true, true_and]; try exact ⟨rfl, rfl⟩)
  · simp only [TT, RS, flagOf, gslot, aop, ev, cv, putA, pickAV, if_false, if_true, Nat.reduceAdd, Nat.reduceSub, true_implies, reduceCtorEq, false_implies, implies_true, retAll, retOne, oneOf, cond_true, cond_false, rd, wr, joinT, splice, lay, layRows, abuiltin, abPure, abMem, szv, asNat, loOf, aslice, kindOf, szOf, Nat.reduceLeDiff, Nat.reduceLT, Nat.reduceMul, Nat.reduceEqDiff, ne_eq, Int.reduceLT, Int.reduceLE, Int.reduceEq, hs.get, hs.len, hs.szk, List.length_map, getD_nth hj, eInt]
    have hi := sum_in (xs.take j)
    repeat' (first | (with_reducible refine wk_any rfl ?_) | (with_reducible refine wk_same ?_) | ((with_reducible refine wk_drop ?_ ?_); rotate_left; rfl) | (with_reducible refine And.intro ?_ ?_) | (with_reducible intro _) | ((with_reducible first | refine br_of ?_ ?_ | refine guB_ofT ?_ ?_ | refine guB_ofF ?_ ?_ | refine guD_ofT ?_ ?_ | refine guD_ofF ?_ ?_) <;> intro hb_ <;> (try simp only [decide_eq_true_eq, decide_eq_false_iff_not, Bool.not_true, Bool.not_false, Bool.not_eq_eq_eq_not, cond_true, cond_false] at hb_) <;> (try (exact absurd hb_ (by omega))) <;> (try simp only [TT, RS, flagOf, gslot, aop, ev, cv, putA, pickAV, if_false, if_true, Nat.reduceAdd, Nat.reduceSub, true_implies, reduceCtorEq, false_implies, implies_true, retAll, retOne, oneOf, cond_true, cond_false, rd, wr, joinT, splice, lay, layRows, abuiltin, abPure, abMem, szv, asNat, loOf, aslice, kindOf, szOf, Nat.reduceLeDiff, Nat.reduceLT, Nat.reduceMul, Nat.reduceEqDiff, ne_eq, Int.reduceLT, Int.reduceLE, Int.reduceEq, hs.get, hs.len, hs.szk, List.length_map, getD_nth hj, eInt])))
    all_goals first | omega | (simp only [anyL_nil, anyL_any, anyL_same, anyL_int, anyL_bool, and_true, true_and]; rw [wrap_succ (by omega), sum_succ hj, step_n hi.1 hi.2 (by assumption)]; exact ⟨rfl, rfl⟩) | (simp only [anyL_nil, anyL_any, anyL_same, anyL_int, anyL_bool, and_true, true_and]; rw [wrap_succ (by omega), sum_succ hj, step_p hi.1 hi.2 (by assumption)]; exact ⟨rfl, rfl⟩)
  · simp only [TT, RS, flagOf, gslot, aop, ev, cv, putA, pickAV, if_false, if_true, Nat.reduceAdd, Nat.reduceSub, true_implies, reduceCtorEq, false_implies, implies_true, retAll, retOne, oneOf, cond_true, cond_false, rd, wr, joinT, splice, lay, layRows, abuiltin, abPure, abMem, szv, asNat, loOf, aslice, kindOf, szOf, Nat.reduceLeDiff, Nat.reduceLT, Nat.reduceMul, Nat.reduceEqDiff, ne_eq, Int.reduceLT, Int.reduceLE, Int.reduceEq, hs.len, List.length_map]
    repeat' (first | (with_reducible refine wk_same ?_) | ((with_reducible refine wk_drop ?_ ?_); rotate_left; rfl) | (with_reducible refine And.intro ?_ ?_) | (with_reducible intro _) | ((with_reducible first | refine br_of ?_ ?_ | refine guB_ofT ?_ ?_ | refine guB_ofF ?_ ?_ | refine guD_ofT ?_ ?_ | refine guD_ofF ?_ ?_) <;> intro hb_ <;> (try simp only [decide_eq_true_eq, decide_eq_false_iff_not, Bool.not_true, Bool.not_false, Bool.not_eq_eq_eq_not, cond_true, cond_false] at hb_) <;> (try (exact absurd hb_ (by omega))) <;> (try simp only [TT, RS, flagOf, gslot, aop, ev, cv, putA, pickAV, if_false, if_true, Nat.reduceAdd, Nat.reduceSub, true_implies, reduceCtorEq, false_implies, implies_true, retAll, retOne, oneOf, cond_true, cond_false, rd, wr, joinT, splice, lay, layRows, abuiltin, abPure, abMem, szv, asNat, loOf, aslice, kindOf, szOf, Nat.reduceLeDiff, Nat.reduceLT, Nat.reduceMul, Nat.reduceEqDiff, ne_eq, Int.reduceLT, Int.reduceLE, Int.reduceEq, hs.len, List.length_map])))
    all_goals first | omega | (rw [sum_n]; done)
end Go.Proofs.Ytompkmjpikabkaa.AL
