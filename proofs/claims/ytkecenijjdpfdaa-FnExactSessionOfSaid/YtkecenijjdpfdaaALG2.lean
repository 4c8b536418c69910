/-
  slices.BinarySearchFunc.
-/
import Derived.Test.YtkecenijjdpfdaaALG1
import Derived.Test.YtkecenijjdpfdaaAL24
namespace Go.Proofs.Ytkecenijjdpfdaa.AL
open Go Go.Proofs.Ytkecenijjdpfdaa
set_option linter.unusedVariables false
set_option linter.unusedSimpArgs false
set_option maxRecDepth 100000
set_option maxHeartbeats 2000000

theorem mid_lt {i j : Nat} (h : i < j) : i ≤ (i + j) / 2 ∧ (i + j) / 2 < j := by omega
theorem mid_w {i j : Nat} (hi : i ≤ 1048576) (hj : j ≤ 1048576) : IntKind.i64.wrap ((i : Int) + (j : Int)) = (((i + j : Nat)) : Int) ∧ IntKind.u64.wrap (((i + j : Nat)) : Int) = (((i + j : Nat)) : Int) ∧ IntKind.i64.wrap ((((i + j : Nat)) : Int) / 2 ^ min 1 IntKind.u64.bits) = (((i + j) / 2 : Nat) : Int) := by
  have hb : min 1 IntKind.u64.bits = 1 := by decide
  rw [hb]
  refine ⟨by rw [wrap_in (by omega) (by omega)]; omega, ?_, by rw [wrap_in (by omega) (by omega)]; omega⟩
  rw [IntKind.wrap_u64]; omega

theorem G_BSearchSession (s : AV) (xs : List GSession) (tv : AV) (H : Heap) (fid : Nat) (caps : List AV) (c : Nat → Int) (m : Nat) (hs : Sl H s 4 (xs.map eSession)) (hn : xs.length ≤ 1048576) (hm : m ≤ xs.length) (h1 : ∀ k, k < m → c k < 0) (h2 : ∀ k, m ≤ k → k < xs.length → 0 ≤ c k)
    (hf : ∀ k, k < xs.length → ADet Try.prog fid ([.agg (eSession (nth xs k)), tv] ++ caps) H (.int .i64 (c k)) H) :
    ADet Try.prog 235 [s, tv, .func fid caps] H (.tup [.int .i64 (m : Int), .bool (decide (m < xs.length) && decide (c m = 0))]) H := by
  refine adet_run hT (fun _ => false) Try.func235 rfl (by kernel_rfl) (by kernel_rfl) ?_
  simp only [TT, RS, flagOf, gslot, aop, ev, cv, putA, pickAV, if_false, if_true, Nat.reduceAdd, Nat.reduceSub, true_implies, reduceCtorEq, false_implies, implies_true, retAll, retOne, oneOf, cond_true, cond_false, rd, wr, joinT, splice, lay, layRows, abuiltin, abPure, abMem, szv, asNat, loOf, aslice, kindOf, szOf, Nat.reduceLeDiff, Nat.reduceLT, Nat.reduceMul, Nat.reduceEqDiff, ne_eq, Int.reduceLT, Int.reduceLE, Int.reduceEq, Try.ntmps235, Try.results235, hs.get, hs.app, hs.len, hs.szk, List.length_map]
  refine lp_st hT (σ := Nat × Nat) (fun p => [s, tv, .func fid caps, .any, .any, .any, .any, .any, .int .i64 (xs.length : Int), .int .i64 (p.1 : Int), .int .i64 (p.2 : Int), .any, .any, .any, .any, .any, .any, .any, .any, .any, .any, .any, .any, .any, .any, .any, .any, .any, .any, .any, .any, .any, .any, .any, .any, .any, .any, .any, .any, .any, .any, .any, .any, .any, .any, .any, .any, .any, .any]) (fun p => H) (fun p => p.1 ≤ m ∧ m ≤ p.2 ∧ p.2 ≤ xs.length) (fun p => p.2 - p.1) (by kernel_rfl) (0, xs.length) ⟨Nat.zero_le _, hm, Nat.le_refl _⟩ ?_ (fun p hV => ?_)
  · exact wk_any rfl (by simp only [anyL_nil, anyL_any, anyL_same, anyL_int, anyL_bool, and_true, true_and]; trivial)
  obtain ⟨i, j⟩ := p
  obtain ⟨hi, hj, hjn⟩ := hV
  simp only at hi hj hjn
  rcases Nat.lt_or_ge i j with hij | hij
  · obtain ⟨w1, w2, w3⟩ := mid_w (i := i) (j := j) (by omega) (by omega)
    obtain ⟨q1, q2⟩ := mid_lt hij
    generalize hh : (i + j) / 2 = h at q1 q2 w3
    simp only [TT, RS, flagOf, gslot, aop, ev, cv, putA, pickAV, if_false, if_true, Nat.reduceAdd, Nat.reduceSub, true_implies, reduceCtorEq, false_implies, implies_true, retAll, retOne, oneOf, cond_true, cond_false, rd, wr, joinT, splice, lay, layRows, abuiltin, abPure, abMem, szv, asNat, loOf, aslice, kindOf, szOf, Nat.reduceLeDiff, Nat.reduceLT, Nat.reduceMul, Nat.reduceEqDiff, ne_eq, Int.reduceLT, Int.reduceLE, Int.reduceEq, hs.get, hs.app, hs.len, hs.szk, List.length_map, w1, w2, w3, getD_nth (xs := xs) (j := h) (by omega), eSession]
    repeat' (first | (with_reducible refine wk_same ?_) | ((with_reducible refine wk_drop ?_ ?_); rotate_left; rfl) | (with_reducible refine And.intro ?_ ?_) | (with_reducible intro _) | ((with_reducible first | refine br_of ?_ ?_ | refine guB_ofT ?_ ?_ | refine guB_ofF ?_ ?_ | refine guD_ofT ?_ ?_ | refine guD_ofF ?_ ?_) <;> intro hb_ <;> (try simp only [decide_eq_true_eq, decide_eq_false_iff_not, Bool.not_true, Bool.not_false, Bool.not_eq_eq_eq_not, cond_true, cond_false] at hb_) <;> (try (exact absurd hb_ (by omega))) <;> (try simp only [TT, RS, flagOf, gslot, aop, ev, cv, putA, pickAV, if_false, if_true, Nat.reduceAdd, Nat.reduceSub, true_implies, reduceCtorEq, false_implies, implies_true, retAll, retOne, oneOf, cond_true, cond_false, rd, wr, joinT, splice, lay, layRows, abuiltin, abPure, abMem, szv, asNat, loOf, aslice, kindOf, szOf, Nat.reduceLeDiff, Nat.reduceLT, Nat.reduceMul, Nat.reduceEqDiff, ne_eq, Int.reduceLT, Int.reduceLE, Int.reduceEq, hs.get, hs.app, hs.len, hs.szk, List.length_map, w1, w2, w3, getD_nth (xs := xs) (j := h) (by omega), eSession])))
    all_goals first | omega | skip
    refine callA_of (hf h (by omega)) ?_
    simp only [TT, RS, flagOf, gslot, aop, ev, cv, putA, pickAV, if_false, if_true, Nat.reduceAdd, Nat.reduceSub, true_implies, reduceCtorEq, false_implies, implies_true, retAll, retOne, oneOf, cond_true, cond_false, rd, wr, joinT, splice, lay, layRows, abuiltin, abPure, abMem, szv, asNat, loOf, aslice, kindOf, szOf, Nat.reduceLeDiff, Nat.reduceLT, Nat.reduceMul, Nat.reduceEqDiff, ne_eq, Int.reduceLT, Int.reduceLE, Int.reduceEq, hs.get, hs.app, hs.len, hs.szk, List.length_map, w1, w2, w3, getD_nth (xs := xs) (j := h) (by omega), eSession]
    repeat' (first | (with_reducible refine wk_same ?_) | ((with_reducible refine wk_drop ?_ ?_); rotate_left; rfl) | (with_reducible refine And.intro ?_ ?_) | (with_reducible intro _) | ((with_reducible first | refine br_of ?_ ?_ | refine guB_ofT ?_ ?_ | refine guB_ofF ?_ ?_ | refine guD_ofT ?_ ?_ | refine guD_ofF ?_ ?_) <;> intro hb_ <;> (try simp only [decide_eq_true_eq, decide_eq_false_iff_not, Bool.not_true, Bool.not_false, Bool.not_eq_eq_eq_not, cond_true, cond_false] at hb_) <;> (try (exact absurd hb_ (by omega))) <;> (try simp only [TT, RS, flagOf, gslot, aop, ev, cv, putA, pickAV, if_false, if_true, Nat.reduceAdd, Nat.reduceSub, true_implies, reduceCtorEq, false_implies, implies_true, retAll, retOne, oneOf, cond_true, cond_false, rd, wr, joinT, splice, lay, layRows, abuiltin, abPure, abMem, szv, asNat, loOf, aslice, kindOf, szOf, Nat.reduceLeDiff, Nat.reduceLT, Nat.reduceMul, Nat.reduceEqDiff, ne_eq, Int.reduceLT, Int.reduceLE, Int.reduceEq, hs.get, hs.app, hs.len, hs.szk, List.length_map, w1, w2, w3, getD_nth (xs := xs) (j := h) (by omega), eSession])))
    · have hmh : ¬ m ≤ h := fun e => by have := h2 h e (by omega); omega
      exact ⟨(h + 1, j), ⟨by omega, hj, hjn⟩, by simp only; omega, wk_any rfl (by simp only [anyL_nil, anyL_any, anyL_same, anyL_int, anyL_bool, and_true, true_and]; rw [wrap_succ (by omega)])⟩
    · have hmh : ¬ h < m := fun e => by have := h1 h e; omega
      exact ⟨(i, h), ⟨hi, by simp only; omega, by simp only; omega⟩, by simp only; omega, wk_any rfl (by simp only [anyL_nil, anyL_any, anyL_same, anyL_int, anyL_bool, and_true, true_and])⟩
  · obtain rfl : i = m := by omega
    obtain rfl : j = i := by omega
    rcases Nat.lt_or_ge j xs.length with hlt | hge
    · simp only [TT, RS, flagOf, gslot, aop, ev, cv, putA, pickAV, if_false, if_true, Nat.reduceAdd, Nat.reduceSub, true_implies, reduceCtorEq, false_implies, implies_true, retAll, retOne, oneOf, cond_true, cond_false, rd, wr, joinT, splice, lay, layRows, abuiltin, abPure, abMem, szv, asNat, loOf, aslice, kindOf, szOf, Nat.reduceLeDiff, Nat.reduceLT, Nat.reduceMul, Nat.reduceEqDiff, ne_eq, Int.reduceLT, Int.reduceLE, Int.reduceEq, hs.get, hs.app, hs.len, hs.szk, List.length_map, getD_nth (xs := xs) (j := j) hlt, eSession]
      repeat' (first | (with_reducible refine wk_same ?_) | ((with_reducible refine wk_drop ?_ ?_); rotate_left; rfl) | (with_reducible refine And.intro ?_ ?_) | (with_reducible intro _) | ((with_reducible first | refine br_of ?_ ?_ | refine guB_ofT ?_ ?_ | refine guB_ofF ?_ ?_ | refine guD_ofT ?_ ?_ | refine guD_ofF ?_ ?_) <;> intro hb_ <;> (try simp only [decide_eq_true_eq, decide_eq_false_iff_not, Bool.not_true, Bool.not_false, Bool.not_eq_eq_eq_not, cond_true, cond_false] at hb_) <;> (try (exact absurd hb_ (by omega))) <;> (try simp only [TT, RS, flagOf, gslot, aop, ev, cv, putA, pickAV, if_false, if_true, Nat.reduceAdd, Nat.reduceSub, true_implies, reduceCtorEq, false_implies, implies_true, retAll, retOne, oneOf, cond_true, cond_false, rd, wr, joinT, splice, lay, layRows, abuiltin, abPure, abMem, szv, asNat, loOf, aslice, kindOf, szOf, Nat.reduceLeDiff, Nat.reduceLT, Nat.reduceMul, Nat.reduceEqDiff, ne_eq, Int.reduceLT, Int.reduceLE, Int.reduceEq, hs.get, hs.app, hs.len, hs.szk, List.length_map, getD_nth (xs := xs) (j := j) hlt, eSession])))
      all_goals first | omega | skip
      refine callA_of (hf j hlt) ?_
      simp only [TT, RS, flagOf, gslot, aop, ev, cv, putA, pickAV, if_false, if_true, Nat.reduceAdd, Nat.reduceSub, true_implies, reduceCtorEq, false_implies, implies_true, retAll, retOne, oneOf, cond_true, cond_false, rd, wr, joinT, splice, lay, layRows, abuiltin, abPure, abMem, szv, asNat, loOf, aslice, kindOf, szOf, Nat.reduceLeDiff, Nat.reduceLT, Nat.reduceMul, Nat.reduceEqDiff, ne_eq, Int.reduceLT, Int.reduceLE, Int.reduceEq, hs.get, hs.app, hs.len, hs.szk, List.length_map, getD_nth (xs := xs) (j := j) hlt, eSession]
      repeat' (first | (with_reducible refine wk_same ?_) | ((with_reducible refine wk_drop ?_ ?_); rotate_left; rfl) | (with_reducible refine And.intro ?_ ?_) | (with_reducible intro _) | ((with_reducible first | refine br_of ?_ ?_ | refine guB_ofT ?_ ?_ | refine guB_ofF ?_ ?_ | refine guD_ofT ?_ ?_ | refine guD_ofF ?_ ?_) <;> intro hb_ <;> (try simp only [decide_eq_true_eq, decide_eq_false_iff_not, Bool.not_true, Bool.not_false, Bool.not_eq_eq_eq_not, cond_true, cond_false] at hb_) <;> (try (exact absurd hb_ (by omega))) <;> (try simp only [TT, RS, flagOf, gslot, aop, ev, cv, putA, pickAV, if_false, if_true, Nat.reduceAdd, Nat.reduceSub, true_implies, reduceCtorEq, false_implies, implies_true, retAll, retOne, oneOf, cond_true, cond_false, rd, wr, joinT, splice, lay, layRows, abuiltin, abPure, abMem, szv, asNat, loOf, aslice, kindOf, szOf, Nat.reduceLeDiff, Nat.reduceLT, Nat.reduceMul, Nat.reduceEqDiff, ne_eq, Int.reduceLT, Int.reduceLE, Int.reduceEq, hs.get, hs.app, hs.len, hs.szk, List.length_map, getD_nth (xs := xs) (j := j) hlt, eSession])))
      simp [hlt]
    · simp only [TT, RS, flagOf, gslot, aop, ev, cv, putA, pickAV, if_false, if_true, Nat.reduceAdd, Nat.reduceSub, true_implies, reduceCtorEq, false_implies, implies_true, retAll, retOne, oneOf, cond_true, cond_false, rd, wr, joinT, splice, lay, layRows, abuiltin, abPure, abMem, szv, asNat, loOf, aslice, kindOf, szOf, Nat.reduceLeDiff, Nat.reduceLT, Nat.reduceMul, Nat.reduceEqDiff, ne_eq, Int.reduceLT, Int.reduceLE, Int.reduceEq]
      repeat' (first | (with_reducible refine wk_same ?_) | ((with_reducible refine wk_drop ?_ ?_); rotate_left; rfl) | (with_reducible refine And.intro ?_ ?_) | (with_reducible intro _) | ((with_reducible first | refine br_of ?_ ?_ | refine guB_ofT ?_ ?_ | refine guB_ofF ?_ ?_ | refine guD_ofT ?_ ?_ | refine guD_ofF ?_ ?_) <;> intro hb_ <;> (try simp only [decide_eq_true_eq, decide_eq_false_iff_not, Bool.not_true, Bool.not_false, Bool.not_eq_eq_eq_not, cond_true, cond_false] at hb_) <;> (try (exact absurd hb_ (by omega))) <;> (try simp only [TT, RS, flagOf, gslot, aop, ev, cv, putA, pickAV, if_false, if_true, Nat.reduceAdd, Nat.reduceSub, true_implies, reduceCtorEq, false_implies, implies_true, retAll, retOne, oneOf, cond_true, cond_false, rd, wr, joinT, splice, lay, layRows, abuiltin, abPure, abMem, szv, asNat, loOf, aslice, kindOf, szOf, Nat.reduceLeDiff, Nat.reduceLT, Nat.reduceMul, Nat.reduceEqDiff, ne_eq, Int.reduceLT, Int.reduceLE, Int.reduceEq])))
      have : ¬ j < xs.length := by omega
      simp [this]

end Go.Proofs.Ytkecenijjdpfdaa.AL
