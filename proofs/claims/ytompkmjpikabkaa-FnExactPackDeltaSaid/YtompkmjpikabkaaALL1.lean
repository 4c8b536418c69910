/-
  The laws' own functions on records of numbers, and on slices of them.
-/
import Derived.Test.YtompkmjpikabkaaALB1
namespace Go.Proofs.Ytompkmjpikabkaa.AL
open Go Go.Proofs.Ytompkmjpikabkaa
set_option linter.unusedVariables false
set_option linter.unusedSimpArgs false
set_option maxRecDepth 100000
set_option maxHeartbeats 2000000

theorem L_toVol (v : GVol) (H : Heap) : ADet Try.prog 98 [.agg (eVol v)] H (.agg (eVol v)) H := by
  refine adet_run hT (fun _ => false) Try.func98 rfl (by kernel_rfl) (by kernel_rfl) ?_
  simp only [TT, RR, flagOf, gslot, aop, ev, cv, putA, pickAV, if_false, if_true, Nat.reduceAdd, Nat.reduceSub, true_implies, reduceCtorEq, false_implies, implies_true, retAll, retOne, oneOf, cond_true, cond_false, rd, wr, joinT, splice, lay, layRows, abuiltin, abPure, abMem, szv, asNat, loOf, aslice, kindOf, szOf, Nat.reduceLeDiff, Nat.reduceLT, Nat.reduceMul, Nat.reduceEqDiff, ne_eq, Int.reduceLT, Int.reduceLE, Int.reduceEq, Try.ntmps98, Try.results98, eVol]
  exact wk_drop rfl rfl
theorem L_eqVol (a b : GVol) (H : Heap) : ADet Try.prog 103 [.agg (eVol a), .agg (eVol b)] H (.bool (decide (a = b))) H := by
  refine adet_run hT (fun _ => false) Try.func103 rfl (by kernel_rfl) (by kernel_rfl) ?_
  simp only [TT, RR, flagOf, gslot, aop, ev, cv, putA, pickAV, if_false, if_true, Nat.reduceAdd, Nat.reduceSub, true_implies, reduceCtorEq, false_implies, implies_true, retAll, retOne, oneOf, cond_true, cond_false, rd, wr, joinT, splice, lay, layRows, abuiltin, abPure, abMem, szv, asNat, loOf, aslice, kindOf, szOf, Nat.reduceLeDiff, Nat.reduceLT, Nat.reduceMul, Nat.reduceEqDiff, ne_eq, Int.reduceLT, Int.reduceLE, Int.reduceEq, Try.ntmps103, Try.results103, eVol]
  obtain ⟨a0, a1, a2⟩ := a
  obtain ⟨b0, b1, b2⟩ := b
  repeat' (first | (refine wk_same ?_) | (refine wk_drop ?_ (by rfl)) | (with_reducible refine And.intro ?_ ?_) | (with_reducible intro _))
  all_goals simp_all
theorem L_szVolS (s : AV) (n : Nat) (H : Heap) (left : Int) (hs : lenOf s = some n) : ADet Try.prog 44 [s, .int .i64 left] H (.int .i64 (szI left n)) H := by
  refine adet_run hT (fun _ => false) Try.func44 rfl (by kernel_rfl) (by kernel_rfl) ?_
  simp only [TT, RR, flagOf, gslot, aop, ev, cv, putA, pickAV, if_false, if_true, Nat.reduceAdd, Nat.reduceSub, true_implies, reduceCtorEq, false_implies, implies_true, retAll, retOne, oneOf, cond_true, cond_false, rd, wr, joinT, splice, lay, layRows, abuiltin, abPure, abMem, szv, asNat, loOf, aslice, kindOf, szOf, Nat.reduceLeDiff, Nat.reduceLT, Nat.reduceMul, Nat.reduceEqDiff, ne_eq, Int.reduceLT, Int.reduceLE, Int.reduceEq, Try.ntmps44, Try.results44, hs]
  unfold szI
  constructor <;> intro h <;> simp only [h, if_true, if_false] <;> exact Wk.refl
theorem L_toVolS (s : AV) (xs : List GVol) (H : Heap) (hs : Sl H s 3 (xs.map eVol)) (hn : xs.length ≤ 1048576) : ADet Try.prog 48 [s] H (.own H.length 3 0 xs.length xs.length) (H ++ [some (.arr 3 (xs.map eVol))]) := by
  refine adet_run hT (fun _ => false) Try.func48 rfl (by kernel_rfl) (by kernel_rfl) ?_
  simp only [TT, RR, flagOf, gslot, aop, ev, cv, putA, pickAV, if_false, if_true, Nat.reduceAdd, Nat.reduceSub, true_implies, reduceCtorEq, false_implies, implies_true, retAll, retOne, oneOf, cond_true, cond_false, rd, wr, joinT, splice, lay, layRows, abuiltin, abPure, abMem, szv, asNat, loOf, aslice, kindOf, szOf, Nat.reduceLeDiff, Nat.reduceLT, Nat.reduceMul, Nat.reduceEqDiff, ne_eq, Int.reduceLT, Int.reduceLE, Int.reduceEq, Try.ntmps48, Try.results48, hs.get, hs.app, hs.len, hs.szk, List.length_map]
  refine ⟨by omega, lp_up hT xs.length (fun j => [s, .any, .any, .own H.length 3 0 xs.length xs.length, .int .i64 (j : Int), .any, .any, .any, .any, .any, .any, .any, .any, .any, .any, .any, .any, .any, .any, .any, .any, .any, .any]) (fun j => H ++ [some (.arr 3 (Fill (xs.map eVol) [.int .i64 0, .int .i64 0, .int .i64 0] j))]) (fun _ => True) (by kernel_rfl) trivial ?_ (fun j hj _ => ?_) (fun _ => ?_)⟩
  · exact wk_any (by rw [← fill_0, List.length_map]) (by simp only [anyL_nil, anyL_any, anyL_same, anyL_int, anyL_bool, and_true, true_and]; trivial)
  · simp only [TT, RR, flagOf, gslot, aop, ev, cv, putA, pickAV, if_false, if_true, Nat.reduceAdd, Nat.reduceSub, true_implies, reduceCtorEq, false_implies, implies_true, retAll, retOne, oneOf, cond_true, cond_false, rd, wr, joinT, splice, lay, layRows, abuiltin, abPure, abMem, szv, asNat, loOf, aslice, kindOf, szOf, Nat.reduceLeDiff, Nat.reduceLT, Nat.reduceMul, Nat.reduceEqDiff, ne_eq, Int.reduceLT, Int.reduceLE, Int.reduceEq, hs.get, hs.app, hs.len, hs.szk, List.length_map, getD_map hj, eVol, fill_len, fill_at (ys := xs.map eVol) (j := j) (by simpa using hj), Nat.le_of_lt hj]
    refine ⟨fun _ => ⟨by omega, callA_of (L_toVol _ _) ?_⟩, fun h => absurd (by omega) h⟩
    simp only [TT, RR, flagOf, gslot, aop, ev, cv, putA, pickAV, if_false, if_true, Nat.reduceAdd, Nat.reduceSub, true_implies, reduceCtorEq, false_implies, implies_true, retAll, retOne, oneOf, cond_true, cond_false, rd, wr, joinT, splice, lay, layRows, abuiltin, abPure, abMem, szv, asNat, loOf, aslice, kindOf, szOf, Nat.reduceLeDiff, Nat.reduceLT, Nat.reduceMul, Nat.reduceEqDiff, ne_eq, Int.reduceLT, Int.reduceLE, Int.reduceEq, fill_len, eVol, List.length_map, fill_at (ys := xs.map eVol) (j := j) (by simpa using hj), Nat.le_of_lt hj]
    refine ⟨by omega, by omega, wk_any (congrArg (fun r => H ++ [some (Blk.arr 3 r)]) (fill_set' (by simpa using hj) (getD_map hj))) (by rw [wrap_succ (by omega)]; simp only [anyL_nil, anyL_any, anyL_same, anyL_int, anyL_bool, and_true, true_and])⟩
  · simp only [TT, RR, flagOf, gslot, aop, ev, cv, putA, pickAV, if_false, if_true, Nat.reduceAdd, Nat.reduceSub, true_implies, reduceCtorEq, false_implies, implies_true, retAll, retOne, oneOf, cond_true, cond_false, rd, wr, joinT, splice, lay, layRows, abuiltin, abPure, abMem, szv, asNat, loOf, aslice, kindOf, szOf, Nat.reduceLeDiff, Nat.reduceLT, Nat.reduceMul, Nat.reduceEqDiff, ne_eq, Int.reduceLT, Int.reduceLE, Int.reduceEq, hs.get, hs.app, hs.len, hs.szk, List.length_map]
    refine ⟨fun h => absurd h (by omega), fun _ => ?_⟩
    exact wk_any (by rw [← List.length_map (f := eVol), fill_n]) (by simp only [anyL_nil, anyL_any, anyL_same, anyL_int, anyL_bool, and_true, true_and])
theorem L_eqVolS (s s' : AV) (xs ys : List GVol) (H : Heap) (hs : Sl H s 3 (xs.map eVol)) (hs' : Sl H s' 3 (ys.map eVol)) (hn : xs.length ≤ 1048576) : ADet Try.prog 52 [s, s'] H (.bool (decide (xs = ys))) H := by
  refine adet_run hT (fun _ => false) Try.func52 rfl (by kernel_rfl) (by kernel_rfl) ?_
  simp only [TT, RR, flagOf, gslot, aop, ev, cv, putA, pickAV, if_false, if_true, Nat.reduceAdd, Nat.reduceSub, true_implies, reduceCtorEq, false_implies, implies_true, retAll, retOne, oneOf, cond_true, cond_false, rd, wr, joinT, splice, lay, layRows, abuiltin, abPure, abMem, szv, asNat, loOf, aslice, kindOf, szOf, Nat.reduceLeDiff, Nat.reduceLT, Nat.reduceMul, Nat.reduceEqDiff, ne_eq, Int.reduceLT, Int.reduceLE, Int.reduceEq, Try.ntmps52, Try.results52, hs.get, hs.app, hs.len, hs.szk, hs'.get, hs'.app, hs'.len, hs'.szk, List.length_map]
  refine ⟨fun h => wk_same ?_, fun h => ?_⟩
  · rw [decide_eq_false (fun e => h (by rw [e]))]
  have hl : xs.length = ys.length := by omega
  refine lp_up hT xs.length (fun j => [s, s', .any, .any, .any, .int .i64 (j : Int), .any, .any, .any, .any, .any, .any, .any, .any, .any, .any, .any, .any, .any, .any, .any, .any, .any, .any, .any, .any, .any]) (fun j => H) (fun j => xs.take j = ys.take j) (by kernel_rfl) rfl ?_ (fun j hj hV => ?_) (fun hV => ?_)
  · exact wk_any rfl (by simp only [anyL_nil, anyL_any, anyL_same, anyL_int, anyL_bool, and_true, true_and]; trivial)
  · have hj' : j < ys.length := hl ▸ hj
    simp only [TT, RR, flagOf, gslot, aop, ev, cv, putA, pickAV, if_false, if_true, Nat.reduceAdd, Nat.reduceSub, true_implies, reduceCtorEq, false_implies, implies_true, retAll, retOne, oneOf, cond_true, cond_false, rd, wr, joinT, splice, lay, layRows, abuiltin, abPure, abMem, szv, asNat, loOf, aslice, kindOf, szOf, Nat.reduceLeDiff, Nat.reduceLT, Nat.reduceMul, Nat.reduceEqDiff, ne_eq, Int.reduceLT, Int.reduceLE, Int.reduceEq, hs.get, hs.app, hs.len, hs.szk, hs'.get, hs'.app, hs'.len, hs'.szk, List.length_map, getD_map hj, getD_map hj', eVol]
    refine ⟨fun _ => ⟨by omega, by omega, callD_of (L_eqVol _ _ _) ?_⟩, fun h => absurd (by omega) h⟩
    simp only [TT, RR, flagOf, gslot, aop, ev, cv, putA, pickAV, if_false, if_true, Nat.reduceAdd, Nat.reduceSub, true_implies, reduceCtorEq, false_implies, implies_true, retAll, retOne, oneOf, cond_true, cond_false, rd, wr, joinT, splice, lay, layRows, abuiltin, abPure, abMem, szv, asNat, loOf, aslice, kindOf, szOf, Nat.reduceLeDiff, Nat.reduceLT, Nat.reduceMul, Nat.reduceEqDiff, ne_eq, Int.reduceLT, Int.reduceLE, Int.reduceEq]
    refine ⟨fun h => wk_same ?_, fun h => ⟨take_ne hj hj' hV (by simpa using h), wk_any rfl (by simp only [anyL_nil, anyL_any, anyL_same, anyL_int, anyL_bool, and_true, true_and]; rw [wrap_succ (by omega)])⟩⟩
    rw [decide_eq_false (fun e => by simp [e] at h)]
  · simp only [TT, RR, flagOf, gslot, aop, ev, cv, putA, pickAV, if_false, if_true, Nat.reduceAdd, Nat.reduceSub, true_implies, reduceCtorEq, false_implies, implies_true, retAll, retOne, oneOf, cond_true, cond_false, rd, wr, joinT, splice, lay, layRows, abuiltin, abPure, abMem, szv, asNat, loOf, aslice, kindOf, szOf, Nat.reduceLeDiff, Nat.reduceLT, Nat.reduceMul, Nat.reduceEqDiff, ne_eq, Int.reduceLT, Int.reduceLE, Int.reduceEq, hs.get, hs.app, hs.len, hs.szk, hs'.get, hs'.app, hs'.len, hs'.szk, List.length_map]
    refine ⟨fun h => absurd h (by omega), fun _ => wk_same ?_⟩
    rw [List.take_length, hl, List.take_length] at hV
    rw [decide_eq_true hV]
theorem L_markVolS (id lc n : Nat) (k : Int) (xs : List GVol) (H : Heap) (hH : H[id]? = some (some (.arr 3 (xs.map eVol)))) (hn : n ≤ xs.length) (hm : n ≤ 1048576) (h0 : 0 ≤ k) (h1 : k ≤ 1099511627776) :
    ADet Try.prog 54 [.own id 3 0 n lc, .int .i64 k] H (.int .i64 (k + 3 * n)) (H.set id (some (.arr 3 (Mk eVol mVol 3 k xs n)))) := by
  have hl := lt_of_blk hH
  refine adet_run hT (fun _ => false) Try.func54 rfl (by kernel_rfl) (by kernel_rfl) ?_
  simp only [TT, RR, flagOf, gslot, aop, ev, cv, putA, pickAV, if_false, if_true, Nat.reduceAdd, Nat.reduceSub, true_implies, reduceCtorEq, false_implies, implies_true, retAll, retOne, oneOf, cond_true, cond_false, rd, wr, joinT, splice, lay, layRows, abuiltin, abPure, abMem, szv, asNat, loOf, aslice, kindOf, szOf, Nat.reduceLeDiff, Nat.reduceLT, Nat.reduceMul, Nat.reduceEqDiff, ne_eq, Int.reduceLT, Int.reduceLE, Int.reduceEq, Try.ntmps54, Try.results54]
  refine lp_up hT n (fun j => [.own id 3 0 n lc, .int .i64 (k + 3 * j), .any, .any, .int .i64 0, .int .i64 (j : Int), .any, .any, .any, .any, .any, .any, .any, .any, .any, .any, .any, .any, .any, .any, .any, .any, .any, .any, .any, .any, .any, .any, .any, .any, .any, .any, .any, .any]) (fun j => H.set id (some (.arr 3 (Mk eVol mVol 3 k xs j)))) (fun _ => True) (by kernel_rfl) trivial ?_ (fun j hj _ => ?_) (fun _ => ?_)
  · exact wk_any (by rw [mk_0, hset_same hH]) (by simp only [anyL_nil, anyL_any, anyL_same, anyL_int, anyL_bool, and_true, true_and]; omega)
  · have hj' := Nat.lt_of_lt_of_le hj hn
    have hg : ∀ r, ((Mk eVol mVol 3 k xs j).set j r).getD j [] = r := fun r => getD_set (by rw [mk_len (by omega)]; exact hj')
    have w1 : IntKind.i64.wrap (k + 3 * (j : Int) + 1) = k + 3 * j + 1 := by rw [wrap_k (by omega) (by omega)]; try omega
    have w2 : IntKind.i64.wrap (k + 3 * (j : Int) + 1 + 1) = k + 3 * j + 2 := by rw [wrap_k (by omega) (by omega)]; try omega
    have w3 : IntKind.i64.wrap (k + 3 * (j : Int) + 2 + 1) = k + 3 * j + 3 := by rw [wrap_k (by omega) (by omega)]; try omega
    simp only [TT, RR, flagOf, gslot, aop, ev, cv, putA, pickAV, if_false, if_true, Nat.reduceAdd, Nat.reduceSub, true_implies, reduceCtorEq, false_implies, implies_true, retAll, retOne, oneOf, cond_true, cond_false, rd, wr, joinT, splice, lay, layRows, abuiltin, abPure, abMem, szv, asNat, loOf, aslice, kindOf, szOf, Nat.reduceLeDiff, Nat.reduceLT, Nat.reduceMul, Nat.reduceEqDiff, ne_eq, Int.reduceLT, Int.reduceLE, Int.reduceEq, hset_get hl, List.set_set, mk_len (Nat.le_of_lt hj'), List.length_set, hg, getD_take hj, mk_at hj', eVol, w1, w2, w3]
    refine ⟨fun _ => ⟨by omega, hn, by omega, hn, by omega, hn, ?_⟩, fun h => absurd (by omega) h⟩
    exact wk_any (congrArg (fun r => H.set id (some (Blk.arr 3 r))) (mk_set (g := mVol) hj')) (by simp only [anyL_nil, anyL_any, anyL_same, anyL_int, anyL_bool, and_true, true_and]; rw [wrap_succ (by omega)]; omega)
  · simp only [TT, RR, flagOf, gslot, aop, ev, cv, putA, pickAV, if_false, if_true, Nat.reduceAdd, Nat.reduceSub, true_implies, reduceCtorEq, false_implies, implies_true, retAll, retOne, oneOf, cond_true, cond_false, rd, wr, joinT, splice, lay, layRows, abuiltin, abPure, abMem, szv, asNat, loOf, aslice, kindOf, szOf, Nat.reduceLeDiff, Nat.reduceLT, Nat.reduceMul, Nat.reduceEqDiff, ne_eq, Int.reduceLT, Int.reduceLE, Int.reduceEq, hset_get hl, List.set_set, mk_len hn]
    exact ⟨fun h => absurd h (by omega), fun _ => Wk.refl⟩
theorem L_heldVolS (s : AV) (n : Nat) (k : Int) (H : Heap) (hs : Sl H s 3 ((mks mVol 3 k n).map eVol)) (hm : n ≤ 1048576) (h0 : 0 ≤ k) (h1 : k ≤ 1099511627776) :
    ADet Try.prog 132 [s, .int .i64 k] H (.int .i64 (k + 3 * n)) H := by
  refine adet_run hT (fun _ => false) Try.func132 rfl (by kernel_rfl) (by kernel_rfl) ?_
  simp only [TT, RR, flagOf, gslot, aop, ev, cv, putA, pickAV, if_false, if_true, Nat.reduceAdd, Nat.reduceSub, true_implies, reduceCtorEq, false_implies, implies_true, retAll, retOne, oneOf, cond_true, cond_false, rd, wr, joinT, splice, lay, layRows, abuiltin, abPure, abMem, szv, asNat, loOf, aslice, kindOf, szOf, Nat.reduceLeDiff, Nat.reduceLT, Nat.reduceMul, Nat.reduceEqDiff, ne_eq, Int.reduceLT, Int.reduceLE, Int.reduceEq, Try.ntmps132, Try.results132]
  refine lp_up hT n (fun j => [s, .int .i64 (k + 3 * j), .any, .any, .int .i64 0, .int .i64 (j : Int), .any, .any, .any, .any, .any, .any, .any, .any, .any, .any, .any, .any, .any, .any, .any, .any, .any, .any, .any, .any, .any, .any, .any, .any, .any, .any, .any, .any, .any, .any, .any, .any, .any, .any]) (fun j => H) (fun _ => True) (by kernel_rfl) trivial ?_ (fun j hj _ => ?_) (fun _ => ?_)
  · exact wk_any rfl (by simp only [anyL_nil, anyL_any, anyL_same, anyL_int, anyL_bool, and_true, true_and]; omega)
  · have hj' : j < (mks mVol 3 k n).length := by rw [mks_len]; exact hj
    have w1 : IntKind.i64.wrap (k + 3 * (j : Int) + 1) = k + 3 * j + 1 := by rw [wrap_k (by omega) (by omega)]; try omega
    have w2 : IntKind.i64.wrap (k + 3 * (j : Int) + 1 + 1) = k + 3 * j + 2 := by rw [wrap_k (by omega) (by omega)]; try omega
    have w3 : IntKind.i64.wrap (k + 3 * (j : Int) + 2 + 1) = k + 3 * j + 3 := by rw [wrap_k (by omega) (by omega)]; try omega
    simp only [TT, RR, flagOf, gslot, aop, ev, cv, putA, pickAV, if_false, if_true, Nat.reduceAdd, Nat.reduceSub, true_implies, reduceCtorEq, false_implies, implies_true, retAll, retOne, oneOf, cond_true, cond_false, rd, wr, joinT, splice, lay, layRows, abuiltin, abPure, abMem, szv, asNat, loOf, aslice, kindOf, szOf, Nat.reduceLeDiff, Nat.reduceLT, Nat.reduceMul, Nat.reduceEqDiff, ne_eq, Int.reduceLT, Int.reduceLE, Int.reduceEq, hs.get, hs.app, hs.len, hs.szk, List.length_map, mks_len, getD_map hj', mks_get hj', eVol, mVol, bit3, w1, w2, w3]
    refine ⟨fun _ => ?_, fun h => absurd (by omega) h⟩
    repeat' (first | (refine wk_any rfl (by simp only [anyL_nil, anyL_any, anyL_same, anyL_int, anyL_bool, and_true, true_and]; rw [wrap_succ (by omega)]; omega)) | (with_reducible refine And.intro ?_ ?_) | (with_reducible intro h))
    all_goals first | omega | exact absurd rfl h | simp at h
  · simp only [TT, RR, flagOf, gslot, aop, ev, cv, putA, pickAV, if_false, if_true, Nat.reduceAdd, Nat.reduceSub, true_implies, reduceCtorEq, false_implies, implies_true, retAll, retOne, oneOf, cond_true, cond_false, rd, wr, joinT, splice, lay, layRows, abuiltin, abPure, abMem, szv, asNat, loOf, aslice, kindOf, szOf, Nat.reduceLeDiff, Nat.reduceLT, Nat.reduceMul, Nat.reduceEqDiff, ne_eq, Int.reduceLT, Int.reduceLE, Int.reduceEq, hs.len, List.length_map, mks_len]
    exact ⟨fun h => absurd h (by omega), fun _ => Wk.refl⟩
theorem L_toCell (v : GCell) (H : Heap) : ADet Try.prog 123 [.agg (eCell v)] H (.agg (eCell v)) H := by
  refine adet_run hT (fun _ => false) Try.func123 rfl (by kernel_rfl) (by kernel_rfl) ?_
  simp only [TT, RR, flagOf, gslot, aop, ev, cv, putA, pickAV, if_false, if_true, Nat.reduceAdd, Nat.reduceSub, true_implies, reduceCtorEq, false_implies, implies_true, retAll, retOne, oneOf, cond_true, cond_false, rd, wr, joinT, splice, lay, layRows, abuiltin, abPure, abMem, szv, asNat, loOf, aslice, kindOf, szOf, Nat.reduceLeDiff, Nat.reduceLT, Nat.reduceMul, Nat.reduceEqDiff, ne_eq, Int.reduceLT, Int.reduceLE, Int.reduceEq, Try.ntmps123, Try.results123, eCell]
  exact wk_drop rfl rfl
theorem L_eqCell (a b : GCell) (H : Heap) : ADet Try.prog 128 [.agg (eCell a), .agg (eCell b)] H (.bool (decide (a = b))) H := by
  refine adet_run hT (fun _ => false) Try.func128 rfl (by kernel_rfl) (by kernel_rfl) ?_
  simp only [TT, RR, flagOf, gslot, aop, ev, cv, putA, pickAV, if_false, if_true, Nat.reduceAdd, Nat.reduceSub, true_implies, reduceCtorEq, false_implies, implies_true, retAll, retOne, oneOf, cond_true, cond_false, rd, wr, joinT, splice, lay, layRows, abuiltin, abPure, abMem, szv, asNat, loOf, aslice, kindOf, szOf, Nat.reduceLeDiff, Nat.reduceLT, Nat.reduceMul, Nat.reduceEqDiff, ne_eq, Int.reduceLT, Int.reduceLE, Int.reduceEq, Try.ntmps128, Try.results128, eCell]
  obtain ⟨a0, a1, a2⟩ := a
  obtain ⟨b0, b1, b2⟩ := b
  repeat' (first | (refine wk_same ?_) | (refine wk_drop ?_ (by rfl)) | (with_reducible refine And.intro ?_ ?_) | (with_reducible intro _))
  all_goals simp_all
theorem L_szCellS (s : AV) (n : Nat) (H : Heap) (left : Int) (hs : lenOf s = some n) : ADet Try.prog 71 [s, .int .i64 left] H (.int .i64 (szI left n)) H := by
  refine adet_run hT (fun _ => false) Try.func71 rfl (by kernel_rfl) (by kernel_rfl) ?_
  simp only [TT, RR, flagOf, gslot, aop, ev, cv, putA, pickAV, if_false, if_true, Nat.reduceAdd, Nat.reduceSub, true_implies, reduceCtorEq, false_implies, implies_true, retAll, retOne, oneOf, cond_true, cond_false, rd, wr, joinT, splice, lay, layRows, abuiltin, abPure, abMem, szv, asNat, loOf, aslice, kindOf, szOf, Nat.reduceLeDiff, Nat.reduceLT, Nat.reduceMul, Nat.reduceEqDiff, ne_eq, Int.reduceLT, Int.reduceLE, Int.reduceEq, Try.ntmps71, Try.results71, hs]
  unfold szI
  constructor <;> intro h <;> simp only [h, if_true, if_false] <;> exact Wk.refl
theorem L_toCellS (s : AV) (xs : List GCell) (H : Heap) (hs : Sl H s 3 (xs.map eCell)) (hn : xs.length ≤ 1048576) : ADet Try.prog 75 [s] H (.own H.length 3 0 xs.length xs.length) (H ++ [some (.arr 3 (xs.map eCell))]) := by
  refine adet_run hT (fun _ => false) Try.func75 rfl (by kernel_rfl) (by kernel_rfl) ?_
  simp only [TT, RR, flagOf, gslot, aop, ev, cv, putA, pickAV, if_false, if_true, Nat.reduceAdd, Nat.reduceSub, true_implies, reduceCtorEq, false_implies, implies_true, retAll, retOne, oneOf, cond_true, cond_false, rd, wr, joinT, splice, lay, layRows, abuiltin, abPure, abMem, szv, asNat, loOf, aslice, kindOf, szOf, Nat.reduceLeDiff, Nat.reduceLT, Nat.reduceMul, Nat.reduceEqDiff, ne_eq, Int.reduceLT, Int.reduceLE, Int.reduceEq, Try.ntmps75, Try.results75, hs.get, hs.app, hs.len, hs.szk, List.length_map]
  refine ⟨by omega, lp_up hT xs.length (fun j => [s, .any, .any, .own H.length 3 0 xs.length xs.length, .int .i64 (j : Int), .any, .any, .any, .any, .any, .any, .any, .any, .any, .any, .any, .any, .any, .any, .any, .any, .any, .any]) (fun j => H ++ [some (.arr 3 (Fill (xs.map eCell) [.int .i64 0, .int .i64 0, .int .i64 0] j))]) (fun _ => True) (by kernel_rfl) trivial ?_ (fun j hj _ => ?_) (fun _ => ?_)⟩
  · exact wk_any (by rw [← fill_0, List.length_map]) (by simp only [anyL_nil, anyL_any, anyL_same, anyL_int, anyL_bool, and_true, true_and]; trivial)
  · simp only [TT, RR, flagOf, gslot, aop, ev, cv, putA, pickAV, if_false, if_true, Nat.reduceAdd, Nat.reduceSub, true_implies, reduceCtorEq, false_implies, implies_true, retAll, retOne, oneOf, cond_true, cond_false, rd, wr, joinT, splice, lay, layRows, abuiltin, abPure, abMem, szv, asNat, loOf, aslice, kindOf, szOf, Nat.reduceLeDiff, Nat.reduceLT, Nat.reduceMul, Nat.reduceEqDiff, ne_eq, Int.reduceLT, Int.reduceLE, Int.reduceEq, hs.get, hs.app, hs.len, hs.szk, List.length_map, getD_map hj, eCell, fill_len, fill_at (ys := xs.map eCell) (j := j) (by simpa using hj), Nat.le_of_lt hj]
    refine ⟨fun _ => ⟨by omega, callA_of (L_toCell _ _) ?_⟩, fun h => absurd (by omega) h⟩
    simp only [TT, RR, flagOf, gslot, aop, ev, cv, putA, pickAV, if_false, if_true, Nat.reduceAdd, Nat.reduceSub, true_implies, reduceCtorEq, false_implies, implies_true, retAll, retOne, oneOf, cond_true, cond_false, rd, wr, joinT, splice, lay, layRows, abuiltin, abPure, abMem, szv, asNat, loOf, aslice, kindOf, szOf, Nat.reduceLeDiff, Nat.reduceLT, Nat.reduceMul, Nat.reduceEqDiff, ne_eq, Int.reduceLT, Int.reduceLE, Int.reduceEq, fill_len, eCell, List.length_map, fill_at (ys := xs.map eCell) (j := j) (by simpa using hj), Nat.le_of_lt hj]
    refine ⟨by omega, by omega, wk_any (congrArg (fun r => H ++ [some (Blk.arr 3 r)]) (fill_set' (by simpa using hj) (getD_map hj))) (by rw [wrap_succ (by omega)]; simp only [anyL_nil, anyL_any, anyL_same, anyL_int, anyL_bool, and_true, true_and])⟩
  · simp only [TT, RR, flagOf, gslot, aop, ev, cv, putA, pickAV, if_false, if_true, Nat.reduceAdd, Nat.reduceSub, true_implies, reduceCtorEq, false_implies, implies_true, retAll, retOne, oneOf, cond_true, cond_false, rd, wr, joinT, splice, lay, layRows, abuiltin, abPure, abMem, szv, asNat, loOf, aslice, kindOf, szOf, Nat.reduceLeDiff, Nat.reduceLT, Nat.reduceMul, Nat.reduceEqDiff, ne_eq, Int.reduceLT, Int.reduceLE, Int.reduceEq, hs.get, hs.app, hs.len, hs.szk, List.length_map]
    refine ⟨fun h => absurd h (by omega), fun _ => ?_⟩
    exact wk_any (by rw [← List.length_map (f := eCell), fill_n]) (by simp only [anyL_nil, anyL_any, anyL_same, anyL_int, anyL_bool, and_true, true_and])
theorem L_eqCellS (s s' : AV) (xs ys : List GCell) (H : Heap) (hs : Sl H s 3 (xs.map eCell)) (hs' : Sl H s' 3 (ys.map eCell)) (hn : xs.length ≤ 1048576) : ADet Try.prog 78 [s, s'] H (.bool (decide (xs = ys))) H := by
  refine adet_run hT (fun _ => false) Try.func78 rfl (by kernel_rfl) (by kernel_rfl) ?_
  simp only [TT, RR, flagOf, gslot, aop, ev, cv, putA, pickAV, if_false, if_true, Nat.reduceAdd, Nat.reduceSub, true_implies, reduceCtorEq, false_implies, implies_true, retAll, retOne, oneOf, cond_true, cond_false, rd, wr, joinT, splice, lay, layRows, abuiltin, abPure, abMem, szv, asNat, loOf, aslice, kindOf, szOf, Nat.reduceLeDiff, Nat.reduceLT, Nat.reduceMul, Nat.reduceEqDiff, ne_eq, Int.reduceLT, Int.reduceLE, Int.reduceEq, Try.ntmps78, Try.results78, hs.get, hs.app, hs.len, hs.szk, hs'.get, hs'.app, hs'.len, hs'.szk, List.length_map]
  refine ⟨fun h => wk_same ?_, fun h => ?_⟩
  · rw [decide_eq_false (fun e => h (by rw [e]))]
  have hl : xs.length = ys.length := by omega
  refine lp_up hT xs.length (fun j => [s, s', .any, .any, .any, .int .i64 (j : Int), .any, .any, .any, .any, .any, .any, .any, .any, .any, .any, .any, .any, .any, .any, .any, .any, .any, .any, .any, .any, .any]) (fun j => H) (fun j => xs.take j = ys.take j) (by kernel_rfl) rfl ?_ (fun j hj hV => ?_) (fun hV => ?_)
  · exact wk_any rfl (by simp only [anyL_nil, anyL_any, anyL_same, anyL_int, anyL_bool, and_true, true_and]; trivial)
  · have hj' : j < ys.length := hl ▸ hj
    simp only [TT, RR, flagOf, gslot, aop, ev, cv, putA, pickAV, if_false, if_true, Nat.reduceAdd, Nat.reduceSub, true_implies, reduceCtorEq, false_implies, implies_true, retAll, retOne, oneOf, cond_true, cond_false, rd, wr, joinT, splice, lay, layRows, abuiltin, abPure, abMem, szv, asNat, loOf, aslice, kindOf, szOf, Nat.reduceLeDiff, Nat.reduceLT, Nat.reduceMul, Nat.reduceEqDiff, ne_eq, Int.reduceLT, Int.reduceLE, Int.reduceEq, hs.get, hs.app, hs.len, hs.szk, hs'.get, hs'.app, hs'.len, hs'.szk, List.length_map, getD_map hj, getD_map hj', eCell]
    refine ⟨fun _ => ⟨by omega, by omega, callD_of (L_eqCell _ _ _) ?_⟩, fun h => absurd (by omega) h⟩
    simp only [TT, RR, flagOf, gslot, aop, ev, cv, putA, pickAV, if_false, if_true, Nat.reduceAdd, Nat.reduceSub, true_implies, reduceCtorEq, false_implies, implies_true, retAll, retOne, oneOf, cond_true, cond_false, rd, wr, joinT, splice, lay, layRows, abuiltin, abPure, abMem, szv, asNat, loOf, aslice, kindOf, szOf, Nat.reduceLeDiff, Nat.reduceLT, Nat.reduceMul, Nat.reduceEqDiff, ne_eq, Int.reduceLT, Int.reduceLE, Int.reduceEq]
    refine ⟨fun h => wk_same ?_, fun h => ⟨take_ne hj hj' hV (by simpa using h), wk_any rfl (by simp only [anyL_nil, anyL_any, anyL_same, anyL_int, anyL_bool, and_true, true_and]; rw [wrap_succ (by omega)])⟩⟩
    rw [decide_eq_false (fun e => by simp [e] at h)]
  · simp only [TT, RR, flagOf, gslot, aop, ev, cv, putA, pickAV, if_false, if_true, Nat.reduceAdd, Nat.reduceSub, true_implies, reduceCtorEq, false_implies, implies_true, retAll, retOne, oneOf, cond_true, cond_false, rd, wr, joinT, splice, lay, layRows, abuiltin, abPure, abMem, szv, asNat, loOf, aslice, kindOf, szOf, Nat.reduceLeDiff, Nat.reduceLT, Nat.reduceMul, Nat.reduceEqDiff, ne_eq, Int.reduceLT, Int.reduceLE, Int.reduceEq, hs.get, hs.app, hs.len, hs.szk, hs'.get, hs'.app, hs'.len, hs'.szk, List.length_map]
    refine ⟨fun h => absurd h (by omega), fun _ => wk_same ?_⟩
    rw [List.take_length, hl, List.take_length] at hV
    rw [decide_eq_true hV]
theorem L_toStep (v : GStep) (H : Heap) : ADet Try.prog 99 [.agg (eStep v)] H (.agg (eStep v)) H := by
  refine adet_run hT (fun _ => false) Try.func99 rfl (by kernel_rfl) (by kernel_rfl) ?_
  simp only [TT, RR, flagOf, gslot, aop, ev, cv, putA, pickAV, if_false, if_true, Nat.reduceAdd, Nat.reduceSub, true_implies, reduceCtorEq, false_implies, implies_true, retAll, retOne, oneOf, cond_true, cond_false, rd, wr, joinT, splice, lay, layRows, abuiltin, abPure, abMem, szv, asNat, loOf, aslice, kindOf, szOf, Nat.reduceLeDiff, Nat.reduceLT, Nat.reduceMul, Nat.reduceEqDiff, ne_eq, Int.reduceLT, Int.reduceLE, Int.reduceEq, Try.ntmps99, Try.results99, eStep]
  exact wk_drop rfl rfl
theorem L_eqStep (a b : GStep) (H : Heap) : ADet Try.prog 104 [.agg (eStep a), .agg (eStep b)] H (.bool (decide (a = b))) H := by
  refine adet_run hT (fun _ => false) Try.func104 rfl (by kernel_rfl) (by kernel_rfl) ?_
  simp only [TT, RR, flagOf, gslot, aop, ev, cv, putA, pickAV, if_false, if_true, Nat.reduceAdd, Nat.reduceSub, true_implies, reduceCtorEq, false_implies, implies_true, retAll, retOne, oneOf, cond_true, cond_false, rd, wr, joinT, splice, lay, layRows, abuiltin, abPure, abMem, szv, asNat, loOf, aslice, kindOf, szOf, Nat.reduceLeDiff, Nat.reduceLT, Nat.reduceMul, Nat.reduceEqDiff, ne_eq, Int.reduceLT, Int.reduceLE, Int.reduceEq, Try.ntmps104, Try.results104, eStep]
  obtain ⟨a0, a1, a2, a3⟩ := a
  obtain ⟨b0, b1, b2, b3⟩ := b
  repeat' (first | (refine wk_same ?_) | (refine wk_drop ?_ (by rfl)) | (with_reducible refine And.intro ?_ ?_) | (with_reducible intro _))
  all_goals simp_all
theorem L_szStepS (s : AV) (n : Nat) (H : Heap) (left : Int) (hs : lenOf s = some n) : ADet Try.prog 45 [s, .int .i64 left] H (.int .i64 (szI left n)) H := by
  refine adet_run hT (fun _ => false) Try.func45 rfl (by kernel_rfl) (by kernel_rfl) ?_
  simp only [TT, RR, flagOf, gslot, aop, ev, cv, putA, pickAV, if_false, if_true, Nat.reduceAdd, Nat.reduceSub, true_implies, reduceCtorEq, false_implies, implies_true, retAll, retOne, oneOf, cond_true, cond_false, rd, wr, joinT, splice, lay, layRows, abuiltin, abPure, abMem, szv, asNat, loOf, aslice, kindOf, szOf, Nat.reduceLeDiff, Nat.reduceLT, Nat.reduceMul, Nat.reduceEqDiff, ne_eq, Int.reduceLT, Int.reduceLE, Int.reduceEq, Try.ntmps45, Try.results45, hs]
  unfold szI
  constructor <;> intro h <;> simp only [h, if_true, if_false] <;> exact Wk.refl
theorem L_toStepS (s : AV) (xs : List GStep) (H : Heap) (hs : Sl H s 4 (xs.map eStep)) (hn : xs.length ≤ 1048576) : ADet Try.prog 49 [s] H (.own H.length 4 0 xs.length xs.length) (H ++ [some (.arr 4 (xs.map eStep))]) := by
  refine adet_run hT (fun _ => false) Try.func49 rfl (by kernel_rfl) (by kernel_rfl) ?_
  simp only [TT, RR, flagOf, gslot, aop, ev, cv, putA, pickAV, if_false, if_true, Nat.reduceAdd, Nat.reduceSub, true_implies, reduceCtorEq, false_implies, implies_true, retAll, retOne, oneOf, cond_true, cond_false, rd, wr, joinT, splice, lay, layRows, abuiltin, abPure, abMem, szv, asNat, loOf, aslice, kindOf, szOf, Nat.reduceLeDiff, Nat.reduceLT, Nat.reduceMul, Nat.reduceEqDiff, ne_eq, Int.reduceLT, Int.reduceLE, Int.reduceEq, Try.ntmps49, Try.results49, hs.get, hs.app, hs.len, hs.szk, List.length_map]
  refine ⟨by omega, lp_up hT xs.length (fun j => [s, .any, .any, .own H.length 4 0 xs.length xs.length, .int .i64 (j : Int), .any, .any, .any, .any, .any, .any, .any, .any, .any, .any, .any, .any, .any, .any, .any, .any, .any, .any]) (fun j => H ++ [some (.arr 4 (Fill (xs.map eStep) [.bool false, .int .i64 0, .int .i64 0, .int .i64 0] j))]) (fun _ => True) (by kernel_rfl) trivial ?_ (fun j hj _ => ?_) (fun _ => ?_)⟩
  · exact wk_any (by rw [← fill_0, List.length_map]) (by simp only [anyL_nil, anyL_any, anyL_same, anyL_int, anyL_bool, and_true, true_and]; trivial)
  · simp only [TT, RR, flagOf, gslot, aop, ev, cv, putA, pickAV, if_false, if_true, Nat.reduceAdd, Nat.reduceSub, true_implies, reduceCtorEq, false_implies, implies_true, retAll, retOne, oneOf, cond_true, cond_false, rd, wr, joinT, splice, lay, layRows, abuiltin, abPure, abMem, szv, asNat, loOf, aslice, kindOf, szOf, Nat.reduceLeDiff, Nat.reduceLT, Nat.reduceMul, Nat.reduceEqDiff, ne_eq, Int.reduceLT, Int.reduceLE, Int.reduceEq, hs.get, hs.app, hs.len, hs.szk, List.length_map, getD_map hj, eStep, fill_len, fill_at (ys := xs.map eStep) (j := j) (by simpa using hj), Nat.le_of_lt hj]
    refine ⟨fun _ => ⟨by omega, callA_of (L_toStep _ _) ?_⟩, fun h => absurd (by omega) h⟩
    simp only [TT, RR, flagOf, gslot, aop, ev, cv, putA, pickAV, if_false, if_true, Nat.reduceAdd, Nat.reduceSub, true_implies, reduceCtorEq, false_implies, implies_true, retAll, retOne, oneOf, cond_true, cond_false, rd, wr, joinT, splice, lay, layRows, abuiltin, abPure, abMem, szv, asNat, loOf, aslice, kindOf, szOf, Nat.reduceLeDiff, Nat.reduceLT, Nat.reduceMul, Nat.reduceEqDiff, ne_eq, Int.reduceLT, Int.reduceLE, Int.reduceEq, fill_len, eStep, List.length_map, fill_at (ys := xs.map eStep) (j := j) (by simpa using hj), Nat.le_of_lt hj]
    refine ⟨by omega, by omega, wk_any (congrArg (fun r => H ++ [some (Blk.arr 4 r)]) (fill_set' (by simpa using hj) (getD_map hj))) (by rw [wrap_succ (by omega)]; simp only [anyL_nil, anyL_any, anyL_same, anyL_int, anyL_bool, and_true, true_and])⟩
  · simp only [TT, RR, flagOf, gslot, aop, ev, cv, putA, pickAV, if_false, if_true, Nat.reduceAdd, Nat.reduceSub, true_implies, reduceCtorEq, false_implies, implies_true, retAll, retOne, oneOf, cond_true, cond_false, rd, wr, joinT, splice, lay, layRows, abuiltin, abPure, abMem, szv, asNat, loOf, aslice, kindOf, szOf, Nat.reduceLeDiff, Nat.reduceLT, Nat.reduceMul, Nat.reduceEqDiff, ne_eq, Int.reduceLT, Int.reduceLE, Int.reduceEq, hs.get, hs.app, hs.len, hs.szk, List.length_map]
    refine ⟨fun h => absurd h (by omega), fun _ => ?_⟩
    exact wk_any (by rw [← List.length_map (f := eStep), fill_n]) (by simp only [anyL_nil, anyL_any, anyL_same, anyL_int, anyL_bool, and_true, true_and])
theorem L_eqStepS (s s' : AV) (xs ys : List GStep) (H : Heap) (hs : Sl H s 4 (xs.map eStep)) (hs' : Sl H s' 4 (ys.map eStep)) (hn : xs.length ≤ 1048576) : ADet Try.prog 53 [s, s'] H (.bool (decide (xs = ys))) H := by
  refine adet_run hT (fun _ => false) Try.func53 rfl (by kernel_rfl) (by kernel_rfl) ?_
  simp only [TT, RR, flagOf, gslot, aop, ev, cv, putA, pickAV, if_false, if_true, Nat.reduceAdd, Nat.reduceSub, true_implies, reduceCtorEq, false_implies, implies_true, retAll, retOne, oneOf, cond_true, cond_false, rd, wr, joinT, splice, lay, layRows, abuiltin, abPure, abMem, szv, asNat, loOf, aslice, kindOf, szOf, Nat.reduceLeDiff, Nat.reduceLT, Nat.reduceMul, Nat.reduceEqDiff, ne_eq, Int.reduceLT, Int.reduceLE, Int.reduceEq, Try.ntmps53, Try.results53, hs.get, hs.app, hs.len, hs.szk, hs'.get, hs'.app, hs'.len, hs'.szk, List.length_map]
  refine ⟨fun h => wk_same ?_, fun h => ?_⟩
  · rw [decide_eq_false (fun e => h (by rw [e]))]
  have hl : xs.length = ys.length := by omega
  refine lp_up hT xs.length (fun j => [s, s', .any, .any, .any, .int .i64 (j : Int), .any, .any, .any, .any, .any, .any, .any, .any, .any, .any, .any, .any, .any, .any, .any, .any, .any, .any, .any, .any, .any]) (fun j => H) (fun j => xs.take j = ys.take j) (by kernel_rfl) rfl ?_ (fun j hj hV => ?_) (fun hV => ?_)
  · exact wk_any rfl (by simp only [anyL_nil, anyL_any, anyL_same, anyL_int, anyL_bool, and_true, true_and]; trivial)
  · have hj' : j < ys.length := hl ▸ hj
    simp only [TT, RR, flagOf, gslot, aop, ev, cv, putA, pickAV, if_false, if_true, Nat.reduceAdd, Nat.reduceSub, true_implies, reduceCtorEq, false_implies, implies_true, retAll, retOne, oneOf, cond_true, cond_false, rd, wr, joinT, splice, lay, layRows, abuiltin, abPure, abMem, szv, asNat, loOf, aslice, kindOf, szOf, Nat.reduceLeDiff, Nat.reduceLT, Nat.reduceMul, Nat.reduceEqDiff, ne_eq, Int.reduceLT, Int.reduceLE, Int.reduceEq, hs.get, hs.app, hs.len, hs.szk, hs'.get, hs'.app, hs'.len, hs'.szk, List.length_map, getD_map hj, getD_map hj', eStep]
    refine ⟨fun _ => ⟨by omega, by omega, callD_of (L_eqStep _ _ _) ?_⟩, fun h => absurd (by omega) h⟩
    simp only [TT, RR, flagOf, gslot, aop, ev, cv, putA, pickAV, if_false, if_true, Nat.reduceAdd, Nat.reduceSub, true_implies, reduceCtorEq, false_implies, implies_true, retAll, retOne, oneOf, cond_true, cond_false, rd, wr, joinT, splice, lay, layRows, abuiltin, abPure, abMem, szv, asNat, loOf, aslice, kindOf, szOf, Nat.reduceLeDiff, Nat.reduceLT, Nat.reduceMul, Nat.reduceEqDiff, ne_eq, Int.reduceLT, Int.reduceLE, Int.reduceEq]
    refine ⟨fun h => wk_same ?_, fun h => ⟨take_ne hj hj' hV (by simpa using h), wk_any rfl (by simp only [anyL_nil, anyL_any, anyL_same, anyL_int, anyL_bool, and_true, true_and]; rw [wrap_succ (by omega)])⟩⟩
    rw [decide_eq_false (fun e => by simp [e] at h)]
  · simp only [TT, RR, flagOf, gslot, aop, ev, cv, putA, pickAV, if_false, if_true, Nat.reduceAdd, Nat.reduceSub, true_implies, reduceCtorEq, false_implies, implies_true, retAll, retOne, oneOf, cond_true, cond_false, rd, wr, joinT, splice, lay, layRows, abuiltin, abPure, abMem, szv, asNat, loOf, aslice, kindOf, szOf, Nat.reduceLeDiff, Nat.reduceLT, Nat.reduceMul, Nat.reduceEqDiff, ne_eq, Int.reduceLT, Int.reduceLE, Int.reduceEq, hs.get, hs.app, hs.len, hs.szk, hs'.get, hs'.app, hs'.len, hs'.szk, List.length_map]
    refine ⟨fun h => absurd h (by omega), fun _ => wk_same ?_⟩
    rw [List.take_length, hl, List.take_length] at hV
    rw [decide_eq_true hV]
theorem L_markStepS (id lc n : Nat) (k : Int) (xs : List GStep) (H : Heap) (hH : H[id]? = some (some (.arr 4 (xs.map eStep)))) (hn : n ≤ xs.length) (hm : n ≤ 1048576) (h0 : 0 ≤ k) (h1 : k ≤ 1099511627776) :
    ADet Try.prog 55 [.own id 4 0 n lc, .int .i64 k] H (.int .i64 (k + 4 * n)) (H.set id (some (.arr 4 (Mk eStep mStep 4 k xs n)))) := by
  have hl := lt_of_blk hH
  refine adet_run hT (fun _ => false) Try.func55 rfl (by kernel_rfl) (by kernel_rfl) ?_
  simp only [TT, RR, flagOf, gslot, aop, ev, cv, putA, pickAV, if_false, if_true, Nat.reduceAdd, Nat.reduceSub, true_implies, reduceCtorEq, false_implies, implies_true, retAll, retOne, oneOf, cond_true, cond_false, rd, wr, joinT, splice, lay, layRows, abuiltin, abPure, abMem, szv, asNat, loOf, aslice, kindOf, szOf, Nat.reduceLeDiff, Nat.reduceLT, Nat.reduceMul, Nat.reduceEqDiff, ne_eq, Int.reduceLT, Int.reduceLE, Int.reduceEq, Try.ntmps55, Try.results55]
  refine lp_up hT n (fun j => [.own id 4 0 n lc, .int .i64 (k + 4 * j), .any, .any, .int .i64 0, .int .i64 (j : Int), .any, .any, .any, .any, .any, .any, .any, .any, .any, .any, .any, .any, .any, .any, .any, .any, .any, .any, .any, .any, .any, .any, .any, .any, .any, .any, .any, .any, .any, .any, .any, .any, .any, .any, .any, .any, .any]) (fun j => H.set id (some (.arr 4 (Mk eStep mStep 4 k xs j)))) (fun _ => True) (by kernel_rfl) trivial ?_ (fun j hj _ => ?_) (fun _ => ?_)
  · exact wk_any (by rw [mk_0, hset_same hH]) (by simp only [anyL_nil, anyL_any, anyL_same, anyL_int, anyL_bool, and_true, true_and]; omega)
  · have hj' := Nat.lt_of_lt_of_le hj hn
    have hg : ∀ r, ((Mk eStep mStep 4 k xs j).set j r).getD j [] = r := fun r => getD_set (by rw [mk_len (by omega)]; exact hj')
    have w1 : IntKind.i64.wrap (k + 4 * (j : Int) + 1) = k + 4 * j + 1 := by rw [wrap_k (by omega) (by omega)]; try omega
    have w2 : IntKind.i64.wrap (k + 4 * (j : Int) + 1 + 1) = k + 4 * j + 2 := by rw [wrap_k (by omega) (by omega)]; try omega
    have w3 : IntKind.i64.wrap (k + 4 * (j : Int) + 2 + 1) = k + 4 * j + 3 := by rw [wrap_k (by omega) (by omega)]; try omega
    have w4 : IntKind.i64.wrap (k + 4 * (j : Int) + 3 + 1) = k + 4 * j + 4 := by rw [wrap_k (by omega) (by omega)]; try omega
    simp only [TT, RR, flagOf, gslot, aop, ev, cv, putA, pickAV, if_false, if_true, Nat.reduceAdd, Nat.reduceSub, true_implies, reduceCtorEq, false_implies, implies_true, retAll, retOne, oneOf, cond_true, cond_false, rd, wr, joinT, splice, lay, layRows, abuiltin, abPure, abMem, szv, asNat, loOf, aslice, kindOf, szOf, Nat.reduceLeDiff, Nat.reduceLT, Nat.reduceMul, Nat.reduceEqDiff, ne_eq, Int.reduceLT, Int.reduceLE, Int.reduceEq, hset_get hl, List.set_set, mk_len (Nat.le_of_lt hj'), List.length_set, hg, getD_take hj, mk_at hj', eStep, w1, w2, w3, w4]
    refine ⟨fun _ => ⟨by omega, hn, by omega, hn, by omega, hn, by omega, hn, ?_⟩, fun h => absurd (by omega) h⟩
    exact wk_any (congrArg (fun r => H.set id (some (Blk.arr 4 r))) (mk_set (g := mStep) hj')) (by simp only [anyL_nil, anyL_any, anyL_same, anyL_int, anyL_bool, and_true, true_and]; rw [wrap_succ (by omega)]; omega)
  · simp only [TT, RR, flagOf, gslot, aop, ev, cv, putA, pickAV, if_false, if_true, Nat.reduceAdd, Nat.reduceSub, true_implies, reduceCtorEq, false_implies, implies_true, retAll, retOne, oneOf, cond_true, cond_false, rd, wr, joinT, splice, lay, layRows, abuiltin, abPure, abMem, szv, asNat, loOf, aslice, kindOf, szOf, Nat.reduceLeDiff, Nat.reduceLT, Nat.reduceMul, Nat.reduceEqDiff, ne_eq, Int.reduceLT, Int.reduceLE, Int.reduceEq, hset_get hl, List.set_set, mk_len hn]
    exact ⟨fun h => absurd h (by omega), fun _ => Wk.refl⟩
theorem L_heldStepS (s : AV) (n : Nat) (k : Int) (H : Heap) (hs : Sl H s 4 ((mks mStep 4 k n).map eStep)) (hm : n ≤ 1048576) (h0 : 0 ≤ k) (h1 : k ≤ 1099511627776) :
    ADet Try.prog 133 [s, .int .i64 k] H (.int .i64 (k + 4 * n)) H := by
  refine adet_run hT (fun _ => false) Try.func133 rfl (by kernel_rfl) (by kernel_rfl) ?_
  simp only [TT, RR, flagOf, gslot, aop, ev, cv, putA, pickAV, if_false, if_true, Nat.reduceAdd, Nat.reduceSub, true_implies, reduceCtorEq, false_implies, implies_true, retAll, retOne, oneOf, cond_true, cond_false, rd, wr, joinT, splice, lay, layRows, abuiltin, abPure, abMem, szv, asNat, loOf, aslice, kindOf, szOf, Nat.reduceLeDiff, Nat.reduceLT, Nat.reduceMul, Nat.reduceEqDiff, ne_eq, Int.reduceLT, Int.reduceLE, Int.reduceEq, Try.ntmps133, Try.results133]
  refine lp_up hT n (fun j => [s, .int .i64 (k + 4 * j), .any, .any, .int .i64 0, .int .i64 (j : Int), .any, .any, .any, .any, .any, .any, .any, .any, .any, .any, .any, .any, .any, .any, .any, .any, .any, .any, .any, .any, .any, .any, .any, .any, .any, .any, .any, .any, .any, .any, .any, .any, .any, .any, .any, .any, .any, .any, .any, .any, .any, .any, .any, .any, .any]) (fun j => H) (fun _ => True) (by kernel_rfl) trivial ?_ (fun j hj _ => ?_) (fun _ => ?_)
  · exact wk_any rfl (by simp only [anyL_nil, anyL_any, anyL_same, anyL_int, anyL_bool, and_true, true_and]; omega)
  · have hj' : j < (mks mStep 4 k n).length := by rw [mks_len]; exact hj
    have w1 : IntKind.i64.wrap (k + 4 * (j : Int) + 1) = k + 4 * j + 1 := by rw [wrap_k (by omega) (by omega)]; try omega
    have w2 : IntKind.i64.wrap (k + 4 * (j : Int) + 1 + 1) = k + 4 * j + 2 := by rw [wrap_k (by omega) (by omega)]; try omega
    have w3 : IntKind.i64.wrap (k + 4 * (j : Int) + 2 + 1) = k + 4 * j + 3 := by rw [wrap_k (by omega) (by omega)]; try omega
    have w4 : IntKind.i64.wrap (k + 4 * (j : Int) + 3 + 1) = k + 4 * j + 4 := by rw [wrap_k (by omega) (by omega)]; try omega
    simp only [TT, RR, flagOf, gslot, aop, ev, cv, putA, pickAV, if_false, if_true, Nat.reduceAdd, Nat.reduceSub, true_implies, reduceCtorEq, false_implies, implies_true, retAll, retOne, oneOf, cond_true, cond_false, rd, wr, joinT, splice, lay, layRows, abuiltin, abPure, abMem, szv, asNat, loOf, aslice, kindOf, szOf, Nat.reduceLeDiff, Nat.reduceLT, Nat.reduceMul, Nat.reduceEqDiff, ne_eq, Int.reduceLT, Int.reduceLE, Int.reduceEq, hs.get, hs.app, hs.len, hs.szk, List.length_map, mks_len, getD_map hj', mks_get hj', eStep, mStep, bit3, w1, w2, w3, w4]
    refine ⟨fun _ => ?_, fun h => absurd (by omega) h⟩
    repeat' (first | (refine wk_any rfl (by simp only [anyL_nil, anyL_any, anyL_same, anyL_int, anyL_bool, and_true, true_and]; rw [wrap_succ (by omega)]; omega)) | (with_reducible refine And.intro ?_ ?_) | (with_reducible intro h))
    all_goals first | omega | exact absurd rfl h | simp at h
  · simp only [TT, RR, flagOf, gslot, aop, ev, cv, putA, pickAV, if_false, if_true, Nat.reduceAdd, Nat.reduceSub, true_implies, reduceCtorEq, false_implies, implies_true, retAll, retOne, oneOf, cond_true, cond_false, rd, wr, joinT, splice, lay, layRows, abuiltin, abPure, abMem, szv, asNat, loOf, aslice, kindOf, szOf, Nat.reduceLeDiff, Nat.reduceLT, Nat.reduceMul, Nat.reduceEqDiff, ne_eq, Int.reduceLT, Int.reduceLE, Int.reduceEq, hs.len, List.length_map, mks_len]
    exact ⟨fun h => absurd h (by omega), fun _ => Wk.refl⟩
theorem L_toBlock (v : GBlock) (H : Heap) : ADet Try.prog 174 [.agg (eBlock v)] H (.agg (eBlock v)) H := by
  refine adet_run hT (fun _ => false) Try.func174 rfl (by kernel_rfl) (by kernel_rfl) ?_
  simp only [TT, RR, flagOf, gslot, aop, ev, cv, putA, pickAV, if_false, if_true, Nat.reduceAdd, Nat.reduceSub, true_implies, reduceCtorEq, false_implies, implies_true, retAll, retOne, oneOf, cond_true, cond_false, rd, wr, joinT, splice, lay, layRows, abuiltin, abPure, abMem, szv, asNat, loOf, aslice, kindOf, szOf, Nat.reduceLeDiff, Nat.reduceLT, Nat.reduceMul, Nat.reduceEqDiff, ne_eq, Int.reduceLT, Int.reduceLE, Int.reduceEq, Try.ntmps174, Try.results174, eBlock]
  exact wk_drop rfl rfl
theorem L_eqBlock (a b : GBlock) (H : Heap) : ADet Try.prog 176 [.agg (eBlock a), .agg (eBlock b)] H (.bool (decide (a = b))) H := by
  refine adet_run hT (fun _ => false) Try.func176 rfl (by kernel_rfl) (by kernel_rfl) ?_
  simp only [TT, RR, flagOf, gslot, aop, ev, cv, putA, pickAV, if_false, if_true, Nat.reduceAdd, Nat.reduceSub, true_implies, reduceCtorEq, false_implies, implies_true, retAll, retOne, oneOf, cond_true, cond_false, rd, wr, joinT, splice, lay, layRows, abuiltin, abPure, abMem, szv, asNat, loOf, aslice, kindOf, szOf, Nat.reduceLeDiff, Nat.reduceLT, Nat.reduceMul, Nat.reduceEqDiff, ne_eq, Int.reduceLT, Int.reduceLE, Int.reduceEq, Try.ntmps176, Try.results176, eBlock]
  obtain ⟨a0, a1⟩ := a
  obtain ⟨b0, b1⟩ := b
  repeat' (first | (refine wk_same ?_) | (refine wk_drop ?_ (by rfl)) | (with_reducible refine And.intro ?_ ?_) | (with_reducible intro _))
  all_goals simp_all
theorem L_szBlockS (s : AV) (n : Nat) (H : Heap) (left : Int) (hs : lenOf s = some n) : ADet Try.prog 142 [s, .int .i64 left] H (.int .i64 (szI left n)) H := by
  refine adet_run hT (fun _ => false) Try.func142 rfl (by kernel_rfl) (by kernel_rfl) ?_
  simp only [TT, RR, flagOf, gslot, aop, ev, cv, putA, pickAV, if_false, if_true, Nat.reduceAdd, Nat.reduceSub, true_implies, reduceCtorEq, false_implies, implies_true, retAll, retOne, oneOf, cond_true, cond_false, rd, wr, joinT, splice, lay, layRows, abuiltin, abPure, abMem, szv, asNat, loOf, aslice, kindOf, szOf, Nat.reduceLeDiff, Nat.reduceLT, Nat.reduceMul, Nat.reduceEqDiff, ne_eq, Int.reduceLT, Int.reduceLE, Int.reduceEq, Try.ntmps142, Try.results142, hs]
  unfold szI
  constructor <;> intro h <;> simp only [h, if_true, if_false] <;> exact Wk.refl
theorem L_toBlockS (s : AV) (xs : List GBlock) (H : Heap) (hs : Sl H s 2 (xs.map eBlock)) (hn : xs.length ≤ 1048576) : ADet Try.prog 144 [s] H (.own H.length 2 0 xs.length xs.length) (H ++ [some (.arr 2 (xs.map eBlock))]) := by
  refine adet_run hT (fun _ => false) Try.func144 rfl (by kernel_rfl) (by kernel_rfl) ?_
  simp only [TT, RR, flagOf, gslot, aop, ev, cv, putA, pickAV, if_false, if_true, Nat.reduceAdd, Nat.reduceSub, true_implies, reduceCtorEq, false_implies, implies_true, retAll, retOne, oneOf, cond_true, cond_false, rd, wr, joinT, splice, lay, layRows, abuiltin, abPure, abMem, szv, asNat, loOf, aslice, kindOf, szOf, Nat.reduceLeDiff, Nat.reduceLT, Nat.reduceMul, Nat.reduceEqDiff, ne_eq, Int.reduceLT, Int.reduceLE, Int.reduceEq, Try.ntmps144, Try.results144, hs.get, hs.app, hs.len, hs.szk, List.length_map]
  refine ⟨by omega, lp_up hT xs.length (fun j => [s, .any, .any, .own H.length 2 0 xs.length xs.length, .int .i64 (j : Int), .any, .any, .any, .any, .any, .any, .any, .any, .any, .any, .any, .any, .any, .any, .any, .any, .any, .any]) (fun j => H ++ [some (.arr 2 (Fill (xs.map eBlock) [.int .i64 0, .int .i64 0] j))]) (fun _ => True) (by kernel_rfl) trivial ?_ (fun j hj _ => ?_) (fun _ => ?_)⟩
  · exact wk_any (by rw [← fill_0, List.length_map]) (by simp only [anyL_nil, anyL_any, anyL_same, anyL_int, anyL_bool, and_true, true_and]; trivial)
  · simp only [TT, RR, flagOf, gslot, aop, ev, cv, putA, pickAV, if_false, if_true, Nat.reduceAdd, Nat.reduceSub, true_implies, reduceCtorEq, false_implies, implies_true, retAll, retOne, oneOf, cond_true, cond_false, rd, wr, joinT, splice, lay, layRows, abuiltin, abPure, abMem, szv, asNat, loOf, aslice, kindOf, szOf, Nat.reduceLeDiff, Nat.reduceLT, Nat.reduceMul, Nat.reduceEqDiff, ne_eq, Int.reduceLT, Int.reduceLE, Int.reduceEq, hs.get, hs.app, hs.len, hs.szk, List.length_map, getD_map hj, eBlock, fill_len, fill_at (ys := xs.map eBlock) (j := j) (by simpa using hj), Nat.le_of_lt hj]
    refine ⟨fun _ => ⟨by omega, callA_of (L_toBlock _ _) ?_⟩, fun h => absurd (by omega) h⟩
    simp only [TT, RR, flagOf, gslot, aop, ev, cv, putA, pickAV, if_false, if_true, Nat.reduceAdd, Nat.reduceSub, true_implies, reduceCtorEq, false_implies, implies_true, retAll, retOne, oneOf, cond_true, cond_false, rd, wr, joinT, splice, lay, layRows, abuiltin, abPure, abMem, szv, asNat, loOf, aslice, kindOf, szOf, Nat.reduceLeDiff, Nat.reduceLT, Nat.reduceMul, Nat.reduceEqDiff, ne_eq, Int.reduceLT, Int.reduceLE, Int.reduceEq, fill_len, eBlock, List.length_map, fill_at (ys := xs.map eBlock) (j := j) (by simpa using hj), Nat.le_of_lt hj]
    refine ⟨by omega, by omega, wk_any (congrArg (fun r => H ++ [some (Blk.arr 2 r)]) (fill_set' (by simpa using hj) (getD_map hj))) (by rw [wrap_succ (by omega)]; simp only [anyL_nil, anyL_any, anyL_same, anyL_int, anyL_bool, and_true, true_and])⟩
  · simp only [TT, RR, flagOf, gslot, aop, ev, cv, putA, pickAV, if_false, if_true, Nat.reduceAdd, Nat.reduceSub, true_implies, reduceCtorEq, false_implies, implies_true, retAll, retOne, oneOf, cond_true, cond_false, rd, wr, joinT, splice, lay, layRows, abuiltin, abPure, abMem, szv, asNat, loOf, aslice, kindOf, szOf, Nat.reduceLeDiff, Nat.reduceLT, Nat.reduceMul, Nat.reduceEqDiff, ne_eq, Int.reduceLT, Int.reduceLE, Int.reduceEq, hs.get, hs.app, hs.len, hs.szk, List.length_map]
    refine ⟨fun h => absurd h (by omega), fun _ => ?_⟩
    exact wk_any (by rw [← List.length_map (f := eBlock), fill_n]) (by simp only [anyL_nil, anyL_any, anyL_same, anyL_int, anyL_bool, and_true, true_and])
theorem L_eqBlockS (s s' : AV) (xs ys : List GBlock) (H : Heap) (hs : Sl H s 2 (xs.map eBlock)) (hs' : Sl H s' 2 (ys.map eBlock)) (hn : xs.length ≤ 1048576) : ADet Try.prog 146 [s, s'] H (.bool (decide (xs = ys))) H := by
  refine adet_run hT (fun _ => false) Try.func146 rfl (by kernel_rfl) (by kernel_rfl) ?_
  simp only [TT, RR, flagOf, gslot, aop, ev, cv, putA, pickAV, if_false, if_true, Nat.reduceAdd, Nat.reduceSub, true_implies, reduceCtorEq, false_implies, implies_true, retAll, retOne, oneOf, cond_true, cond_false, rd, wr, joinT, splice, lay, layRows, abuiltin, abPure, abMem, szv, asNat, loOf, aslice, kindOf, szOf, Nat.reduceLeDiff, Nat.reduceLT, Nat.reduceMul, Nat.reduceEqDiff, ne_eq, Int.reduceLT, Int.reduceLE, Int.reduceEq, Try.ntmps146, Try.results146, hs.get, hs.app, hs.len, hs.szk, hs'.get, hs'.app, hs'.len, hs'.szk, List.length_map]
  refine ⟨fun h => wk_same ?_, fun h => ?_⟩
  · rw [decide_eq_false (fun e => h (by rw [e]))]
  have hl : xs.length = ys.length := by omega
  refine lp_up hT xs.length (fun j => [s, s', .any, .any, .any, .int .i64 (j : Int), .any, .any, .any, .any, .any, .any, .any, .any, .any, .any, .any, .any, .any, .any, .any, .any, .any, .any, .any, .any, .any]) (fun j => H) (fun j => xs.take j = ys.take j) (by kernel_rfl) rfl ?_ (fun j hj hV => ?_) (fun hV => ?_)
  · exact wk_any rfl (by simp only [anyL_nil, anyL_any, anyL_same, anyL_int, anyL_bool, and_true, true_and]; trivial)
  · have hj' : j < ys.length := hl ▸ hj
    simp only [TT, RR, flagOf, gslot, aop, ev, cv, putA, pickAV, if_false, if_true, Nat.reduceAdd, Nat.reduceSub, true_implies, reduceCtorEq, false_implies, implies_true, retAll, retOne, oneOf, cond_true, cond_false, rd, wr, joinT, splice, lay, layRows, abuiltin, abPure, abMem, szv, asNat, loOf, aslice, kindOf, szOf, Nat.reduceLeDiff, Nat.reduceLT, Nat.reduceMul, Nat.reduceEqDiff, ne_eq, Int.reduceLT, Int.reduceLE, Int.reduceEq, hs.get, hs.app, hs.len, hs.szk, hs'.get, hs'.app, hs'.len, hs'.szk, List.length_map, getD_map hj, getD_map hj', eBlock]
    refine ⟨fun _ => ⟨by omega, by omega, callD_of (L_eqBlock _ _ _) ?_⟩, fun h => absurd (by omega) h⟩
    simp only [TT, RR, flagOf, gslot, aop, ev, cv, putA, pickAV, if_false, if_true, Nat.reduceAdd, Nat.reduceSub, true_implies, reduceCtorEq, false_implies, implies_true, retAll, retOne, oneOf, cond_true, cond_false, rd, wr, joinT, splice, lay, layRows, abuiltin, abPure, abMem, szv, asNat, loOf, aslice, kindOf, szOf, Nat.reduceLeDiff, Nat.reduceLT, Nat.reduceMul, Nat.reduceEqDiff, ne_eq, Int.reduceLT, Int.reduceLE, Int.reduceEq]
    refine ⟨fun h => wk_same ?_, fun h => ⟨take_ne hj hj' hV (by simpa using h), wk_any rfl (by simp only [anyL_nil, anyL_any, anyL_same, anyL_int, anyL_bool, and_true, true_and]; rw [wrap_succ (by omega)])⟩⟩
    rw [decide_eq_false (fun e => by simp [e] at h)]
  · simp only [TT, RR, flagOf, gslot, aop, ev, cv, putA, pickAV, if_false, if_true, Nat.reduceAdd, Nat.reduceSub, true_implies, reduceCtorEq, false_implies, implies_true, retAll, retOne, oneOf, cond_true, cond_false, rd, wr, joinT, splice, lay, layRows, abuiltin, abPure, abMem, szv, asNat, loOf, aslice, kindOf, szOf, Nat.reduceLeDiff, Nat.reduceLT, Nat.reduceMul, Nat.reduceEqDiff, ne_eq, Int.reduceLT, Int.reduceLE, Int.reduceEq, hs.get, hs.app, hs.len, hs.szk, hs'.get, hs'.app, hs'.len, hs'.szk, List.length_map]
    refine ⟨fun h => absurd h (by omega), fun _ => wk_same ?_⟩
    rw [List.take_length, hl, List.take_length] at hV
    rw [decide_eq_true hV]
theorem L_markBlockS (id lc n : Nat) (k : Int) (xs : List GBlock) (H : Heap) (hH : H[id]? = some (some (.arr 2 (xs.map eBlock)))) (hn : n ≤ xs.length) (hm : n ≤ 1048576) (h0 : 0 ≤ k) (h1 : k ≤ 1099511627776) :
    ADet Try.prog 179 [.own id 2 0 n lc, .int .i64 k] H (.int .i64 (k + 2 * n)) (H.set id (some (.arr 2 (Mk eBlock mBlock 2 k xs n)))) := by
  have hl := lt_of_blk hH
  refine adet_run hT (fun _ => false) Try.func179 rfl (by kernel_rfl) (by kernel_rfl) ?_
  simp only [TT, RR, flagOf, gslot, aop, ev, cv, putA, pickAV, if_false, if_true, Nat.reduceAdd, Nat.reduceSub, true_implies, reduceCtorEq, false_implies, implies_true, retAll, retOne, oneOf, cond_true, cond_false, rd, wr, joinT, splice, lay, layRows, abuiltin, abPure, abMem, szv, asNat, loOf, aslice, kindOf, szOf, Nat.reduceLeDiff, Nat.reduceLT, Nat.reduceMul, Nat.reduceEqDiff, ne_eq, Int.reduceLT, Int.reduceLE, Int.reduceEq, Try.ntmps179, Try.results179]
  refine lp_up hT n (fun j => [.own id 2 0 n lc, .int .i64 (k + 2 * j), .any, .any, .int .i64 0, .int .i64 (j : Int), .any, .any, .any, .any, .any, .any, .any, .any, .any, .any, .any, .any, .any, .any, .any, .any, .any, .any, .any, .any, .any]) (fun j => H.set id (some (.arr 2 (Mk eBlock mBlock 2 k xs j)))) (fun _ => True) (by kernel_rfl) trivial ?_ (fun j hj _ => ?_) (fun _ => ?_)
  · exact wk_any (by rw [mk_0, hset_same hH]) (by simp only [anyL_nil, anyL_any, anyL_same, anyL_int, anyL_bool, and_true, true_and]; omega)
  · have hj' := Nat.lt_of_lt_of_le hj hn
    have hg : ∀ r, ((Mk eBlock mBlock 2 k xs j).set j r).getD j [] = r := fun r => getD_set (by rw [mk_len (by omega)]; exact hj')
    have w1 : IntKind.i64.wrap (k + 2 * (j : Int) + 1) = k + 2 * j + 1 := by rw [wrap_k (by omega) (by omega)]; try omega
    have w2 : IntKind.i64.wrap (k + 2 * (j : Int) + 1 + 1) = k + 2 * j + 2 := by rw [wrap_k (by omega) (by omega)]; try omega
    simp only [TT, RR, flagOf, gslot, aop, ev, cv, putA, pickAV, if_false, if_true, Nat.reduceAdd, Nat.reduceSub, true_implies, reduceCtorEq, false_implies, implies_true, retAll, retOne, oneOf, cond_true, cond_false, rd, wr, joinT, splice, lay, layRows, abuiltin, abPure, abMem, szv, asNat, loOf, aslice, kindOf, szOf, Nat.reduceLeDiff, Nat.reduceLT, Nat.reduceMul, Nat.reduceEqDiff, ne_eq, Int.reduceLT, Int.reduceLE, Int.reduceEq, hset_get hl, List.set_set, mk_len (Nat.le_of_lt hj'), List.length_set, hg, getD_take hj, mk_at hj', eBlock, w1, w2]
    refine ⟨fun _ => ⟨by omega, hn, by omega, hn, ?_⟩, fun h => absurd (by omega) h⟩
    exact wk_any (congrArg (fun r => H.set id (some (Blk.arr 2 r))) (mk_set (g := mBlock) hj')) (by simp only [anyL_nil, anyL_any, anyL_same, anyL_int, anyL_bool, and_true, true_and]; rw [wrap_succ (by omega)]; omega)
  · simp only [TT, RR, flagOf, gslot, aop, ev, cv, putA, pickAV, if_false, if_true, Nat.reduceAdd, Nat.reduceSub, true_implies, reduceCtorEq, false_implies, implies_true, retAll, retOne, oneOf, cond_true, cond_false, rd, wr, joinT, splice, lay, layRows, abuiltin, abPure, abMem, szv, asNat, loOf, aslice, kindOf, szOf, Nat.reduceLeDiff, Nat.reduceLT, Nat.reduceMul, Nat.reduceEqDiff, ne_eq, Int.reduceLT, Int.reduceLE, Int.reduceEq, hset_get hl, List.set_set, mk_len hn]
    exact ⟨fun h => absurd h (by omega), fun _ => Wk.refl⟩
theorem L_heldBlockS (s : AV) (n : Nat) (k : Int) (H : Heap) (hs : Sl H s 2 ((mks mBlock 2 k n).map eBlock)) (hm : n ≤ 1048576) (h0 : 0 ≤ k) (h1 : k ≤ 1099511627776) :
    ADet Try.prog 181 [s, .int .i64 k] H (.int .i64 (k + 2 * n)) H := by
  refine adet_run hT (fun _ => false) Try.func181 rfl (by kernel_rfl) (by kernel_rfl) ?_
  simp only [TT, RR, flagOf, gslot, aop, ev, cv, putA, pickAV, if_false, if_true, Nat.reduceAdd, Nat.reduceSub, true_implies, reduceCtorEq, false_implies, implies_true, retAll, retOne, oneOf, cond_true, cond_false, rd, wr, joinT, splice, lay, layRows, abuiltin, abPure, abMem, szv, asNat, loOf, aslice, kindOf, szOf, Nat.reduceLeDiff, Nat.reduceLT, Nat.reduceMul, Nat.reduceEqDiff, ne_eq, Int.reduceLT, Int.reduceLE, Int.reduceEq, Try.ntmps181, Try.results181]
  refine lp_up hT n (fun j => [s, .int .i64 (k + 2 * j), .any, .any, .int .i64 0, .int .i64 (j : Int), .any, .any, .any, .any, .any, .any, .any, .any, .any, .any, .any, .any, .any, .any, .any, .any, .any, .any, .any, .any, .any, .any, .any, .any, .any]) (fun j => H) (fun _ => True) (by kernel_rfl) trivial ?_ (fun j hj _ => ?_) (fun _ => ?_)
  · exact wk_any rfl (by simp only [anyL_nil, anyL_any, anyL_same, anyL_int, anyL_bool, and_true, true_and]; omega)
  · have hj' : j < (mks mBlock 2 k n).length := by rw [mks_len]; exact hj
    have w1 : IntKind.i64.wrap (k + 2 * (j : Int) + 1) = k + 2 * j + 1 := by rw [wrap_k (by omega) (by omega)]; try omega
    have w2 : IntKind.i64.wrap (k + 2 * (j : Int) + 1 + 1) = k + 2 * j + 2 := by rw [wrap_k (by omega) (by omega)]; try omega
    simp only [TT, RR, flagOf, gslot, aop, ev, cv, putA, pickAV, if_false, if_true, Nat.reduceAdd, Nat.reduceSub, true_implies, reduceCtorEq, false_implies, implies_true, retAll, retOne, oneOf, cond_true, cond_false, rd, wr, joinT, splice, lay, layRows, abuiltin, abPure, abMem, szv, asNat, loOf, aslice, kindOf, szOf, Nat.reduceLeDiff, Nat.reduceLT, Nat.reduceMul, Nat.reduceEqDiff, ne_eq, Int.reduceLT, Int.reduceLE, Int.reduceEq, hs.get, hs.app, hs.len, hs.szk, List.length_map, mks_len, getD_map hj', mks_get hj', eBlock, mBlock, bit3, w1, w2]
    refine ⟨fun _ => ?_, fun h => absurd (by omega) h⟩
    repeat' (first | (refine wk_any rfl (by simp only [anyL_nil, anyL_any, anyL_same, anyL_int, anyL_bool, and_true, true_and]; rw [wrap_succ (by omega)]; omega)) | (with_reducible refine And.intro ?_ ?_) | (with_reducible intro h))
    all_goals first | omega | exact absurd rfl h | simp at h
  · simp only [TT, RR, flagOf, gslot, aop, ev, cv, putA, pickAV, if_false, if_true, Nat.reduceAdd, Nat.reduceSub, true_implies, reduceCtorEq, false_implies, implies_true, retAll, retOne, oneOf, cond_true, cond_false, rd, wr, joinT, splice, lay, layRows, abuiltin, abPure, abMem, szv, asNat, loOf, aslice, kindOf, szOf, Nat.reduceLeDiff, Nat.reduceLT, Nat.reduceMul, Nat.reduceEqDiff, ne_eq, Int.reduceLT, Int.reduceLE, Int.reduceEq, hs.len, List.length_map, mks_len]
    exact ⟨fun h => absurd h (by omega), fun _ => Wk.refl⟩
theorem L_toSession (v : GSession) (H : Heap) : ADet Try.prog 107 [.agg (eSession v)] H (.agg (eSession v)) H := by
  refine adet_run hT (fun _ => false) Try.func107 rfl (by kernel_rfl) (by kernel_rfl) ?_
  simp only [TT, RR, flagOf, gslot, aop, ev, cv, putA, pickAV, if_false, if_true, Nat.reduceAdd, Nat.reduceSub, true_implies, reduceCtorEq, false_implies, implies_true, retAll, retOne, oneOf, cond_true, cond_false, rd, wr, joinT, splice, lay, layRows, abuiltin, abPure, abMem, szv, asNat, loOf, aslice, kindOf, szOf, Nat.reduceLeDiff, Nat.reduceLT, Nat.reduceMul, Nat.reduceEqDiff, ne_eq, Int.reduceLT, Int.reduceLE, Int.reduceEq, Try.ntmps107, Try.results107, eSession]
  exact wk_drop rfl rfl
theorem L_eqSession (a b : GSession) (H : Heap) : ADet Try.prog 113 [.agg (eSession a), .agg (eSession b)] H (.bool (decide (a = b))) H := by
  refine adet_run hT (fun _ => false) Try.func113 rfl (by kernel_rfl) (by kernel_rfl) ?_
  simp only [TT, RR, flagOf, gslot, aop, ev, cv, putA, pickAV, if_false, if_true, Nat.reduceAdd, Nat.reduceSub, true_implies, reduceCtorEq, false_implies, implies_true, retAll, retOne, oneOf, cond_true, cond_false, rd, wr, joinT, splice, lay, layRows, abuiltin, abPure, abMem, szv, asNat, loOf, aslice, kindOf, szOf, Nat.reduceLeDiff, Nat.reduceLT, Nat.reduceMul, Nat.reduceEqDiff, ne_eq, Int.reduceLT, Int.reduceLE, Int.reduceEq, Try.ntmps113, Try.results113, eSession]
  obtain ⟨a0, a1, a2, a3⟩ := a
  obtain ⟨b0, b1, b2, b3⟩ := b
  repeat' (first | (refine wk_same ?_) | (refine wk_drop ?_ (by rfl)) | (with_reducible refine And.intro ?_ ?_) | (with_reducible intro _))
  all_goals simp_all
theorem L_szSessionS (s : AV) (n : Nat) (H : Heap) (left : Int) (hs : lenOf s = some n) : ADet Try.prog 58 [s, .int .i64 left] H (.int .i64 (szI left n)) H := by
  refine adet_run hT (fun _ => false) Try.func58 rfl (by kernel_rfl) (by kernel_rfl) ?_
  simp only [TT, RR, flagOf, gslot, aop, ev, cv, putA, pickAV, if_false, if_true, Nat.reduceAdd, Nat.reduceSub, true_implies, reduceCtorEq, false_implies, implies_true, retAll, retOne, oneOf, cond_true, cond_false, rd, wr, joinT, splice, lay, layRows, abuiltin, abPure, abMem, szv, asNat, loOf, aslice, kindOf, szOf, Nat.reduceLeDiff, Nat.reduceLT, Nat.reduceMul, Nat.reduceEqDiff, ne_eq, Int.reduceLT, Int.reduceLE, Int.reduceEq, Try.ntmps58, Try.results58, hs]
  unfold szI
  constructor <;> intro h <;> simp only [h, if_true, if_false] <;> exact Wk.refl
theorem L_toSessionS (s : AV) (xs : List GSession) (H : Heap) (hs : Sl H s 4 (xs.map eSession)) (hn : xs.length ≤ 1048576) : ADet Try.prog 61 [s] H (.own H.length 4 0 xs.length xs.length) (H ++ [some (.arr 4 (xs.map eSession))]) := by
  refine adet_run hT (fun _ => false) Try.func61 rfl (by kernel_rfl) (by kernel_rfl) ?_
  simp only [TT, RR, flagOf, gslot, aop, ev, cv, putA, pickAV, if_false, if_true, Nat.reduceAdd, Nat.reduceSub, true_implies, reduceCtorEq, false_implies, implies_true, retAll, retOne, oneOf, cond_true, cond_false, rd, wr, joinT, splice, lay, layRows, abuiltin, abPure, abMem, szv, asNat, loOf, aslice, kindOf, szOf, Nat.reduceLeDiff, Nat.reduceLT, Nat.reduceMul, Nat.reduceEqDiff, ne_eq, Int.reduceLT, Int.reduceLE, Int.reduceEq, Try.ntmps61, Try.results61, hs.get, hs.app, hs.len, hs.szk, List.length_map]
  refine ⟨by omega, lp_up hT xs.length (fun j => [s, .any, .any, .own H.length 4 0 xs.length xs.length, .int .i64 (j : Int), .any, .any, .any, .any, .any, .any, .any, .any, .any, .any, .any, .any, .any, .any, .any, .any, .any, .any]) (fun j => H ++ [some (.arr 4 (Fill (xs.map eSession) [.int .i64 0, .int .i64 0, .int .i64 0, .int .i64 0] j))]) (fun _ => True) (by kernel_rfl) trivial ?_ (fun j hj _ => ?_) (fun _ => ?_)⟩
  · exact wk_any (by rw [← fill_0, List.length_map]) (by simp only [anyL_nil, anyL_any, anyL_same, anyL_int, anyL_bool, and_true, true_and]; trivial)
  · simp only [TT, RR, flagOf, gslot, aop, ev, cv, putA, pickAV, if_false, if_true, Nat.reduceAdd, Nat.reduceSub, true_implies, reduceCtorEq, false_implies, implies_true, retAll, retOne, oneOf, cond_true, cond_false, rd, wr, joinT, splice, lay, layRows, abuiltin, abPure, abMem, szv, asNat, loOf, aslice, kindOf, szOf, Nat.reduceLeDiff, Nat.reduceLT, Nat.reduceMul, Nat.reduceEqDiff, ne_eq, Int.reduceLT, Int.reduceLE, Int.reduceEq, hs.get, hs.app, hs.len, hs.szk, List.length_map, getD_map hj, eSession, fill_len, fill_at (ys := xs.map eSession) (j := j) (by simpa using hj), Nat.le_of_lt hj]
    refine ⟨fun _ => ⟨by omega, callA_of (L_toSession _ _) ?_⟩, fun h => absurd (by omega) h⟩
    simp only [TT, RR, flagOf, gslot, aop, ev, cv, putA, pickAV, if_false, if_true, Nat.reduceAdd, Nat.reduceSub, true_implies, reduceCtorEq, false_implies, implies_true, retAll, retOne, oneOf, cond_true, cond_false, rd, wr, joinT, splice, lay, layRows, abuiltin, abPure, abMem, szv, asNat, loOf, aslice, kindOf, szOf, Nat.reduceLeDiff, Nat.reduceLT, Nat.reduceMul, Nat.reduceEqDiff, ne_eq, Int.reduceLT, Int.reduceLE, Int.reduceEq, fill_len, eSession, List.length_map, fill_at (ys := xs.map eSession) (j := j) (by simpa using hj), Nat.le_of_lt hj]
    refine ⟨by omega, by omega, wk_any (congrArg (fun r => H ++ [some (Blk.arr 4 r)]) (fill_set' (by simpa using hj) (getD_map hj))) (by rw [wrap_succ (by omega)]; simp only [anyL_nil, anyL_any, anyL_same, anyL_int, anyL_bool, and_true, true_and])⟩
  · simp only [TT, RR, flagOf, gslot, aop, ev, cv, putA, pickAV, if_false, if_true, Nat.reduceAdd, Nat.reduceSub, true_implies, reduceCtorEq, false_implies, implies_true, retAll, retOne, oneOf, cond_true, cond_false, rd, wr, joinT, splice, lay, layRows, abuiltin, abPure, abMem, szv, asNat, loOf, aslice, kindOf, szOf, Nat.reduceLeDiff, Nat.reduceLT, Nat.reduceMul, Nat.reduceEqDiff, ne_eq, Int.reduceLT, Int.reduceLE, Int.reduceEq, hs.get, hs.app, hs.len, hs.szk, List.length_map]
    refine ⟨fun h => absurd h (by omega), fun _ => ?_⟩
    exact wk_any (by rw [← List.length_map (f := eSession), fill_n]) (by simp only [anyL_nil, anyL_any, anyL_same, anyL_int, anyL_bool, and_true, true_and])
theorem L_eqSessionS (s s' : AV) (xs ys : List GSession) (H : Heap) (hs : Sl H s 4 (xs.map eSession)) (hs' : Sl H s' 4 (ys.map eSession)) (hn : xs.length ≤ 1048576) : ADet Try.prog 65 [s, s'] H (.bool (decide (xs = ys))) H := by
  refine adet_run hT (fun _ => false) Try.func65 rfl (by kernel_rfl) (by kernel_rfl) ?_
  simp only [TT, RR, flagOf, gslot, aop, ev, cv, putA, pickAV, if_false, if_true, Nat.reduceAdd, Nat.reduceSub, true_implies, reduceCtorEq, false_implies, implies_true, retAll, retOne, oneOf, cond_true, cond_false, rd, wr, joinT, splice, lay, layRows, abuiltin, abPure, abMem, szv, asNat, loOf, aslice, kindOf, szOf, Nat.reduceLeDiff, Nat.reduceLT, Nat.reduceMul, Nat.reduceEqDiff, ne_eq, Int.reduceLT, Int.reduceLE, Int.reduceEq, Try.ntmps65, Try.results65, hs.get, hs.app, hs.len, hs.szk, hs'.get, hs'.app, hs'.len, hs'.szk, List.length_map]
  refine ⟨fun h => wk_same ?_, fun h => ?_⟩
  · rw [decide_eq_false (fun e => h (by rw [e]))]
  have hl : xs.length = ys.length := by omega
  refine lp_up hT xs.length (fun j => [s, s', .any, .any, .any, .int .i64 (j : Int), .any, .any, .any, .any, .any, .any, .any, .any, .any, .any, .any, .any, .any, .any, .any, .any, .any, .any, .any, .any, .any]) (fun j => H) (fun j => xs.take j = ys.take j) (by kernel_rfl) rfl ?_ (fun j hj hV => ?_) (fun hV => ?_)
  · exact wk_any rfl (by simp only [anyL_nil, anyL_any, anyL_same, anyL_int, anyL_bool, and_true, true_and]; trivial)
  · have hj' : j < ys.length := hl ▸ hj
    simp only [TT, RR, flagOf, gslot, aop, ev, cv, putA, pickAV, if_false, if_true, Nat.reduceAdd, Nat.reduceSub, true_implies, reduceCtorEq, false_implies, implies_true, retAll, retOne, oneOf, cond_true, cond_false, rd, wr, joinT, splice, lay, layRows, abuiltin, abPure, abMem, szv, asNat, loOf, aslice, kindOf, szOf, Nat.reduceLeDiff, Nat.reduceLT, Nat.reduceMul, Nat.reduceEqDiff, ne_eq, Int.reduceLT, Int.reduceLE, Int.reduceEq, hs.get, hs.app, hs.len, hs.szk, hs'.get, hs'.app, hs'.len, hs'.szk, List.length_map, getD_map hj, getD_map hj', eSession]
    refine ⟨fun _ => ⟨by omega, by omega, callD_of (L_eqSession _ _ _) ?_⟩, fun h => absurd (by omega) h⟩
    simp only [TT, RR, flagOf, gslot, aop, ev, cv, putA, pickAV, if_false, if_true, Nat.reduceAdd, Nat.reduceSub, true_implies, reduceCtorEq, false_implies, implies_true, retAll, retOne, oneOf, cond_true, cond_false, rd, wr, joinT, splice, lay, layRows, abuiltin, abPure, abMem, szv, asNat, loOf, aslice, kindOf, szOf, Nat.reduceLeDiff, Nat.reduceLT, Nat.reduceMul, Nat.reduceEqDiff, ne_eq, Int.reduceLT, Int.reduceLE, Int.reduceEq]
    refine ⟨fun h => wk_same ?_, fun h => ⟨take_ne hj hj' hV (by simpa using h), wk_any rfl (by simp only [anyL_nil, anyL_any, anyL_same, anyL_int, anyL_bool, and_true, true_and]; rw [wrap_succ (by omega)])⟩⟩
    rw [decide_eq_false (fun e => by simp [e] at h)]
  · simp only [TT, RR, flagOf, gslot, aop, ev, cv, putA, pickAV, if_false, if_true, Nat.reduceAdd, Nat.reduceSub, true_implies, reduceCtorEq, false_implies, implies_true, retAll, retOne, oneOf, cond_true, cond_false, rd, wr, joinT, splice, lay, layRows, abuiltin, abPure, abMem, szv, asNat, loOf, aslice, kindOf, szOf, Nat.reduceLeDiff, Nat.reduceLT, Nat.reduceMul, Nat.reduceEqDiff, ne_eq, Int.reduceLT, Int.reduceLE, Int.reduceEq, hs.get, hs.app, hs.len, hs.szk, hs'.get, hs'.app, hs'.len, hs'.szk, List.length_map]
    refine ⟨fun h => absurd h (by omega), fun _ => wk_same ?_⟩
    rw [List.take_length, hl, List.take_length] at hV
    rw [decide_eq_true hV]
theorem L_markSessionS (id lc n : Nat) (k : Int) (xs : List GSession) (H : Heap) (hH : H[id]? = some (some (.arr 4 (xs.map eSession)))) (hn : n ≤ xs.length) (hm : n ≤ 1048576) (h0 : 0 ≤ k) (h1 : k ≤ 1099511627776) :
    ADet Try.prog 117 [.own id 4 0 n lc, .int .i64 k] H (.int .i64 (k + 4 * n)) (H.set id (some (.arr 4 (Mk eSession mSession 4 k xs n)))) := by
  have hl := lt_of_blk hH
  refine adet_run hT (fun _ => false) Try.func117 rfl (by kernel_rfl) (by kernel_rfl) ?_
  simp only [TT, RR, flagOf, gslot, aop, ev, cv, putA, pickAV, if_false, if_true, Nat.reduceAdd, Nat.reduceSub, true_implies, reduceCtorEq, false_implies, implies_true, retAll, retOne, oneOf, cond_true, cond_false, rd, wr, joinT, splice, lay, layRows, abuiltin, abPure, abMem, szv, asNat, loOf, aslice, kindOf, szOf, Nat.reduceLeDiff, Nat.reduceLT, Nat.reduceMul, Nat.reduceEqDiff, ne_eq, Int.reduceLT, Int.reduceLE, Int.reduceEq, Try.ntmps117, Try.results117]
  refine lp_up hT n (fun j => [.own id 4 0 n lc, .int .i64 (k + 4 * j), .any, .any, .int .i64 0, .int .i64 (j : Int), .any, .any, .any, .any, .any, .any, .any, .any, .any, .any, .any, .any, .any, .any, .any, .any, .any, .any, .any, .any, .any, .any, .any, .any, .any, .any, .any, .any, .any, .any, .any, .any, .any, .any, .any]) (fun j => H.set id (some (.arr 4 (Mk eSession mSession 4 k xs j)))) (fun _ => True) (by kernel_rfl) trivial ?_ (fun j hj _ => ?_) (fun _ => ?_)
  · exact wk_any (by rw [mk_0, hset_same hH]) (by simp only [anyL_nil, anyL_any, anyL_same, anyL_int, anyL_bool, and_true, true_and]; omega)
  · have hj' := Nat.lt_of_lt_of_le hj hn
    have hg : ∀ r, ((Mk eSession mSession 4 k xs j).set j r).getD j [] = r := fun r => getD_set (by rw [mk_len (by omega)]; exact hj')
    have w1 : IntKind.i64.wrap (k + 4 * (j : Int) + 1) = k + 4 * j + 1 := by rw [wrap_k (by omega) (by omega)]; try omega
    have w2 : IntKind.i64.wrap (k + 4 * (j : Int) + 1 + 1) = k + 4 * j + 2 := by rw [wrap_k (by omega) (by omega)]; try omega
    have w3 : IntKind.i64.wrap (k + 4 * (j : Int) + 2 + 1) = k + 4 * j + 3 := by rw [wrap_k (by omega) (by omega)]; try omega
    have w4 : IntKind.i64.wrap (k + 4 * (j : Int) + 3 + 1) = k + 4 * j + 4 := by rw [wrap_k (by omega) (by omega)]; try omega
    simp only [TT, RR, flagOf, gslot, aop, ev, cv, putA, pickAV, if_false, if_true, Nat.reduceAdd, Nat.reduceSub, true_implies, reduceCtorEq, false_implies, implies_true, retAll, retOne, oneOf, cond_true, cond_false, rd, wr, joinT, splice, lay, layRows, abuiltin, abPure, abMem, szv, asNat, loOf, aslice, kindOf, szOf, Nat.reduceLeDiff, Nat.reduceLT, Nat.reduceMul, Nat.reduceEqDiff, ne_eq, Int.reduceLT, Int.reduceLE, Int.reduceEq, hset_get hl, List.set_set, mk_len (Nat.le_of_lt hj'), List.length_set, hg, getD_take hj, mk_at hj', eSession, w1, w2, w3, w4]
    refine ⟨fun _ => ⟨by omega, hn, by omega, hn, by omega, hn, by omega, hn, ?_⟩, fun h => absurd (by omega) h⟩
    exact wk_any (congrArg (fun r => H.set id (some (Blk.arr 4 r))) (mk_set (g := mSession) hj')) (by simp only [anyL_nil, anyL_any, anyL_same, anyL_int, anyL_bool, and_true, true_and]; rw [wrap_succ (by omega)]; omega)
  · simp only [TT, RR, flagOf, gslot, aop, ev, cv, putA, pickAV, if_false, if_true, Nat.reduceAdd, Nat.reduceSub, true_implies, reduceCtorEq, false_implies, implies_true, retAll, retOne, oneOf, cond_true, cond_false, rd, wr, joinT, splice, lay, layRows, abuiltin, abPure, abMem, szv, asNat, loOf, aslice, kindOf, szOf, Nat.reduceLeDiff, Nat.reduceLT, Nat.reduceMul, Nat.reduceEqDiff, ne_eq, Int.reduceLT, Int.reduceLE, Int.reduceEq, hset_get hl, List.set_set, mk_len hn]
    exact ⟨fun h => absurd h (by omega), fun _ => Wk.refl⟩
theorem L_heldSessionS (s : AV) (n : Nat) (k : Int) (H : Heap) (hs : Sl H s 4 ((mks mSession 4 k n).map eSession)) (hm : n ≤ 1048576) (h0 : 0 ≤ k) (h1 : k ≤ 1099511627776) :
    ADet Try.prog 119 [s, .int .i64 k] H (.int .i64 (k + 4 * n)) H := by
  refine adet_run hT (fun _ => false) Try.func119 rfl (by kernel_rfl) (by kernel_rfl) ?_
  simp only [TT, RR, flagOf, gslot, aop, ev, cv, putA, pickAV, if_false, if_true, Nat.reduceAdd, Nat.reduceSub, true_implies, reduceCtorEq, false_implies, implies_true, retAll, retOne, oneOf, cond_true, cond_false, rd, wr, joinT, splice, lay, layRows, abuiltin, abPure, abMem, szv, asNat, loOf, aslice, kindOf, szOf, Nat.reduceLeDiff, Nat.reduceLT, Nat.reduceMul, Nat.reduceEqDiff, ne_eq, Int.reduceLT, Int.reduceLE, Int.reduceEq, Try.ntmps119, Try.results119]
  refine lp_up hT n (fun j => [s, .int .i64 (k + 4 * j), .any, .any, .int .i64 0, .int .i64 (j : Int), .any, .any, .any, .any, .any, .any, .any, .any, .any, .any, .any, .any, .any, .any, .any, .any, .any, .any, .any, .any, .any, .any, .any, .any, .any, .any, .any, .any, .any, .any, .any, .any, .any, .any, .any, .any, .any, .any, .any, .any, .any, .any, .any]) (fun j => H) (fun _ => True) (by kernel_rfl) trivial ?_ (fun j hj _ => ?_) (fun _ => ?_)
  · exact wk_any rfl (by simp only [anyL_nil, anyL_any, anyL_same, anyL_int, anyL_bool, and_true, true_and]; omega)
  · have hj' : j < (mks mSession 4 k n).length := by rw [mks_len]; exact hj
    have w1 : IntKind.i64.wrap (k + 4 * (j : Int) + 1) = k + 4 * j + 1 := by rw [wrap_k (by omega) (by omega)]; try omega
    have w2 : IntKind.i64.wrap (k + 4 * (j : Int) + 1 + 1) = k + 4 * j + 2 := by rw [wrap_k (by omega) (by omega)]; try omega
    have w3 : IntKind.i64.wrap (k + 4 * (j : Int) + 2 + 1) = k + 4 * j + 3 := by rw [wrap_k (by omega) (by omega)]; try omega
    have w4 : IntKind.i64.wrap (k + 4 * (j : Int) + 3 + 1) = k + 4 * j + 4 := by rw [wrap_k (by omega) (by omega)]; try omega
    simp only [TT, RR, flagOf, gslot, aop, ev, cv, putA, pickAV, if_false, if_true, Nat.reduceAdd, Nat.reduceSub, true_implies, reduceCtorEq, false_implies, implies_true, retAll, retOne, oneOf, cond_true, cond_false, rd, wr, joinT, splice, lay, layRows, abuiltin, abPure, abMem, szv, asNat, loOf, aslice, kindOf, szOf, Nat.reduceLeDiff, Nat.reduceLT, Nat.reduceMul, Nat.reduceEqDiff, ne_eq, Int.reduceLT, Int.reduceLE, Int.reduceEq, hs.get, hs.app, hs.len, hs.szk, List.length_map, mks_len, getD_map hj', mks_get hj', eSession, mSession, bit3, w1, w2, w3, w4]
    refine ⟨fun _ => ?_, fun h => absurd (by omega) h⟩
    repeat' (first | (refine wk_any rfl (by simp only [anyL_nil, anyL_any, anyL_same, anyL_int, anyL_bool, and_true, true_and]; rw [wrap_succ (by omega)]; omega)) | (with_reducible refine And.intro ?_ ?_) | (with_reducible intro h))
    all_goals first | omega | exact absurd rfl h | simp at h
  · simp only [TT, RR, flagOf, gslot, aop, ev, cv, putA, pickAV, if_false, if_true, Nat.reduceAdd, Nat.reduceSub, true_implies, reduceCtorEq, false_implies, implies_true, retAll, retOne, oneOf, cond_true, cond_false, rd, wr, joinT, splice, lay, layRows, abuiltin, abPure, abMem, szv, asNat, loOf, aslice, kindOf, szOf, Nat.reduceLeDiff, Nat.reduceLT, Nat.reduceMul, Nat.reduceEqDiff, ne_eq, Int.reduceLT, Int.reduceLE, Int.reduceEq, hs.len, List.length_map, mks_len]
    exact ⟨fun h => absurd h (by omega), fun _ => Wk.refl⟩
theorem L_szInt64S (s : AV) (n : Nat) (H : Heap) (left : Int) (hs : lenOf s = some n) : ADet Try.prog 72 [s, .int .i64 left] H (.int .i64 (szI left n)) H := by
  refine adet_run hT (fun _ => false) Try.func72 rfl (by kernel_rfl) (by kernel_rfl) ?_
  simp only [TT, RR, flagOf, gslot, aop, ev, cv, putA, pickAV, if_false, if_true, Nat.reduceAdd, Nat.reduceSub, true_implies, reduceCtorEq, false_implies, implies_true, retAll, retOne, oneOf, cond_true, cond_false, rd, wr, joinT, splice, lay, layRows, abuiltin, abPure, abMem, szv, asNat, loOf, aslice, kindOf, szOf, Nat.reduceLeDiff, Nat.reduceLT, Nat.reduceMul, Nat.reduceEqDiff, ne_eq, Int.reduceLT, Int.reduceLE, Int.reduceEq, Try.ntmps72, Try.results72, hs]
  unfold szI
  constructor <;> intro h <;> simp only [h, if_true, if_false] <;> exact Wk.refl
theorem L_toInt64S (s : AV) (xs : List Int) (H : Heap) (hs : Sl H s 1 (xs.map eInt)) (hn : xs.length ≤ 1048576) : ADet Try.prog 35 [s] H (.own H.length 1 0 xs.length xs.length) (H ++ [some (.arr 1 (xs.map eInt))]) := by
  refine adet_run hT (fun _ => false) Try.func35 rfl (by kernel_rfl) (by kernel_rfl) ?_
  simp only [TT, RR, flagOf, gslot, aop, ev, cv, putA, pickAV, if_false, if_true, Nat.reduceAdd, Nat.reduceSub, true_implies, reduceCtorEq, false_implies, implies_true, retAll, retOne, oneOf, cond_true, cond_false, rd, wr, joinT, splice, lay, layRows, abuiltin, abPure, abMem, szv, asNat, loOf, aslice, kindOf, szOf, Nat.reduceLeDiff, Nat.reduceLT, Nat.reduceMul, Nat.reduceEqDiff, ne_eq, Int.reduceLT, Int.reduceLE, Int.reduceEq, Try.ntmps35, Try.results35, hs.get, hs.app, hs.len, hs.szk, List.length_map]
  refine ⟨by omega, lp_up hT xs.length (fun j => [s, .any, .any, .own H.length 1 0 xs.length xs.length, .int .i64 (j : Int), .any, .any, .any, .any, .any, .any, .any, .any, .any, .any, .any, .any, .any, .any, .any, .any, .any]) (fun j => H ++ [some (.arr 1 (Fill (xs.map eInt) [.int .i64 0] j))]) (fun _ => True) (by kernel_rfl) trivial ?_ (fun j hj _ => ?_) (fun _ => ?_)⟩
  · exact wk_any (by rw [← fill_0, List.length_map]) (by simp only [anyL_nil, anyL_any, anyL_same, anyL_int, anyL_bool, and_true, true_and]; trivial)
  · simp only [TT, RR, flagOf, gslot, aop, ev, cv, putA, pickAV, if_false, if_true, Nat.reduceAdd, Nat.reduceSub, true_implies, reduceCtorEq, false_implies, implies_true, retAll, retOne, oneOf, cond_true, cond_false, rd, wr, joinT, splice, lay, layRows, abuiltin, abPure, abMem, szv, asNat, loOf, aslice, kindOf, szOf, Nat.reduceLeDiff, Nat.reduceLT, Nat.reduceMul, Nat.reduceEqDiff, ne_eq, Int.reduceLT, Int.reduceLE, Int.reduceEq, hs.get, hs.app, hs.len, hs.szk, List.length_map, getD_map hj, eInt, fill_len, fill_at (ys := xs.map eInt) (j := j) (by simpa using hj), Nat.le_of_lt hj]
    refine ⟨fun _ => ⟨by omega, by omega, by omega, wk_any (congrArg (fun r => H ++ [some (Blk.arr 1 r)]) (fill_set' (by simpa using hj) (getD_map hj))) (by rw [wrap_succ (by omega)]; simp only [anyL_nil, anyL_any, anyL_same, anyL_int, anyL_bool, and_true, true_and])⟩, fun h => absurd (by omega) h⟩
  · simp only [TT, RR, flagOf, gslot, aop, ev, cv, putA, pickAV, if_false, if_true, Nat.reduceAdd, Nat.reduceSub, true_implies, reduceCtorEq, false_implies, implies_true, retAll, retOne, oneOf, cond_true, cond_false, rd, wr, joinT, splice, lay, layRows, abuiltin, abPure, abMem, szv, asNat, loOf, aslice, kindOf, szOf, Nat.reduceLeDiff, Nat.reduceLT, Nat.reduceMul, Nat.reduceEqDiff, ne_eq, Int.reduceLT, Int.reduceLE, Int.reduceEq, hs.get, hs.app, hs.len, hs.szk, List.length_map]
    refine ⟨fun h => absurd h (by omega), fun _ => ?_⟩
    exact wk_any (by rw [← List.length_map (f := eInt), fill_n]) (by simp only [anyL_nil, anyL_any, anyL_same, anyL_int, anyL_bool, and_true, true_and])
theorem L_eqInt64S (s s' : AV) (xs ys : List Int) (H : Heap) (hs : Sl H s 1 (xs.map eInt)) (hs' : Sl H s' 1 (ys.map eInt)) (hn : xs.length ≤ 1048576) : ADet Try.prog 38 [s, s'] H (.bool (decide (xs = ys))) H := by
  refine adet_run hT (fun _ => false) Try.func38 rfl (by kernel_rfl) (by kernel_rfl) ?_
  simp only [TT, RR, flagOf, gslot, aop, ev, cv, putA, pickAV, if_false, if_true, Nat.reduceAdd, Nat.reduceSub, true_implies, reduceCtorEq, false_implies, implies_true, retAll, retOne, oneOf, cond_true, cond_false, rd, wr, joinT, splice, lay, layRows, abuiltin, abPure, abMem, szv, asNat, loOf, aslice, kindOf, szOf, Nat.reduceLeDiff, Nat.reduceLT, Nat.reduceMul, Nat.reduceEqDiff, ne_eq, Int.reduceLT, Int.reduceLE, Int.reduceEq, Try.ntmps38, Try.results38, hs.get, hs.app, hs.len, hs.szk, hs'.get, hs'.app, hs'.len, hs'.szk, List.length_map]
  refine ⟨fun h => wk_same ?_, fun h => ?_⟩
  · rw [decide_eq_false (fun e => h (by rw [e]))]
  have hl : xs.length = ys.length := by omega
  refine lp_up hT xs.length (fun j => [s, s', .any, .any, .any, .int .i64 (j : Int), .any, .any, .any, .any, .any, .any, .any, .any, .any, .any, .any, .any, .any, .any, .any, .any, .any, .any, .any, .any]) (fun j => H) (fun j => xs.take j = ys.take j) (by kernel_rfl) rfl ?_ (fun j hj hV => ?_) (fun hV => ?_)
  · exact wk_any rfl (by simp only [anyL_nil, anyL_any, anyL_same, anyL_int, anyL_bool, and_true, true_and]; trivial)
  · have hj' : j < ys.length := hl ▸ hj
    simp only [TT, RR, flagOf, gslot, aop, ev, cv, putA, pickAV, if_false, if_true, Nat.reduceAdd, Nat.reduceSub, true_implies, reduceCtorEq, false_implies, implies_true, retAll, retOne, oneOf, cond_true, cond_false, rd, wr, joinT, splice, lay, layRows, abuiltin, abPure, abMem, szv, asNat, loOf, aslice, kindOf, szOf, Nat.reduceLeDiff, Nat.reduceLT, Nat.reduceMul, Nat.reduceEqDiff, ne_eq, Int.reduceLT, Int.reduceLE, Int.reduceEq, hs.get, hs.app, hs.len, hs.szk, hs'.get, hs'.app, hs'.len, hs'.szk, List.length_map, getD_map hj, getD_map hj', eInt]
    refine ⟨fun _ => ⟨by omega, by omega, ?_⟩, fun h => absurd (by omega) h⟩
    refine ⟨fun h => wk_same ?_, fun h => ⟨take_ne hj hj' hV (by simpa using h), wk_any rfl (by simp only [anyL_nil, anyL_any, anyL_same, anyL_int, anyL_bool, and_true, true_and]; rw [wrap_succ (by omega)])⟩⟩
    rw [decide_eq_false (fun e => by simp [e] at h)]
  · simp only [TT, RR, flagOf, gslot, aop, ev, cv, putA, pickAV, if_false, if_true, Nat.reduceAdd, Nat.reduceSub, true_implies, reduceCtorEq, false_implies, implies_true, retAll, retOne, oneOf, cond_true, cond_false, rd, wr, joinT, splice, lay, layRows, abuiltin, abPure, abMem, szv, asNat, loOf, aslice, kindOf, szOf, Nat.reduceLeDiff, Nat.reduceLT, Nat.reduceMul, Nat.reduceEqDiff, ne_eq, Int.reduceLT, Int.reduceLE, Int.reduceEq, hs.get, hs.app, hs.len, hs.szk, hs'.get, hs'.app, hs'.len, hs'.szk, List.length_map]
    refine ⟨fun h => absurd h (by omega), fun _ => wk_same ?_⟩
    rw [List.take_length, hl, List.take_length] at hV
    rw [decide_eq_true hV]
theorem L_markInt64S (id lc n : Nat) (k : Int) (xs : List Int) (H : Heap) (hH : H[id]? = some (some (.arr 1 (xs.map eInt)))) (hn : n ≤ xs.length) (hm : n ≤ 1048576) (h0 : 0 ≤ k) (h1 : k ≤ 1099511627776) :
    ADet Try.prog 39 [.own id 1 0 n lc, .int .i64 k] H (.int .i64 (k + 1 * n)) (H.set id (some (.arr 1 (Mk eInt mInt 1 k xs n)))) := by
  have hl := lt_of_blk hH
  refine adet_run hT (fun _ => false) Try.func39 rfl (by kernel_rfl) (by kernel_rfl) ?_
  simp only [TT, RR, flagOf, gslot, aop, ev, cv, putA, pickAV, if_false, if_true, Nat.reduceAdd, Nat.reduceSub, true_implies, reduceCtorEq, false_implies, implies_true, retAll, retOne, oneOf, cond_true, cond_false, rd, wr, joinT, splice, lay, layRows, abuiltin, abPure, abMem, szv, asNat, loOf, aslice, kindOf, szOf, Nat.reduceLeDiff, Nat.reduceLT, Nat.reduceMul, Nat.reduceEqDiff, ne_eq, Int.reduceLT, Int.reduceLE, Int.reduceEq, Try.ntmps39, Try.results39]
  refine lp_up hT n (fun j => [.own id 1 0 n lc, .int .i64 (k + 1 * j), .any, .any, .int .i64 0, .int .i64 (j : Int), .any, .any, .any, .any, .any, .any, .any, .any, .any, .any, .any, .any, .any]) (fun j => H.set id (some (.arr 1 (Mk eInt mInt 1 k xs j)))) (fun _ => True) (by kernel_rfl) trivial ?_ (fun j hj _ => ?_) (fun _ => ?_)
  · exact wk_any (by rw [mk_0, hset_same hH]) (by simp only [anyL_nil, anyL_any, anyL_same, anyL_int, anyL_bool, and_true, true_and]; omega)
  · have hj' := Nat.lt_of_lt_of_le hj hn
    have hg : ∀ r, ((Mk eInt mInt 1 k xs j).set j r).getD j [] = r := fun r => getD_set (by rw [mk_len (by omega)]; exact hj')
    have w1 : IntKind.i64.wrap (k + (j : Int) + 1) = k + j + 1 := by rw [wrap_k (by omega) (by omega)]; try omega
    simp only [TT, RR, flagOf, gslot, aop, ev, cv, putA, pickAV, if_false, if_true, Nat.reduceAdd, Nat.reduceSub, true_implies, reduceCtorEq, false_implies, implies_true, retAll, retOne, oneOf, cond_true, cond_false, rd, wr, joinT, splice, lay, layRows, abuiltin, abPure, abMem, szv, asNat, loOf, aslice, kindOf, szOf, Nat.reduceLeDiff, Nat.reduceLT, Nat.reduceMul, Nat.reduceEqDiff, ne_eq, Int.reduceLT, Int.reduceLE, Int.reduceEq, hset_get hl, List.set_set, mk_len (Nat.le_of_lt hj'), List.length_set, hg, getD_take hj, mk_at hj', eInt, w1, Int.one_mul]
    refine ⟨fun _ => ⟨by omega, hn, ?_⟩, fun h => absurd (by omega) h⟩
    exact wk_any (congrArg (fun r => H.set id (some (Blk.arr 1 r))) (mk_set1 (g := mInt) hj')) (by simp only [anyL_nil, anyL_any, anyL_same, anyL_int, anyL_bool, and_true, true_and]; rw [wrap_succ (by omega)]; omega)
  · simp only [TT, RR, flagOf, gslot, aop, ev, cv, putA, pickAV, if_false, if_true, Nat.reduceAdd, Nat.reduceSub, true_implies, reduceCtorEq, false_implies, implies_true, retAll, retOne, oneOf, cond_true, cond_false, rd, wr, joinT, splice, lay, layRows, abuiltin, abPure, abMem, szv, asNat, loOf, aslice, kindOf, szOf, Nat.reduceLeDiff, Nat.reduceLT, Nat.reduceMul, Nat.reduceEqDiff, ne_eq, Int.reduceLT, Int.reduceLE, Int.reduceEq, hset_get hl, List.set_set, mk_len hn]
    exact ⟨fun h => absurd h (by omega), fun _ => Wk.refl⟩
theorem L_heldInt64S (s : AV) (n : Nat) (k : Int) (H : Heap) (hs : Sl H s 1 ((mks mInt 1 k n).map eInt)) (hm : n ≤ 1048576) (h0 : 0 ≤ k) (h1 : k ≤ 1099511627776) :
    ADet Try.prog 56 [s, .int .i64 k] H (.int .i64 (k + 1 * n)) H := by
  refine adet_run hT (fun _ => false) Try.func56 rfl (by kernel_rfl) (by kernel_rfl) ?_
  simp only [TT, RR, flagOf, gslot, aop, ev, cv, putA, pickAV, if_false, if_true, Nat.reduceAdd, Nat.reduceSub, true_implies, reduceCtorEq, false_implies, implies_true, retAll, retOne, oneOf, cond_true, cond_false, rd, wr, joinT, splice, lay, layRows, abuiltin, abPure, abMem, szv, asNat, loOf, aslice, kindOf, szOf, Nat.reduceLeDiff, Nat.reduceLT, Nat.reduceMul, Nat.reduceEqDiff, ne_eq, Int.reduceLT, Int.reduceLE, Int.reduceEq, Try.ntmps56, Try.results56]
  refine lp_up hT n (fun j => [s, .int .i64 (k + 1 * j), .any, .any, .int .i64 0, .int .i64 (j : Int), .any, .any, .any, .any, .any, .any, .any, .any, .any, .any, .any, .any, .any, .any, .any]) (fun j => H) (fun _ => True) (by kernel_rfl) trivial ?_ (fun j hj _ => ?_) (fun _ => ?_)
  · exact wk_any rfl (by simp only [anyL_nil, anyL_any, anyL_same, anyL_int, anyL_bool, and_true, true_and]; omega)
  · have hj' : j < (mks mInt 1 k n).length := by rw [mks_len]; exact hj
    have w1 : IntKind.i64.wrap (k + (j : Int) + 1) = k + j + 1 := by rw [wrap_k (by omega) (by omega)]; try omega
    simp only [TT, RR, flagOf, gslot, aop, ev, cv, putA, pickAV, if_false, if_true, Nat.reduceAdd, Nat.reduceSub, true_implies, reduceCtorEq, false_implies, implies_true, retAll, retOne, oneOf, cond_true, cond_false, rd, wr, joinT, splice, lay, layRows, abuiltin, abPure, abMem, szv, asNat, loOf, aslice, kindOf, szOf, Nat.reduceLeDiff, Nat.reduceLT, Nat.reduceMul, Nat.reduceEqDiff, ne_eq, Int.reduceLT, Int.reduceLE, Int.reduceEq, hs.get, hs.app, hs.len, hs.szk, List.length_map, mks_len, getD_map hj', mks_get hj', eInt, mInt, bit3, w1, Int.one_mul]
    refine ⟨fun _ => ?_, fun h => absurd (by omega) h⟩
    repeat' (first | (refine wk_any rfl (by simp only [anyL_nil, anyL_any, anyL_same, anyL_int, anyL_bool, and_true, true_and]; rw [wrap_succ (by omega)]; omega)) | (with_reducible refine And.intro ?_ ?_) | (with_reducible intro h))
    all_goals first | omega | exact absurd rfl h | simp at h
  · simp only [TT, RR, flagOf, gslot, aop, ev, cv, putA, pickAV, if_false, if_true, Nat.reduceAdd, Nat.reduceSub, true_implies, reduceCtorEq, false_implies, implies_true, retAll, retOne, oneOf, cond_true, cond_false, rd, wr, joinT, splice, lay, layRows, abuiltin, abPure, abMem, szv, asNat, loOf, aslice, kindOf, szOf, Nat.reduceLeDiff, Nat.reduceLT, Nat.reduceMul, Nat.reduceEqDiff, ne_eq, Int.reduceLT, Int.reduceLE, Int.reduceEq, hs.len, List.length_map, mks_len]
    exact ⟨fun h => absurd h (by omega), fun _ => Wk.refl⟩
end Go.Proofs.Ytompkmjpikabkaa.AL
