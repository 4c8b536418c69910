/-
  The laws' own functions on records of numbers, and on slices of them.
-/
import Derived.Test.YtkecenijjdpfdaaALB1
namespace Go.Proofs.Ytkecenijjdpfdaa.AL
open Go Go.Proofs.Ytkecenijjdpfdaa
set_option linter.unusedVariables false
set_option linter.unusedSimpArgs false
set_option maxRecDepth 100000
set_option maxHeartbeats 2000000

theorem L_toVol (v : GVol) (H : Heap) : ADet Try.prog 258 [.agg (eVol v)] H (.agg (eVol v)) H := by
  refine adet_run hT (fun _ => false) Try.func258 rfl (by kernel_rfl) (by kernel_rfl) ?_
  simp only [TT, RR, flagOf, gslot, aop, ev, cv, putA, pickAV, if_false, if_true, Nat.reduceAdd, Nat.reduceSub, true_implies, reduceCtorEq, false_implies, implies_true, retAll, retOne, oneOf, cond_true, cond_false, rd, wr, joinT, splice, lay, layRows, abuiltin, abPure, abMem, szv, asNat, loOf, aslice, kindOf, szOf, Nat.reduceLeDiff, Nat.reduceLT, Nat.reduceMul, Nat.reduceEqDiff, ne_eq, Int.reduceLT, Int.reduceLE, Int.reduceEq, Try.ntmps258, Try.results258, eVol]
  exact wk_drop rfl rfl
theorem L_eqVol (a b : GVol) (H : Heap) : ADet Try.prog 268 [.agg (eVol a), .agg (eVol b)] H (.bool (decide (a = b))) H := by
  refine adet_run hT (fun _ => false) Try.func268 rfl (by kernel_rfl) (by kernel_rfl) ?_
  simp only [TT, RR, flagOf, gslot, aop, ev, cv, putA, pickAV, if_false, if_true, Nat.reduceAdd, Nat.reduceSub, true_implies, reduceCtorEq, false_implies, implies_true, retAll, retOne, oneOf, cond_true, cond_false, rd, wr, joinT, splice, lay, layRows, abuiltin, abPure, abMem, szv, asNat, loOf, aslice, kindOf, szOf, Nat.reduceLeDiff, Nat.reduceLT, Nat.reduceMul, Nat.reduceEqDiff, ne_eq, Int.reduceLT, Int.reduceLE, Int.reduceEq, Try.ntmps268, Try.results268, eVol]
  obtain ⟨a0, a1, a2⟩ := a
  obtain ⟨b0, b1, b2⟩ := b
  repeat' (first | (refine wk_same ?_) | (refine wk_drop ?_ (by rfl)) | (with_reducible refine And.intro ?_ ?_) | (with_reducible intro _))
  all_goals simp_all
theorem L_szVolS (s : AV) (n : Nat) (H : Heap) (left : Int) (hs : lenOf s = some n) : ADet Try.prog 155 [s, .int .i64 left] H (.int .i64 (szI left n)) H := by
  refine adet_run hT (fun _ => false) Try.func155 rfl (by kernel_rfl) (by kernel_rfl) ?_
  simp only [TT, RR, flagOf, gslot, aop, ev, cv, putA, pickAV, if_false, if_true, Nat.reduceAdd, Nat.reduceSub, true_implies, reduceCtorEq, false_implies, implies_true, retAll, retOne, oneOf, cond_true, cond_false, rd, wr, joinT, splice, lay, layRows, abuiltin, abPure, abMem, szv, asNat, loOf, aslice, kindOf, szOf, Nat.reduceLeDiff, Nat.reduceLT, Nat.reduceMul, Nat.reduceEqDiff, ne_eq, Int.reduceLT, Int.reduceLE, Int.reduceEq, Try.ntmps155, Try.results155, hs]
  unfold szI
  constructor <;> intro h <;> simp only [h, if_true, if_false] <;> exact Wk.refl
theorem L_toVolS (s : AV) (xs : List GVol) (H : Heap) (hs : Sl H s 3 (xs.map eVol)) (hn : xs.length ≤ 1048576) : ADet Try.prog 160 [s] H (.own H.length 3 0 xs.length xs.length) (H ++ [some (.arr 3 (xs.map eVol))]) := by
  refine adet_run hT (fun _ => false) Try.func160 rfl (by kernel_rfl) (by kernel_rfl) ?_
  simp only [TT, RR, flagOf, gslot, aop, ev, cv, putA, pickAV, if_false, if_true, Nat.reduceAdd, Nat.reduceSub, true_implies, reduceCtorEq, false_implies, implies_true, retAll, retOne, oneOf, cond_true, cond_false, rd, wr, joinT, splice, lay, layRows, abuiltin, abPure, abMem, szv, asNat, loOf, aslice, kindOf, szOf, Nat.reduceLeDiff, Nat.reduceLT, Nat.reduceMul, Nat.reduceEqDiff, ne_eq, Int.reduceLT, Int.reduceLE, Int.reduceEq, Try.ntmps160, Try.results160, hs.get, hs.app, hs.len, hs.szk, List.length_map]
  refine ⟨by omega, lp_up hT xs.length (fun j => [s, .any, .any, .own H.length 3 0 xs.length xs.length, .int .i64 (j : Int), .any, .any, .any, .any, .any, .any, .any, .any, .any, .any, .any, .any, .any, .any, .any, .any, .any, .any]) (fun j => H ++ [some (.arr 3 (Fill (xs.map eVol) [.int .i64 0, .int .i64 0, .int .i64 0] j))]) (fun _ => True) (by kernel_rfl) trivial ?_ (fun j hj _ => ?_) (fun _ => ?_)⟩
  · exact wk_any (by rw [← fill_0, List.length_map]) (by simp only [anyL_nil, anyL_any, anyL_same, anyL_int, anyL_bool, and_true, true_and]; trivial)
  · simp only [TT, RR, flagOf, gslot, aop, ev, cv, putA, pickAV, if_false, if_true, Nat.reduceAdd, Nat.reduceSub, true_implies, reduceCtorEq, false_implies, implies_true, retAll, retOne, oneOf, cond_true, cond_false, rd, wr, joinT, splice, lay, layRows, abuiltin, abPure, abMem, szv, asNat, loOf, aslice, kindOf, szOf, Nat.reduceLeDiff, Nat.reduceLT, Nat.reduceMul, Nat.reduceEqDiff, ne_eq, Int.reduceLT, Int.reduceLE, Int.reduceEq, hs.get, hs.app, hs.len, hs.szk, List.length_map, getD_map hj, eVol, fill_len, fill_at (ys := xs.map eVol) (j := j) (by simpa using hj), Nat.le_of_lt hj]
    refine ⟨fun _ => ⟨by omega, callA_of (L_toVol _ _) ?_⟩, fun h => absurd (by omega) h⟩
    simp only [TT, RR, flagOf, gslot, aop, ev, cv, putA, pickAV, if_false, if_true, Nat.reduceAdd, Nat.reduceSub, true_implies, reduceCtorEq, false_implies, implies_true, retAll, retOne, oneOf, cond_true, cond_false, rd, wr, joinT, splice, lay, layRows, abuiltin, abPure, abMem, szv, asNat, loOf, aslice, kindOf, szOf, Nat.reduceLeDiff, Nat.reduceLT, Nat.reduceMul, Nat.reduceEqDiff, ne_eq, Int.reduceLT, Int.reduceLE, Int.reduceEq, fill_len, eVol, List.length_map, fill_at (ys := xs.map eVol) (j := j) (by simpa using hj), Nat.le_of_lt hj]
    refine ⟨by omega, by omega, wk_any (congrArg (fun r => H ++ [some (Blk.arr 3 r)]) (fill_set' (by simpa using hj) (getD_map hj))) (by rw [wrap_succ (by omega)]; simp only [anyL_nil, anyL_any, anyL_same, anyL_int, anyL_bool, and_true, true_and])⟩
  · simp only [TT, RR, flagOf, gslot, aop, ev, cv, putA, pickAV, if_false, if_true, Nat.reduceAdd, Nat.reduceSub, true_implies, reduceCtorEq, false_implies, implies_true, retAll, retOne, oneOf, cond_true, cond_false, rd, wr, joinT, splice, lay, layRows, abuiltin, abPure, abMem, szv, asNat, loOf, aslice, kindOf, szOf, Nat.reduceLeDiff, Nat.reduceLT, Nat.reduceMul, Nat.reduceEqDiff, ne_eq, Int.reduceLT, Int.reduceLE, Int.reduceEq, hs.get, hs.app, hs.len, hs.szk, List.length_map]
    refine ⟨fun h => absurd h (by omega), fun _ => ?_⟩
    exact wk_any (by rw [← List.length_map (f := eVol), fill_n]) (by simp only [anyL_nil, anyL_any, anyL_same, anyL_int, anyL_bool, and_true, true_and])
theorem L_eqVolS (s s' : AV) (xs ys : List GVol) (H : Heap) (hs : Sl H s 3 (xs.map eVol)) (hs' : Sl H s' 3 (ys.map eVol)) (hn : xs.length ≤ 1048576) : ADet Try.prog 166 [s, s'] H (.bool (decide (xs = ys))) H := by
  refine adet_run hT (fun _ => false) Try.func166 rfl (by kernel_rfl) (by kernel_rfl) ?_
  simp only [TT, RR, flagOf, gslot, aop, ev, cv, putA, pickAV, if_false, if_true, Nat.reduceAdd, Nat.reduceSub, true_implies, reduceCtorEq, false_implies, implies_true, retAll, retOne, oneOf, cond_true, cond_false, rd, wr, joinT, splice, lay, layRows, abuiltin, abPure, abMem, szv, asNat, loOf, aslice, kindOf, szOf, Nat.reduceLeDiff, Nat.reduceLT, Nat.reduceMul, Nat.reduceEqDiff, ne_eq, Int.reduceLT, Int.reduceLE, Int.reduceEq, Try.ntmps166, Try.results166, hs.get, hs.app, hs.len, hs.szk, hs'.get, hs'.app, hs'.len, hs'.szk, List.length_map]
  refine ⟨fun h => wk_same ?_, fun h => ?_⟩
  · rw [decide_eq_false (fun e => h (by rw [e]))]
  have hl : xs.length = ys.length := by omega
  refine lp_up hT xs.length (fun j => [s, s', .any, .any, .any, .int .i64 (j : Int), .any, .any, .any, .any, .any, .any, .any, .any, .any, .any, .any, .any, .any, .any, .any, .any, .any, .any, .any, .any, .any]) (fun j => H) (fun j => xs.take j = ys.take j) (by kernel_rfl) rfl ?_ (fun j hj hV => ?_) (fun hV => ?_)
  · exact wk_any rfl (by simp only [anyL_nil, anyL_any, anyL_same, anyL_int, anyL_bool, and_true, true_and]; trivial)
  · have hj' : j < ys.length := hl ▸ hj
    simp only [TT, RR, flagOf, gslot, aop, ev, cv, putA, pickAV, if_false, if_true, Nat.reduceAdd, Nat.reduceSub, true_implies, reduceCtorEq, false_implies, implies_true, retAll, retOne, oneOf, cond_true, cond_false, rd, wr, joinT, splice, lay, layRows, abuiltin, abPure, abMem, szv, asNat, loOf, aslice, kindOf, szOf, Nat.reduceLeDiff, Nat.reduceLT, Nat.reduceMul, Nat.reduceEqDiff, ne_eq, Int.reduceLT, Int.reduceLE, Int.reduceEq, hs.get, hs.app, hs.len, hs.szk, hs'.get, hs'.app, hs'.len, hs'.szk, List.length_map, getD_map hj, getD_map hj', eVol]
    refine ⟨fun _ => ⟨by omega, by omega, callD_of (L_eqVol _ _ _) ?_⟩, fun h => absurd (by omega) h⟩
    simp only [TT, RR, flagOf, gslot, aop, ev, cv, putA, pickAV, if_false, if_true, Nat.reduceAdd, Nat.reduceSub, true_implies, reduceCtorEq, false_implies, implies_true, retAll, retOne, oneOf, cond_true, cond_false, rd, wr, joinT, splice, lay, layRows, abuiltin, abPure, abMem, szv, asNat, loOf, aslice, kindOf, szOf, Nat.reduceLeDiff, Nat.reduceLT, Nat.reduceMul, Nat.reduceEqDiff, ne_eq, Int.reduceLT, Int.reduceLE, Int.reduceEq]
    refine ⟨fun h => wk_same ?_, fun h => ⟨take_ne hj hj' hV (by simpa using h), wk_any rfl (by simp only [anyL_nil, anyL_any, anyL_same, anyL_int, anyL_bool, and_true, true_and]; rw [wrap_succ (by omega)])⟩⟩
    rw [decide_eq_false (fun e => by simp [e] at h)]
  · simp only [TT, RR, flagOf, gslot, aop, ev, cv, putA, pickAV, if_false, if_true, Nat.reduceAdd, Nat.reduceSub, true_implies, reduceCtorEq, false_implies, implies_true, retAll, retOne, oneOf, cond_true, cond_false, rd, wr, joinT, splice, lay, layRows, abuiltin, abPure, abMem, szv, asNat, loOf, aslice, kindOf, szOf, Nat.reduceLeDiff, Nat.reduceLT, Nat.reduceMul, Nat.reduceEqDiff, ne_eq, Int.reduceLT, Int.reduceLE, Int.reduceEq, hs.get, hs.app, hs.len, hs.szk, hs'.get, hs'.app, hs'.len, hs'.szk, List.length_map]
    refine ⟨fun h => absurd h (by omega), fun _ => wk_same ?_⟩
    rw [List.take_length, hl, List.take_length] at hV
    rw [decide_eq_true hV]
theorem L_markVolS (id lc n : Nat) (k : Int) (xs : List GVol) (H : Heap) (hH : H[id]? = some (some (.arr 3 (xs.map eVol)))) (hn : n ≤ xs.length) (hm : n ≤ 1048576) (h0 : 0 ≤ k) (h1 : k ≤ 1099511627776) :
    ADet Try.prog 168 [.own id 3 0 n lc, .int .i64 k] H (.int .i64 (k + 3 * n)) (H.set id (some (.arr 3 (Mk eVol mVol 3 k xs n)))) := by
  have hl := lt_of_blk hH
  refine adet_run hT (fun _ => false) Try.func168 rfl (by kernel_rfl) (by kernel_rfl) ?_
  simp only [TT, RR, flagOf, gslot, aop, ev, cv, putA, pickAV, if_false, if_true, Nat.reduceAdd, Nat.reduceSub, true_implies, reduceCtorEq, false_implies, implies_true, retAll, retOne, oneOf, cond_true, cond_false, rd, wr, joinT, splice, lay, layRows, abuiltin, abPure, abMem, szv, asNat, loOf, aslice, kindOf, szOf, Nat.reduceLeDiff, Nat.reduceLT, Nat.reduceMul, Nat.reduceEqDiff, ne_eq, Int.reduceLT, Int.reduceLE, Int.reduceEq, Try.ntmps168, Try.results168]
  refine lp_up hT n (fun j => [.own id 3 0 n lc, .int .i64 (k + 3 * j), .any, .any, .int .i64 0, .int .i64 (j : Int), .any, .any, .any, .any, .any, .any, .any, .any, .any, .any, .any, .any, .any, .any, .any, .any, .any, .any, .any, .any, .any, .any, .any, .any, .any, .any, .any, .any]) (fun j => H.set id (some (.arr 3 (Mk eVol mVol 3 k xs j)))) (fun _ => True) (by kernel_rfl) trivial ?_ (fun j hj _ => ?_) (fun _ => ?_)
  · exact wk_any (by rw [mk_0, hset_same hH]) (by simp only [anyL_nil, anyL_any, anyL_same, anyL_int, anyL_bool, and_true, true_and]; omega)
  · have hj' := Nat.lt_of_lt_of_le hj hn
    have hg : ∀ r, ((Mk eVol mVol 3 k xs j).set j r).getD j [] = r := fun r => getD_set (by rw [mk_len (by omega)]; exact hj')
    have w1 : IntKind.i64.wrap (k + 3 * (j : Int) + 1) = k + 3 * j + 1 := by rw [wrap_k (by omega) (by omega)]; try omega
    have w2 : IntKind.i64.wrap (k + 3 * (j : Int) + 1 + 1) = k + 3 * j + 2 := by rw [wrap_k (by omega) (by omega)]; try omega
    have w3 : IntKind.i64.wrap (k + 3 * (j : Int) + 2 + 1) = k + 3 * j + 3 := by rw [wrap_k (by omega) (by omega)]; try omega
    simp only [TT, RR, flagOf, gslot, aop, ev, cv, putA, pickAV, if_false, if_true, Nat.reduceAdd, Nat.reduceSub, true_implies, reduceCtorEq, false_implies, implies_true, retAll, retOne, oneOf, cond_true, cond_false, rd, wr, joinT, splice, lay, layRows, abuiltin, abPure, abMem, szv, asNat, loOf, aslice, kindOf, szOf, Nat.reduceLeDiff, Nat.reduceLT, Nat.reduceMul, Nat.reduceEqDiff, ne_eq, Int.reduceLT, Int.reduceLE, Int.reduceEq, hset_get hl, List.set_set, mk_len (Nat.le_of_lt hj'), List.length_set, hg, getD_take hj, mk_at hj', eVol, w1, w2, w3]
    refine ⟨fun _ => ⟨by omega, hn, by omega, hn, by omega, hn, ?_⟩, fun h => absurd (by omega) h⟩
    exact wk_any (congrArg (fun r => H.set id (some (Blk.arr 3 r))) (mk_set (g := mVol) hj')) (by simp only [anyL_nil, anyL_any, anyL_same, anyL_int, anyL_bool, and_true, true_and]; rw [wrap_succ (by omega)]; omega)
  · simp only [TT, RR, flagOf, gslot, aop, ev, cv, putA, pickAV, if_false, if_true, Nat.reduceAdd, Nat.reduceSub, true_implies, reduceCtorEq, false_implies, implies_true, retAll, retOne, oneOf, cond_true, cond_false, rd, wr, joinT, splice, lay, layRows, abuiltin, abPure, abMem, szv, asNat, loOf, aslice, kindOf, szOf, Nat.reduceLeDiff, Nat.reduceLT, Nat.reduceMul, Nat.reduceEqDiff, ne_eq, Int.reduceLT, Int.reduceLE, Int.reduceEq, hset_get hl, List.set_set, mk_len hn]
    exact ⟨fun h => absurd h (by omega), fun _ => Wk.refl⟩
theorem L_heldVolS (s : AV) (n : Nat) (k : Int) (H : Heap) (hs : Sl H s 3 ((mks mVol 3 k n).map eVol)) (hm : n ≤ 1048576) (h0 : 0 ≤ k) (h1 : k ≤ 1099511627776) :
    ADet Try.prog 199 [s, .int .i64 k] H (.int .i64 (k + 3 * n)) H := by
  refine adet_run hT (fun _ => false) Try.func199 rfl (by kernel_rfl) (by kernel_rfl) ?_
  simp only [TT, RR, flagOf, gslot, aop, ev, cv, putA, pickAV, if_false, if_true, Nat.reduceAdd, Nat.reduceSub, true_implies, reduceCtorEq, false_implies, implies_true, retAll, retOne, oneOf, cond_true, cond_false, rd, wr, joinT, splice, lay, layRows, abuiltin, abPure, abMem, szv, asNat, loOf, aslice, kindOf, szOf, Nat.reduceLeDiff, Nat.reduceLT, Nat.reduceMul, Nat.reduceEqDiff, ne_eq, Int.reduceLT, Int.reduceLE, Int.reduceEq, Try.ntmps199, Try.results199]
  refine lp_up hT n (fun j => [s, .int .i64 (k + 3 * j), .any, .any, .int .i64 0, .int .i64 (j : Int), .any, .any, .any, .any, .any, .any, .any, .any, .any, .any, .any, .any, .any, .any, .any, .any, .any, .any, .any, .any, .any, .any, .any, .any, .any, .any, .any, .any, .any, .any, .any, .any, .any, .any]) (fun j => H) (fun _ => True) (by kernel_rfl) trivial ?_ (fun j hj _ => ?_) (fun _ => ?_)
  · exact wk_any rfl (by simp only [anyL_nil, anyL_any, anyL_same, anyL_int, anyL_bool, and_true, true_and]; omega)
  · have hj' : j < (mks mVol 3 k n).length := by rw [mks_len]; exact hj
    have w1 : IntKind.i64.wrap (k + 3 * (j : Int) + 1) = k + 3 * j + 1 := by rw [wrap_k (by omega) (by omega)]; try omega
    have w2 : IntKind.i64.wrap (k + 3 * (j : Int) + 1 + 1) = k + 3 * j + 2 := by rw [wrap_k (by omega) (by omega)]; try omega
    have w3 : IntKind.i64.wrap (k + 3 * (j : Int) + 2 + 1) = k + 3 * j + 3 := by rw [wrap_k (by omega) (by omega)]; try omega
    simp only [TT, RR, flagOf, gslot, aop, ev, cv, putA, pickAV, if_false, if_true, Nat.reduceAdd, Nat.reduceSub, true_implies, reduceCtorEq, false_implies, implies_true, retAll, retOne, oneOf, cond_true, cond_false, rd, wr, joinT, splice, lay, layRows, abuiltin, abPure, abMem, szv, asNat, loOf, aslice, kindOf, szOf, Nat.reduceLeDiff, Nat.reduceLT, Nat.reduceMul, Nat.reduceEqDiff, ne_eq, Int.reduceLT, Int.reduceLE, Int.reduceEq, hs.get, hs.app, hs.len, hs.szk, List.length_map, mks_len, getD_map hj', mks_get hj', eVol, mVol, bit3, w1, w2, w3]
    refine ⟨fun _ => ?_, fun h => absurd (by omega) h⟩
    repeat' (first | (refine wk_any rfl (by simp only [anyL_nil, anyL_any, anyL_same, anyL_int, anyL_bool, and_true, true_and]; rw [wrap_succ (by omega)]; omega)) | (with_reducible refine And.intro ?_ ?_) | (with_reducible intro h))
    all_goals first | omega | exact absurd rfl h | simp at h
  · simp only [TT, RR, flagOf, gslot, aop, ev, cv, putA, pickAV, if_false, if_true, Nat.reduceAdd, Nat.reduceSub, true_implies, reduceCtorEq, false_implies, implies_true, retAll, retOne, oneOf, cond_true, cond_false, rd, wr, joinT, splice, lay, layRows, abuiltin, abPure, abMem, szv, asNat, loOf, aslice, kindOf, szOf, Nat.reduceLeDiff, Nat.reduceLT, Nat.reduceMul, Nat.reduceEqDiff, ne_eq, Int.reduceLT, Int.reduceLE, Int.reduceEq, hs.len, List.length_map, mks_len]
    exact ⟨fun h => absurd h (by omega), fun _ => Wk.refl⟩
theorem L_toCell (v : GCell) (H : Heap) : ADet Try.prog 259 [.agg (eCell v)] H (.agg (eCell v)) H := by
  refine adet_run hT (fun _ => false) Try.func259 rfl (by kernel_rfl) (by kernel_rfl) ?_
  simp only [TT, RR, flagOf, gslot, aop, ev, cv, putA, pickAV, if_false, if_true, Nat.reduceAdd, Nat.reduceSub, true_implies, reduceCtorEq, false_implies, implies_true, retAll, retOne, oneOf, cond_true, cond_false, rd, wr, joinT, splice, lay, layRows, abuiltin, abPure, abMem, szv, asNat, loOf, aslice, kindOf, szOf, Nat.reduceLeDiff, Nat.reduceLT, Nat.reduceMul, Nat.reduceEqDiff, ne_eq, Int.reduceLT, Int.reduceLE, Int.reduceEq, Try.ntmps259, Try.results259, eCell]
  exact wk_drop rfl rfl
theorem L_eqCell (a b : GCell) (H : Heap) : ADet Try.prog 269 [.agg (eCell a), .agg (eCell b)] H (.bool (decide (a = b))) H := by
  refine adet_run hT (fun _ => false) Try.func269 rfl (by kernel_rfl) (by kernel_rfl) ?_
  simp only [TT, RR, flagOf, gslot, aop, ev, cv, putA, pickAV, if_false, if_true, Nat.reduceAdd, Nat.reduceSub, true_implies, reduceCtorEq, false_implies, implies_true, retAll, retOne, oneOf, cond_true, cond_false, rd, wr, joinT, splice, lay, layRows, abuiltin, abPure, abMem, szv, asNat, loOf, aslice, kindOf, szOf, Nat.reduceLeDiff, Nat.reduceLT, Nat.reduceMul, Nat.reduceEqDiff, ne_eq, Int.reduceLT, Int.reduceLE, Int.reduceEq, Try.ntmps269, Try.results269, eCell]
  obtain ⟨a0, a1, a2⟩ := a
  obtain ⟨b0, b1, b2⟩ := b
  repeat' (first | (refine wk_same ?_) | (refine wk_drop ?_ (by rfl)) | (with_reducible refine And.intro ?_ ?_) | (with_reducible intro _))
  all_goals simp_all
theorem L_szCellS (s : AV) (n : Nat) (H : Heap) (left : Int) (hs : lenOf s = some n) : ADet Try.prog 156 [s, .int .i64 left] H (.int .i64 (szI left n)) H := by
  refine adet_run hT (fun _ => false) Try.func156 rfl (by kernel_rfl) (by kernel_rfl) ?_
  simp only [TT, RR, flagOf, gslot, aop, ev, cv, putA, pickAV, if_false, if_true, Nat.reduceAdd, Nat.reduceSub, true_implies, reduceCtorEq, false_implies, implies_true, retAll, retOne, oneOf, cond_true, cond_false, rd, wr, joinT, splice, lay, layRows, abuiltin, abPure, abMem, szv, asNat, loOf, aslice, kindOf, szOf, Nat.reduceLeDiff, Nat.reduceLT, Nat.reduceMul, Nat.reduceEqDiff, ne_eq, Int.reduceLT, Int.reduceLE, Int.reduceEq, Try.ntmps156, Try.results156, hs]
  unfold szI
  constructor <;> intro h <;> simp only [h, if_true, if_false] <;> exact Wk.refl
theorem L_toCellS (s : AV) (xs : List GCell) (H : Heap) (hs : Sl H s 3 (xs.map eCell)) (hn : xs.length ≤ 1048576) : ADet Try.prog 161 [s] H (.own H.length 3 0 xs.length xs.length) (H ++ [some (.arr 3 (xs.map eCell))]) := by
  refine adet_run hT (fun _ => false) Try.func161 rfl (by kernel_rfl) (by kernel_rfl) ?_
  simp only [TT, RR, flagOf, gslot, aop, ev, cv, putA, pickAV, if_false, if_true, Nat.reduceAdd, Nat.reduceSub, true_implies, reduceCtorEq, false_implies, implies_true, retAll, retOne, oneOf, cond_true, cond_false, rd, wr, joinT, splice, lay, layRows, abuiltin, abPure, abMem, szv, asNat, loOf, aslice, kindOf, szOf, Nat.reduceLeDiff, Nat.reduceLT, Nat.reduceMul, Nat.reduceEqDiff, ne_eq, Int.reduceLT, Int.reduceLE, Int.reduceEq, Try.ntmps161, Try.results161, hs.get, hs.app, hs.len, hs.szk, List.length_map]
  refine ⟨by omega, lp_up hT xs.length (fun j => [s, .any, .any, .own H.length 3 0 xs.length xs.length, .int .i64 (j : Int), .any, .any, .any, .any, .any, .any, .any, .any, .any, .any, .any, .any, .any, .any, .any, .any, .any, .any]) (fun j => H ++ [some (.arr 3 (Fill (xs.map eCell) [.int .i64 0, .int .i64 0, .int .i64 0] j))]) (fun _ => True) (by kernel_rfl) trivial ?_ (fun j hj _ => ?_) (fun _ => ?_)⟩
  · exact wk_any (by rw [← fill_0, List.length_map]) (by simp only [anyL_nil, anyL_any, anyL_same, anyL_int, anyL_bool, and_true, true_and]; trivial)
  · simp only [TT, RR, flagOf, gslot, aop, ev, cv, putA, pickAV, if_false, if_true, Nat.reduceAdd, Nat.reduceSub, true_implies, reduceCtorEq, false_implies, implies_true, retAll, retOne, oneOf, cond_true, cond_false, rd, wr, joinT, splice, lay, layRows, abuiltin, abPure, abMem, szv, asNat, loOf, aslice, kindOf, szOf, Nat.reduceLeDiff, Nat.reduceLT, Nat.reduceMul, Nat.reduceEqDiff, ne_eq, Int.reduceLT, Int.reduceLE, Int.reduceEq, hs.get, hs.app, hs.len, hs.szk, List.length_map, getD_map hj, eCell, fill_len, fill_at (ys := xs.map eCell) (j := j) (by simpa using hj), Nat.le_of_lt hj]
    refine ⟨fun _ => ⟨by omega, callA_of (L_toCell _ _) ?_⟩, fun h => absurd (by omega) h⟩
    simp only [TT, RR, flagOf, gslot, aop, ev, cv, putA, pickAV, if_false, if_true, Nat.reduceAdd, Nat.reduceSub, true_implies, reduceCtorEq, false_implies, implies_true, retAll, retOne, oneOf, cond_true, cond_false, rd, wr, joinT, splice, lay, layRows, abuiltin, abPure, abMem, szv, asNat, loOf, aslice, kindOf, szOf, Nat.reduceLeDiff, Nat.reduceLT, Nat.reduceMul, Nat.reduceEqDiff, ne_eq, Int.reduceLT, Int.reduceLE, Int.reduceEq, fill_len, eCell, List.length_map, fill_at (ys := xs.map eCell) (j := j) (by simpa using hj), Nat.le_of_lt hj]
    refine ⟨by omega, by omega, wk_any (congrArg (fun r => H ++ [some (Blk.arr 3 r)]) (fill_set' (by simpa using hj) (getD_map hj))) (by rw [wrap_succ (by omega)]; simp only [anyL_nil, anyL_any, anyL_same, anyL_int, anyL_bool, and_true, true_and])⟩
  · simp only [TT, RR, flagOf, gslot, aop, ev, cv, putA, pickAV, if_false, if_true, Nat.reduceAdd, Nat.reduceSub, true_implies, reduceCtorEq, false_implies, implies_true, retAll, retOne, oneOf, cond_true, cond_false, rd, wr, joinT, splice, lay, layRows, abuiltin, abPure, abMem, szv, asNat, loOf, aslice, kindOf, szOf, Nat.reduceLeDiff, Nat.reduceLT, Nat.reduceMul, Nat.reduceEqDiff, ne_eq, Int.reduceLT, Int.reduceLE, Int.reduceEq, hs.get, hs.app, hs.len, hs.szk, List.length_map]
    refine ⟨fun h => absurd h (by omega), fun _ => ?_⟩
    exact wk_any (by rw [← List.length_map (f := eCell), fill_n]) (by simp only [anyL_nil, anyL_any, anyL_same, anyL_int, anyL_bool, and_true, true_and])
theorem L_eqCellS (s s' : AV) (xs ys : List GCell) (H : Heap) (hs : Sl H s 3 (xs.map eCell)) (hs' : Sl H s' 3 (ys.map eCell)) (hn : xs.length ≤ 1048576) : ADet Try.prog 167 [s, s'] H (.bool (decide (xs = ys))) H := by
  refine adet_run hT (fun _ => false) Try.func167 rfl (by kernel_rfl) (by kernel_rfl) ?_
  simp only [TT, RR, flagOf, gslot, aop, ev, cv, putA, pickAV, if_false, if_true, Nat.reduceAdd, Nat.reduceSub, true_implies, reduceCtorEq, false_implies, implies_true, retAll, retOne, oneOf, cond_true, cond_false, rd, wr, joinT, splice, lay, layRows, abuiltin, abPure, abMem, szv, asNat, loOf, aslice, kindOf, szOf, Nat.reduceLeDiff, Nat.reduceLT, Nat.reduceMul, Nat.reduceEqDiff, ne_eq, Int.reduceLT, Int.reduceLE, Int.reduceEq, Try.ntmps167, Try.results167, hs.get, hs.app, hs.len, hs.szk, hs'.get, hs'.app, hs'.len, hs'.szk, List.length_map]
  refine ⟨fun h => wk_same ?_, fun h => ?_⟩
  · rw [decide_eq_false (fun e => h (by rw [e]))]
  have hl : xs.length = ys.length := by omega
  refine lp_up hT xs.length (fun j => [s, s', .any, .any, .any, .int .i64 (j : Int), .any, .any, .any, .any, .any, .any, .any, .any, .any, .any, .any, .any, .any, .any, .any, .any, .any, .any, .any, .any, .any]) (fun j => H) (fun j => xs.take j = ys.take j) (by kernel_rfl) rfl ?_ (fun j hj hV => ?_) (fun hV => ?_)
  · exact wk_any rfl (by simp only [anyL_nil, anyL_any, anyL_same, anyL_int, anyL_bool, and_true, true_and]; trivial)
  · have hj' : j < ys.length := hl ▸ hj
    simp only [TT, RR, flagOf, gslot, aop, ev, cv, putA, pickAV, if_false, if_true, Nat.reduceAdd, Nat.reduceSub, true_implies, reduceCtorEq, false_implies, implies_true, retAll, retOne, oneOf, cond_true, cond_false, rd, wr, joinT, splice, lay, layRows, abuiltin, abPure, abMem, szv, asNat, loOf, aslice, kindOf, szOf, Nat.reduceLeDiff, Nat.reduceLT, Nat.reduceMul, Nat.reduceEqDiff, ne_eq, Int.reduceLT, Int.reduceLE, Int.reduceEq, hs.get, hs.app, hs.len, hs.szk, hs'.get, hs'.app, hs'.len, hs'.szk, List.length_map, getD_map hj, getD_map hj', eCell]
    refine ⟨fun _ => ⟨by omega, by omega, callD_of (L_eqCell _ _ _) ?_⟩, fun h => absurd (by omega) h⟩
    simp only [TT, RR, flagOf, gslot, aop, ev, cv, putA, pickAV, if_false, if_true, Nat.reduceAdd, Nat.reduceSub, true_implies, reduceCtorEq, false_implies, implies_true, retAll, retOne, oneOf, cond_true, cond_false, rd, wr, joinT, splice, lay, layRows, abuiltin, abPure, abMem, szv, asNat, loOf, aslice, kindOf, szOf, Nat.reduceLeDiff, Nat.reduceLT, Nat.reduceMul, Nat.reduceEqDiff, ne_eq, Int.reduceLT, Int.reduceLE, Int.reduceEq]
    refine ⟨fun h => wk_same ?_, fun h => ⟨take_ne hj hj' hV (by simpa using h), wk_any rfl (by simp only [anyL_nil, anyL_any, anyL_same, anyL_int, anyL_bool, and_true, true_and]; rw [wrap_succ (by omega)])⟩⟩
    rw [decide_eq_false (fun e => by simp [e] at h)]
  · simp only [TT, RR, flagOf, gslot, aop, ev, cv, putA, pickAV, if_false, if_true, Nat.reduceAdd, Nat.reduceSub, true_implies, reduceCtorEq, false_implies, implies_true, retAll, retOne, oneOf, cond_true, cond_false, rd, wr, joinT, splice, lay, layRows, abuiltin, abPure, abMem, szv, asNat, loOf, aslice, kindOf, szOf, Nat.reduceLeDiff, Nat.reduceLT, Nat.reduceMul, Nat.reduceEqDiff, ne_eq, Int.reduceLT, Int.reduceLE, Int.reduceEq, hs.get, hs.app, hs.len, hs.szk, hs'.get, hs'.app, hs'.len, hs'.szk, List.length_map]
    refine ⟨fun h => absurd h (by omega), fun _ => wk_same ?_⟩
    rw [List.take_length, hl, List.take_length] at hV
    rw [decide_eq_true hV]
theorem L_markCellS (id lc n : Nat) (k : Int) (xs : List GCell) (H : Heap) (hH : H[id]? = some (some (.arr 3 (xs.map eCell)))) (hn : n ≤ xs.length) (hm : n ≤ 1048576) (h0 : 0 ≤ k) (h1 : k ≤ 1099511627776) :
    ADet Try.prog 169 [.own id 3 0 n lc, .int .i64 k] H (.int .i64 (k + 3 * n)) (H.set id (some (.arr 3 (Mk eCell mCell 3 k xs n)))) := by
  have hl := lt_of_blk hH
  refine adet_run hT (fun _ => false) Try.func169 rfl (by kernel_rfl) (by kernel_rfl) ?_
  simp only [TT, RR, flagOf, gslot, aop, ev, cv, putA, pickAV, if_false, if_true, Nat.reduceAdd, Nat.reduceSub, true_implies, reduceCtorEq, false_implies, implies_true, retAll, retOne, oneOf, cond_true, cond_false, rd, wr, joinT, splice, lay, layRows, abuiltin, abPure, abMem, szv, asNat, loOf, aslice, kindOf, szOf, Nat.reduceLeDiff, Nat.reduceLT, Nat.reduceMul, Nat.reduceEqDiff, ne_eq, Int.reduceLT, Int.reduceLE, Int.reduceEq, Try.ntmps169, Try.results169]
  refine lp_up hT n (fun j => [.own id 3 0 n lc, .int .i64 (k + 3 * j), .any, .any, .int .i64 0, .int .i64 (j : Int), .any, .any, .any, .any, .any, .any, .any, .any, .any, .any, .any, .any, .any, .any, .any, .any, .any, .any, .any, .any, .any, .any, .any, .any, .any, .any, .any, .any]) (fun j => H.set id (some (.arr 3 (Mk eCell mCell 3 k xs j)))) (fun _ => True) (by kernel_rfl) trivial ?_ (fun j hj _ => ?_) (fun _ => ?_)
  · exact wk_any (by rw [mk_0, hset_same hH]) (by simp only [anyL_nil, anyL_any, anyL_same, anyL_int, anyL_bool, and_true, true_and]; omega)
  · have hj' := Nat.lt_of_lt_of_le hj hn
    have hg : ∀ r, ((Mk eCell mCell 3 k xs j).set j r).getD j [] = r := fun r => getD_set (by rw [mk_len (by omega)]; exact hj')
    have w1 : IntKind.i64.wrap (k + 3 * (j : Int) + 1) = k + 3 * j + 1 := by rw [wrap_k (by omega) (by omega)]; try omega
    have w2 : IntKind.i64.wrap (k + 3 * (j : Int) + 1 + 1) = k + 3 * j + 2 := by rw [wrap_k (by omega) (by omega)]; try omega
    have w3 : IntKind.i64.wrap (k + 3 * (j : Int) + 2 + 1) = k + 3 * j + 3 := by rw [wrap_k (by omega) (by omega)]; try omega
    simp only [TT, RR, flagOf, gslot, aop, ev, cv, putA, pickAV, if_false, if_true, Nat.reduceAdd, Nat.reduceSub, true_implies, reduceCtorEq, false_implies, implies_true, retAll, retOne, oneOf, cond_true, cond_false, rd, wr, joinT, splice, lay, layRows, abuiltin, abPure, abMem, szv, asNat, loOf, aslice, kindOf, szOf, Nat.reduceLeDiff, Nat.reduceLT, Nat.reduceMul, Nat.reduceEqDiff, ne_eq, Int.reduceLT, Int.reduceLE, Int.reduceEq, hset_get hl, List.set_set, mk_len (Nat.le_of_lt hj'), List.length_set, hg, getD_take hj, mk_at hj', eCell, w1, w2, w3]
    refine ⟨fun _ => ⟨by omega, hn, by omega, hn, by omega, hn, ?_⟩, fun h => absurd (by omega) h⟩
    exact wk_any (congrArg (fun r => H.set id (some (Blk.arr 3 r))) (mk_set (g := mCell) hj')) (by simp only [anyL_nil, anyL_any, anyL_same, anyL_int, anyL_bool, and_true, true_and]; rw [wrap_succ (by omega)]; omega)
  · simp only [TT, RR, flagOf, gslot, aop, ev, cv, putA, pickAV, if_false, if_true, Nat.reduceAdd, Nat.reduceSub, true_implies, reduceCtorEq, false_implies, implies_true, retAll, retOne, oneOf, cond_true, cond_false, rd, wr, joinT, splice, lay, layRows, abuiltin, abPure, abMem, szv, asNat, loOf, aslice, kindOf, szOf, Nat.reduceLeDiff, Nat.reduceLT, Nat.reduceMul, Nat.reduceEqDiff, ne_eq, Int.reduceLT, Int.reduceLE, Int.reduceEq, hset_get hl, List.set_set, mk_len hn]
    exact ⟨fun h => absurd h (by omega), fun _ => Wk.refl⟩
theorem L_heldCellS (s : AV) (n : Nat) (k : Int) (H : Heap) (hs : Sl H s 3 ((mks mCell 3 k n).map eCell)) (hm : n ≤ 1048576) (h0 : 0 ≤ k) (h1 : k ≤ 1099511627776) :
    ADet Try.prog 270 [s, .int .i64 k] H (.int .i64 (k + 3 * n)) H := by
  refine adet_run hT (fun _ => false) Try.func270 rfl (by kernel_rfl) (by kernel_rfl) ?_
  simp only [TT, RR, flagOf, gslot, aop, ev, cv, putA, pickAV, if_false, if_true, Nat.reduceAdd, Nat.reduceSub, true_implies, reduceCtorEq, false_implies, implies_true, retAll, retOne, oneOf, cond_true, cond_false, rd, wr, joinT, splice, lay, layRows, abuiltin, abPure, abMem, szv, asNat, loOf, aslice, kindOf, szOf, Nat.reduceLeDiff, Nat.reduceLT, Nat.reduceMul, Nat.reduceEqDiff, ne_eq, Int.reduceLT, Int.reduceLE, Int.reduceEq, Try.ntmps270, Try.results270]
  refine lp_up hT n (fun j => [s, .int .i64 (k + 3 * j), .any, .any, .int .i64 0, .int .i64 (j : Int), .any, .any, .any, .any, .any, .any, .any, .any, .any, .any, .any, .any, .any, .any, .any, .any, .any, .any, .any, .any, .any, .any, .any, .any, .any, .any, .any, .any, .any, .any, .any, .any, .any, .any]) (fun j => H) (fun _ => True) (by kernel_rfl) trivial ?_ (fun j hj _ => ?_) (fun _ => ?_)
  · exact wk_any rfl (by simp only [anyL_nil, anyL_any, anyL_same, anyL_int, anyL_bool, and_true, true_and]; omega)
  · have hj' : j < (mks mCell 3 k n).length := by rw [mks_len]; exact hj
    have w1 : IntKind.i64.wrap (k + 3 * (j : Int) + 1) = k + 3 * j + 1 := by rw [wrap_k (by omega) (by omega)]; try omega
    have w2 : IntKind.i64.wrap (k + 3 * (j : Int) + 1 + 1) = k + 3 * j + 2 := by rw [wrap_k (by omega) (by omega)]; try omega
    have w3 : IntKind.i64.wrap (k + 3 * (j : Int) + 2 + 1) = k + 3 * j + 3 := by rw [wrap_k (by omega) (by omega)]; try omega
    simp only [TT, RR, flagOf, gslot, aop, ev, cv, putA, pickAV, if_false, if_true, Nat.reduceAdd, Nat.reduceSub, true_implies, reduceCtorEq, false_implies, implies_true, retAll, retOne, oneOf, cond_true, cond_false, rd, wr, joinT, splice, lay, layRows, abuiltin, abPure, abMem, szv, asNat, loOf, aslice, kindOf, szOf, Nat.reduceLeDiff, Nat.reduceLT, Nat.reduceMul, Nat.reduceEqDiff, ne_eq, Int.reduceLT, Int.reduceLE, Int.reduceEq, hs.get, hs.app, hs.len, hs.szk, List.length_map, mks_len, getD_map hj', mks_get hj', eCell, mCell, bit3, w1, w2, w3]
    refine ⟨fun _ => ?_, fun h => absurd (by omega) h⟩
    repeat' (first | (refine wk_any rfl (by simp only [anyL_nil, anyL_any, anyL_same, anyL_int, anyL_bool, and_true, true_and]; rw [wrap_succ (by omega)]; omega)) | (with_reducible refine And.intro ?_ ?_) | (with_reducible intro h))
    all_goals first | omega | exact absurd rfl h | simp at h
  · simp only [TT, RR, flagOf, gslot, aop, ev, cv, putA, pickAV, if_false, if_true, Nat.reduceAdd, Nat.reduceSub, true_implies, reduceCtorEq, false_implies, implies_true, retAll, retOne, oneOf, cond_true, cond_false, rd, wr, joinT, splice, lay, layRows, abuiltin, abPure, abMem, szv, asNat, loOf, aslice, kindOf, szOf, Nat.reduceLeDiff, Nat.reduceLT, Nat.reduceMul, Nat.reduceEqDiff, ne_eq, Int.reduceLT, Int.reduceLE, Int.reduceEq, hs.len, List.length_map, mks_len]
    exact ⟨fun h => absurd h (by omega), fun _ => Wk.refl⟩
theorem L_toStep (v : GStep) (H : Heap) : ADet Try.prog 273 [.agg (eStep v)] H (.agg (eStep v)) H := by
  refine adet_run hT (fun _ => false) Try.func273 rfl (by kernel_rfl) (by kernel_rfl) ?_
  simp only [TT, RR, flagOf, gslot, aop, ev, cv, putA, pickAV, if_false, if_true, Nat.reduceAdd, Nat.reduceSub, true_implies, reduceCtorEq, false_implies, implies_true, retAll, retOne, oneOf, cond_true, cond_false, rd, wr, joinT, splice, lay, layRows, abuiltin, abPure, abMem, szv, asNat, loOf, aslice, kindOf, szOf, Nat.reduceLeDiff, Nat.reduceLT, Nat.reduceMul, Nat.reduceEqDiff, ne_eq, Int.reduceLT, Int.reduceLE, Int.reduceEq, Try.ntmps273, Try.results273, eStep]
  exact wk_drop rfl rfl
theorem L_eqStep (a b : GStep) (H : Heap) : ADet Try.prog 279 [.agg (eStep a), .agg (eStep b)] H (.bool (decide (a = b))) H := by
  refine adet_run hT (fun _ => false) Try.func279 rfl (by kernel_rfl) (by kernel_rfl) ?_
  simp only [TT, RR, flagOf, gslot, aop, ev, cv, putA, pickAV, if_false, if_true, Nat.reduceAdd, Nat.reduceSub, true_implies, reduceCtorEq, false_implies, implies_true, retAll, retOne, oneOf, cond_true, cond_false, rd, wr, joinT, splice, lay, layRows, abuiltin, abPure, abMem, szv, asNat, loOf, aslice, kindOf, szOf, Nat.reduceLeDiff, Nat.reduceLT, Nat.reduceMul, Nat.reduceEqDiff, ne_eq, Int.reduceLT, Int.reduceLE, Int.reduceEq, Try.ntmps279, Try.results279, eStep]
  obtain ⟨a0, a1, a2, a3⟩ := a
  obtain ⟨b0, b1, b2, b3⟩ := b
  repeat' (first | (refine wk_same ?_) | (refine wk_drop ?_ (by rfl)) | (with_reducible refine And.intro ?_ ?_) | (with_reducible intro _))
  all_goals simp_all
theorem L_szStepS (s : AV) (n : Nat) (H : Heap) (left : Int) (hs : lenOf s = some n) : ADet Try.prog 171 [s, .int .i64 left] H (.int .i64 (szI left n)) H := by
  refine adet_run hT (fun _ => false) Try.func171 rfl (by kernel_rfl) (by kernel_rfl) ?_
  simp only [TT, RR, flagOf, gslot, aop, ev, cv, putA, pickAV, if_false, if_true, Nat.reduceAdd, Nat.reduceSub, true_implies, reduceCtorEq, false_implies, implies_true, retAll, retOne, oneOf, cond_true, cond_false, rd, wr, joinT, splice, lay, layRows, abuiltin, abPure, abMem, szv, asNat, loOf, aslice, kindOf, szOf, Nat.reduceLeDiff, Nat.reduceLT, Nat.reduceMul, Nat.reduceEqDiff, ne_eq, Int.reduceLT, Int.reduceLE, Int.reduceEq, Try.ntmps171, Try.results171, hs]
  unfold szI
  constructor <;> intro h <;> simp only [h, if_true, if_false] <;> exact Wk.refl
theorem L_toStepS (s : AV) (xs : List GStep) (H : Heap) (hs : Sl H s 4 (xs.map eStep)) (hn : xs.length ≤ 1048576) : ADet Try.prog 176 [s] H (.own H.length 4 0 xs.length xs.length) (H ++ [some (.arr 4 (xs.map eStep))]) := by
  refine adet_run hT (fun _ => false) Try.func176 rfl (by kernel_rfl) (by kernel_rfl) ?_
  simp only [TT, RR, flagOf, gslot, aop, ev, cv, putA, pickAV, if_false, if_true, Nat.reduceAdd, Nat.reduceSub, true_implies, reduceCtorEq, false_implies, implies_true, retAll, retOne, oneOf, cond_true, cond_false, rd, wr, joinT, splice, lay, layRows, abuiltin, abPure, abMem, szv, asNat, loOf, aslice, kindOf, szOf, Nat.reduceLeDiff, Nat.reduceLT, Nat.reduceMul, Nat.reduceEqDiff, ne_eq, Int.reduceLT, Int.reduceLE, Int.reduceEq, Try.ntmps176, Try.results176, hs.get, hs.app, hs.len, hs.szk, List.length_map]
  refine ⟨by omega, lp_up hT xs.length (fun j => [s, .any, .any, .own H.length 4 0 xs.length xs.length, .int .i64 (j : Int), .any, .any, .any, .any, .any, .any, .any, .any, .any, .any, .any, .any, .any, .any, .any, .any, .any, .any]) (fun j => H ++ [some (.arr 4 (Fill (xs.map eStep) [.bool false, .int .i64 0, .int .i64 0, .int .i64 0] j))]) (fun _ => True) (by kernel_rfl) trivial ?_ (fun j hj _ => ?_) (fun _ => ?_)⟩
  · exact wk_any (by rw [← fill_0, List.length_map]) (by simp only [anyL_nil, anyL_any, anyL_same, anyL_int, anyL_bool, and_true, true_and]; trivial)
  · simp only [TT, RR, flagOf, gslot, aop, ev, cv, putA, pickAV, if_false, if_true, Nat.reduceAdd, Nat.reduceSub, true_implies, reduceCtorEq, false_implies, implies_true, retAll, retOne, oneOf, cond_true, cond_false, rd, wr, joinT, splice, lay, layRows, abuiltin, abPure, abMem, szv, asNat, loOf, aslice, kindOf, szOf, Nat.reduceLeDiff, Nat.reduceLT, Nat.reduceMul, Nat.reduceEqDiff, ne_eq, Int.reduceLT, Int.reduceLE, Int.reduceEq, hs.get, hs.app, hs.len, hs.szk, List.length_map, getD_map hj, eStep, fill_len, fill_at (ys := xs.map eStep) (j := j) (by simpa using hj), Nat.le_of_lt hj]
    refine ⟨fun _ => ⟨by omega, callA_of (L_toStep _ _) ?_⟩, fun h => absurd (by omega) h⟩
    simp only [TT, RR, flagOf, gslot, aop, ev, cv, putA, pickAV, if_false, if_true, Nat.reduceAdd, Nat.reduceSub, true_implies, reduceCtorEq, false_implies, implies_true, retAll, retOne, oneOf, cond_true, cond_false, rd, wr, joinT, splice, lay, layRows, abuiltin, abPure, abMem, szv, asNat, loOf, aslice, kindOf, szOf, Nat.reduceLeDiff, Nat.reduceLT, Nat.reduceMul, Nat.reduceEqDiff, ne_eq, Int.reduceLT, Int.reduceLE, Int.reduceEq, fill_len, eStep, List.length_map, fill_at (ys := xs.map eStep) (j := j) (by simpa using hj), Nat.le_of_lt hj]
    refine ⟨by omega, by omega, wk_any (congrArg (fun r => H ++ [some (Blk.arr 4 r)]) (fill_set' (by simpa using hj) (getD_map hj))) (by rw [wrap_succ (by omega)]; simp only [anyL_nil, anyL_any, anyL_same, anyL_int, anyL_bool, and_true, true_and])⟩
  · simp only [TT, RR, flagOf, gslot, aop, ev, cv, putA, pickAV, if_false, if_true, Nat.reduceAdd, Nat.reduceSub, true_implies, reduceCtorEq, false_implies, implies_true, retAll, retOne, oneOf, cond_true, cond_false, rd, wr, joinT, splice, lay, layRows, abuiltin, abPure, abMem, szv, asNat, loOf, aslice, kindOf, szOf, Nat.reduceLeDiff, Nat.reduceLT, Nat.reduceMul, Nat.reduceEqDiff, ne_eq, Int.reduceLT, Int.reduceLE, Int.reduceEq, hs.get, hs.app, hs.len, hs.szk, List.length_map]
    refine ⟨fun h => absurd h (by omega), fun _ => ?_⟩
    exact wk_any (by rw [← List.length_map (f := eStep), fill_n]) (by simp only [anyL_nil, anyL_any, anyL_same, anyL_int, anyL_bool, and_true, true_and])
theorem L_eqStepS (s s' : AV) (xs ys : List GStep) (H : Heap) (hs : Sl H s 4 (xs.map eStep)) (hs' : Sl H s' 4 (ys.map eStep)) (hn : xs.length ≤ 1048576) : ADet Try.prog 184 [s, s'] H (.bool (decide (xs = ys))) H := by
  refine adet_run hT (fun _ => false) Try.func184 rfl (by kernel_rfl) (by kernel_rfl) ?_
  simp only [TT, RR, flagOf, gslot, aop, ev, cv, putA, pickAV, if_false, if_true, Nat.reduceAdd, Nat.reduceSub, true_implies, reduceCtorEq, false_implies, implies_true, retAll, retOne, oneOf, cond_true, cond_false, rd, wr, joinT, splice, lay, layRows, abuiltin, abPure, abMem, szv, asNat, loOf, aslice, kindOf, szOf, Nat.reduceLeDiff, Nat.reduceLT, Nat.reduceMul, Nat.reduceEqDiff, ne_eq, Int.reduceLT, Int.reduceLE, Int.reduceEq, Try.ntmps184, Try.results184, hs.get, hs.app, hs.len, hs.szk, hs'.get, hs'.app, hs'.len, hs'.szk, List.length_map]
  refine ⟨fun h => wk_same ?_, fun h => ?_⟩
  · rw [decide_eq_false (fun e => h (by rw [e]))]
  have hl : xs.length = ys.length := by omega
  refine lp_up hT xs.length (fun j => [s, s', .any, .any, .any, .int .i64 (j : Int), .any, .any, .any, .any, .any, .any, .any, .any, .any, .any, .any, .any, .any, .any, .any, .any, .any, .any, .any, .any, .any]) (fun j => H) (fun j => xs.take j = ys.take j) (by kernel_rfl) rfl ?_ (fun j hj hV => ?_) (fun hV => ?_)
  · exact wk_any rfl (by simp only [anyL_nil, anyL_any, anyL_same, anyL_int, anyL_bool, and_true, true_and]; trivial)
  · have hj' : j < ys.length := hl ▸ hj
    simp only [TT, RR, flagOf, gslot, aop, ev, cv, putA, pickAV, if_false, if_true, Nat.reduceAdd, Nat.reduceSub, true_implies, reduceCtorEq, false_implies, implies_true, retAll, retOne, oneOf, cond_true, cond_false, rd, wr, joinT, splice, lay, layRows, abuiltin, abPure, abMem, szv, asNat, loOf, aslice, kindOf, szOf, Nat.reduceLeDiff, Nat.reduceLT, Nat.reduceMul, Nat.reduceEqDiff, ne_eq, Int.reduceLT, Int.reduceLE, Int.reduceEq, hs.get, hs.app, hs.len, hs.szk, hs'.get, hs'.app, hs'.len, hs'.szk, List.length_map, getD_map hj, getD_map hj', eStep]
    refine ⟨fun _ => ⟨by omega, by omega, callD_of (L_eqStep _ _ _) ?_⟩, fun h => absurd (by omega) h⟩
    simp only [TT, RR, flagOf, gslot, aop, ev, cv, putA, pickAV, if_false, if_true, Nat.reduceAdd, Nat.reduceSub, true_implies, reduceCtorEq, false_implies, implies_true, retAll, retOne, oneOf, cond_true, cond_false, rd, wr, joinT, splice, lay, layRows, abuiltin, abPure, abMem, szv, asNat, loOf, aslice, kindOf, szOf, Nat.reduceLeDiff, Nat.reduceLT, Nat.reduceMul, Nat.reduceEqDiff, ne_eq, Int.reduceLT, Int.reduceLE, Int.reduceEq]
    refine ⟨fun h => wk_same ?_, fun h => ⟨take_ne hj hj' hV (by simpa using h), wk_any rfl (by simp only [anyL_nil, anyL_any, anyL_same, anyL_int, anyL_bool, and_true, true_and]; rw [wrap_succ (by omega)])⟩⟩
    rw [decide_eq_false (fun e => by simp [e] at h)]
  · simp only [TT, RR, flagOf, gslot, aop, ev, cv, putA, pickAV, if_false, if_true, Nat.reduceAdd, Nat.reduceSub, true_implies, reduceCtorEq, false_implies, implies_true, retAll, retOne, oneOf, cond_true, cond_false, rd, wr, joinT, splice, lay, layRows, abuiltin, abPure, abMem, szv, asNat, loOf, aslice, kindOf, szOf, Nat.reduceLeDiff, Nat.reduceLT, Nat.reduceMul, Nat.reduceEqDiff, ne_eq, Int.reduceLT, Int.reduceLE, Int.reduceEq, hs.get, hs.app, hs.len, hs.szk, hs'.get, hs'.app, hs'.len, hs'.szk, List.length_map]
    refine ⟨fun h => absurd h (by omega), fun _ => wk_same ?_⟩
    rw [List.take_length, hl, List.take_length] at hV
    rw [decide_eq_true hV]
theorem L_markStepS (id lc n : Nat) (k : Int) (xs : List GStep) (H : Heap) (hH : H[id]? = some (some (.arr 4 (xs.map eStep)))) (hn : n ≤ xs.length) (hm : n ≤ 1048576) (h0 : 0 ≤ k) (h1 : k ≤ 1099511627776) :
    ADet Try.prog 185 [.own id 4 0 n lc, .int .i64 k] H (.int .i64 (k + 4 * n)) (H.set id (some (.arr 4 (Mk eStep mStep 4 k xs n)))) := by
  have hl := lt_of_blk hH
  refine adet_run hT (fun _ => false) Try.func185 rfl (by kernel_rfl) (by kernel_rfl) ?_
  simp only [TT, RR, flagOf, gslot, aop, ev, cv, putA, pickAV, if_false, if_true, Nat.reduceAdd, Nat.reduceSub, true_implies, reduceCtorEq, false_implies, implies_true, retAll, retOne, oneOf, cond_true, cond_false, rd, wr, joinT, splice, lay, layRows, abuiltin, abPure, abMem, szv, asNat, loOf, aslice, kindOf, szOf, Nat.reduceLeDiff, Nat.reduceLT, Nat.reduceMul, Nat.reduceEqDiff, ne_eq, Int.reduceLT, Int.reduceLE, Int.reduceEq, Try.ntmps185, Try.results185]
  refine lp_up hT n (fun j => [.own id 4 0 n lc, .int .i64 (k + 4 * j), .any, .any, .int .i64 0, .int .i64 (j : Int), .any, .any, .any, .any, .any, .any, .any, .any, .any, .any, .any, .any, .any, .any, .any, .any, .any, .any, .any, .any, .any, .any, .any, .any, .any, .any, .any, .any, .any, .any, .any, .any, .any, .any, .any, .any, .any]) (fun j => H.set id (some (.arr 4 (Mk eStep mStep 4 k xs j)))) (fun _ => True) (by kernel_rfl) trivial ?_ (fun j hj _ => ?_) (fun _ => ?_)
  · exact wk_any (by rw [mk_0, hset_same hH]) (by simp only [anyL_nil, anyL_any, anyL_same, anyL_int, anyL_bool, and_true, true_and]; omega)
  · have hj' := Nat.lt_of_lt_of_le hj hn
    have hg : ∀ r, ((Mk eStep mStep 4 k xs j).set j r).getD j [] = r := fun r => getD_set (by rw [mk_len (by omega)]; exact hj')
    have w1 : IntKind.i64.wrap (k + 4 * (j : Int) + 1) = k + 4 * j + 1 := by rw [wrap_k (by omega) (by omega)]; try omega
    have w2 : IntKind.i64.wrap (k + 4 * (j : Int) + 1 + 1) = k + 4 * j + 2 := by rw [wrap_k (by omega) (by omega)]; try omega
    have w3 : IntKind.i64.wrap (k + 4 * (j : Int) + 2 + 1) = k + 4 * j + 3 := by rw [wrap_k (by omega) (by omega)]; try omega
    have w4 : IntKind.i64.wrap (k + 4 * (j : Int) + 3 + 1) = k + 4 * j + 4 := by rw [wrap_k (by omega) (by omega)]; try omega
    simp only [TT, RR, flagOf, gslot, aop, ev, cv, putA, pickAV, if_false, if_true, Nat.reduceAdd, Nat.reduceSub, true_implies, reduceCtorEq, false_implies, implies_true, retAll, retOne, oneOf, cond_true, cond_false, rd, wr, joinT, splice, lay, layRows, abuiltin, abPure, abMem, szv, asNat, loOf, aslice, kindOf, szOf, Nat.reduceLeDiff, Nat.reduceLT, Nat.reduceMul, Nat.reduceEqDiff, ne_eq, Int.reduceLT, Int.reduceLE, Int.reduceEq, hset_get hl, List.set_set, mk_len (Nat.le_of_lt hj'), List.length_set, hg, getD_take hj, mk_at hj', eStep, w1, w2, w3, w4]
    refine ⟨fun _ => ⟨by omega, hn, by omega, hn, by omega, hn, by omega, hn, ?_⟩, fun h => absurd (by omega) h⟩
    exact wk_any (congrArg (fun r => H.set id (some (Blk.arr 4 r))) (mk_set (g := mStep) hj')) (by simp only [anyL_nil, anyL_any, anyL_same, anyL_int, anyL_bool, and_true, true_and]; rw [wrap_succ (by omega)]; omega)
  · simp only [TT, RR, flagOf, gslot, aop, ev, cv, putA, pickAV, if_false, if_true, Nat.reduceAdd, Nat.reduceSub, true_implies, reduceCtorEq, false_implies, implies_true, retAll, retOne, oneOf, cond_true, cond_false, rd, wr, joinT, splice, lay, layRows, abuiltin, abPure, abMem, szv, asNat, loOf, aslice, kindOf, szOf, Nat.reduceLeDiff, Nat.reduceLT, Nat.reduceMul, Nat.reduceEqDiff, ne_eq, Int.reduceLT, Int.reduceLE, Int.reduceEq, hset_get hl, List.set_set, mk_len hn]
    exact ⟨fun h => absurd h (by omega), fun _ => Wk.refl⟩
theorem L_heldStepS (s : AV) (n : Nat) (k : Int) (H : Heap) (hs : Sl H s 4 ((mks mStep 4 k n).map eStep)) (hm : n ≤ 1048576) (h0 : 0 ≤ k) (h1 : k ≤ 1099511627776) :
    ADet Try.prog 200 [s, .int .i64 k] H (.int .i64 (k + 4 * n)) H := by
  refine adet_run hT (fun _ => false) Try.func200 rfl (by kernel_rfl) (by kernel_rfl) ?_
  simp only [TT, RR, flagOf, gslot, aop, ev, cv, putA, pickAV, if_false, if_true, Nat.reduceAdd, Nat.reduceSub, true_implies, reduceCtorEq, false_implies, implies_true, retAll, retOne, oneOf, cond_true, cond_false, rd, wr, joinT, splice, lay, layRows, abuiltin, abPure, abMem, szv, asNat, loOf, aslice, kindOf, szOf, Nat.reduceLeDiff, Nat.reduceLT, Nat.reduceMul, Nat.reduceEqDiff, ne_eq, Int.reduceLT, Int.reduceLE, Int.reduceEq, Try.ntmps200, Try.results200]
  refine lp_up hT n (fun j => [s, .int .i64 (k + 4 * j), .any, .any, .int .i64 0, .int .i64 (j : Int), .any, .any, .any, .any, .any, .any, .any, .any, .any, .any, .any, .any, .any, .any, .any, .any, .any, .any, .any, .any, .any, .any, .any, .any, .any, .any, .any, .any, .any, .any, .any, .any, .any, .any, .any, .any, .any, .any, .any, .any, .any, .any, .any, .any, .any]) (fun j => H) (fun _ => True) (by kernel_rfl) trivial ?_ (fun j hj _ => ?_) (fun _ => ?_)
  · exact wk_any rfl (by simp only [anyL_nil, anyL_any, anyL_same, anyL_int, anyL_bool, and_true, true_and]; omega)
  · have hj' : j < (mks mStep 4 k n).length := by rw [mks_len]; exact hj
    have w1 : IntKind.i64.wrap (k + 4 * (j : Int) + 1) = k + 4 * j + 1 := by rw [wrap_k (by omega) (by omega)]; try omega
    have w2 : IntKind.i64.wrap (k + 4 * (j : Int) + 1 + 1) = k + 4 * j + 2 := by rw [wrap_k (by omega) (by omega)]; try omega
    have w3 : IntKind.i64.wrap (k + 4 * (j : Int) + 2 + 1) = k + 4 * j + 3 := by rw [wrap_k (by omega) (by omega)]; try omega
    have w4 : IntKind.i64.wrap (k + 4 * (j : Int) + 3 + 1) = k + 4 * j + 4 := by rw [wrap_k (by omega) (by omega)]; try omega
    simp only [TT, RR, flagOf, gslot, aop, ev, cv, putA, pickAV, if_false, if_true, Nat.reduceAdd, Nat.reduceSub, true_implies, reduceCtorEq, false_implies, implies_true, retAll, retOne, oneOf, cond_true, cond_false, rd, wr, joinT, splice, lay, layRows, abuiltin, abPure, abMem, szv, asNat, loOf, aslice, kindOf, szOf, Nat.reduceLeDiff, Nat.reduceLT, Nat.reduceMul, Nat.reduceEqDiff, ne_eq, Int.reduceLT, Int.reduceLE, Int.reduceEq, hs.get, hs.app, hs.len, hs.szk, List.length_map, mks_len, getD_map hj', mks_get hj', eStep, mStep, bit3, w1, w2, w3, w4]
    refine ⟨fun _ => ?_, fun h => absurd (by omega) h⟩
    repeat' (first | (refine wk_any rfl (by simp only [anyL_nil, anyL_any, anyL_same, anyL_int, anyL_bool, and_true, true_and]; rw [wrap_succ (by omega)]; omega)) | (with_reducible refine And.intro ?_ ?_) | (with_reducible intro h))
    all_goals first | omega | exact absurd rfl h | simp at h
  · simp only [TT, RR, flagOf, gslot, aop, ev, cv, putA, pickAV, if_false, if_true, Nat.reduceAdd, Nat.reduceSub, true_implies, reduceCtorEq, false_implies, implies_true, retAll, retOne, oneOf, cond_true, cond_false, rd, wr, joinT, splice, lay, layRows, abuiltin, abPure, abMem, szv, asNat, loOf, aslice, kindOf, szOf, Nat.reduceLeDiff, Nat.reduceLT, Nat.reduceMul, Nat.reduceEqDiff, ne_eq, Int.reduceLT, Int.reduceLE, Int.reduceEq, hs.len, List.length_map, mks_len]
    exact ⟨fun h => absurd h (by omega), fun _ => Wk.refl⟩
theorem L_toBlock (v : GBlock) (H : Heap) : ADet Try.prog 323 [.agg (eBlock v)] H (.agg (eBlock v)) H := by
  refine adet_run hT (fun _ => false) Try.func323 rfl (by kernel_rfl) (by kernel_rfl) ?_
  simp only [TT, RR, flagOf, gslot, aop, ev, cv, putA, pickAV, if_false, if_true, Nat.reduceAdd, Nat.reduceSub, true_implies, reduceCtorEq, false_implies, implies_true, retAll, retOne, oneOf, cond_true, cond_false, rd, wr, joinT, splice, lay, layRows, abuiltin, abPure, abMem, szv, asNat, loOf, aslice, kindOf, szOf, Nat.reduceLeDiff, Nat.reduceLT, Nat.reduceMul, Nat.reduceEqDiff, ne_eq, Int.reduceLT, Int.reduceLE, Int.reduceEq, Try.ntmps323, Try.results323, eBlock]
  exact wk_drop rfl rfl
theorem L_eqBlock (a b : GBlock) (H : Heap) : ADet Try.prog 327 [.agg (eBlock a), .agg (eBlock b)] H (.bool (decide (a = b))) H := by
  refine adet_run hT (fun _ => false) Try.func327 rfl (by kernel_rfl) (by kernel_rfl) ?_
  simp only [TT, RR, flagOf, gslot, aop, ev, cv, putA, pickAV, if_false, if_true, Nat.reduceAdd, Nat.reduceSub, true_implies, reduceCtorEq, false_implies, implies_true, retAll, retOne, oneOf, cond_true, cond_false, rd, wr, joinT, splice, lay, layRows, abuiltin, abPure, abMem, szv, asNat, loOf, aslice, kindOf, szOf, Nat.reduceLeDiff, Nat.reduceLT, Nat.reduceMul, Nat.reduceEqDiff, ne_eq, Int.reduceLT, Int.reduceLE, Int.reduceEq, Try.ntmps327, Try.results327, eBlock]
  obtain ⟨a0, a1⟩ := a
  obtain ⟨b0, b1⟩ := b
  repeat' (first | (refine wk_same ?_) | (refine wk_drop ?_ (by rfl)) | (with_reducible refine And.intro ?_ ?_) | (with_reducible intro _))
  all_goals simp_all
theorem L_szBlockS (s : AV) (n : Nat) (H : Heap) (left : Int) (hs : lenOf s = some n) : ADet Try.prog 287 [s, .int .i64 left] H (.int .i64 (szI left n)) H := by
  refine adet_run hT (fun _ => false) Try.func287 rfl (by kernel_rfl) (by kernel_rfl) ?_
  simp only [TT, RR, flagOf, gslot, aop, ev, cv, putA, pickAV, if_false, if_true, Nat.reduceAdd, Nat.reduceSub, true_implies, reduceCtorEq, false_implies, implies_true, retAll, retOne, oneOf, cond_true, cond_false, rd, wr, joinT, splice, lay, layRows, abuiltin, abPure, abMem, szv, asNat, loOf, aslice, kindOf, szOf, Nat.reduceLeDiff, Nat.reduceLT, Nat.reduceMul, Nat.reduceEqDiff, ne_eq, Int.reduceLT, Int.reduceLE, Int.reduceEq, Try.ntmps287, Try.results287, hs]
  unfold szI
  constructor <;> intro h <;> simp only [h, if_true, if_false] <;> exact Wk.refl
theorem L_toBlockS (s : AV) (xs : List GBlock) (H : Heap) (hs : Sl H s 2 (xs.map eBlock)) (hn : xs.length ≤ 1048576) : ADet Try.prog 293 [s] H (.own H.length 2 0 xs.length xs.length) (H ++ [some (.arr 2 (xs.map eBlock))]) := by
  refine adet_run hT (fun _ => false) Try.func293 rfl (by kernel_rfl) (by kernel_rfl) ?_
  simp only [TT, RR, flagOf, gslot, aop, ev, cv, putA, pickAV, if_false, if_true, Nat.reduceAdd, Nat.reduceSub, true_implies, reduceCtorEq, false_implies, implies_true, retAll, retOne, oneOf, cond_true, cond_false, rd, wr, joinT, splice, lay, layRows, abuiltin, abPure, abMem, szv, asNat, loOf, aslice, kindOf, szOf, Nat.reduceLeDiff, Nat.reduceLT, Nat.reduceMul, Nat.reduceEqDiff, ne_eq, Int.reduceLT, Int.reduceLE, Int.reduceEq, Try.ntmps293, Try.results293, hs.get, hs.app, hs.len, hs.szk, List.length_map]
  refine ⟨by omega, lp_up hT xs.length (fun j => [s, .any, .any, .own H.length 2 0 xs.length xs.length, .int .i64 (j : Int), .any, .any, .any, .any, .any, .any, .any, .any, .any, .any, .any, .any, .any, .any, .any, .any, .any, .any]) (fun j => H ++ [some (.arr 2 (Fill (xs.map eBlock) [.int .i64 0, .int .i64 0] j))]) (fun _ => True) (by kernel_rfl) trivial ?_ (fun j hj _ => ?_) (fun _ => ?_)⟩
  · exact wk_any (by rw [← fill_0, List.length_map]) (by simp only [anyL_nil, anyL_any, anyL_same, anyL_int, anyL_bool, and_true, true_and]; trivial)
  · simp only [TT, RR, flagOf, gslot, aop, ev, cv, putA, pickAV, if_false, if_true, Nat.reduceAdd, Nat.reduceSub, true_implies, reduceCtorEq, false_implies, implies_true, retAll, retOne, oneOf, cond_true, cond_false, rd, wr, joinT, splice, lay, layRows, abuiltin, abPure, abMem, szv, asNat, loOf, aslice, kindOf, szOf, Nat.reduceLeDiff, Nat.reduceLT, Nat.reduceMul, Nat.reduceEqDiff, ne_eq, Int.reduceLT, Int.reduceLE, Int.reduceEq, hs.get, hs.app, hs.len, hs.szk, List.length_map, getD_map hj, eBlock, fill_len, fill_at (ys := xs.map eBlock) (j := j) (by simpa using hj), Nat.le_of_lt hj]
    refine ⟨fun _ => ⟨by omega, callA_of (L_toBlock _ _) ?_⟩, fun h => absurd (by omega) h⟩
    simp only [TT, RR, flagOf, gslot, aop, ev, cv, putA, pickAV, if_false, if_true, Nat.reduceAdd, Nat.reduceSub, true_implies, reduceCtorEq, false_implies, implies_true, retAll, retOne, oneOf, cond_true, cond_false, rd, wr, joinT, splice, lay, layRows, abuiltin, abPure, abMem, szv, asNat, loOf, aslice, kindOf, szOf, Nat.reduceLeDiff, Nat.reduceLT, Nat.reduceMul, Nat.reduceEqDiff, ne_eq, Int.reduceLT, Int.reduceLE, Int.reduceEq, fill_len, eBlock, List.length_map, fill_at (ys := xs.map eBlock) (j := j) (by simpa using hj), Nat.le_of_lt hj]
    refine ⟨by omega, by omega, wk_any (congrArg (fun r => H ++ [some (Blk.arr 2 r)]) (fill_set' (by simpa using hj) (getD_map hj))) (by rw [wrap_succ (by omega)]; simp only [anyL_nil, anyL_any, anyL_same, anyL_int, anyL_bool, and_true, true_and])⟩
  · simp only [TT, RR, flagOf, gslot, aop, ev, cv, putA, pickAV, if_false, if_true, Nat.reduceAdd, Nat.reduceSub, true_implies, reduceCtorEq, false_implies, implies_true, retAll, retOne, oneOf, cond_true, cond_false, rd, wr, joinT, splice, lay, layRows, abuiltin, abPure, abMem, szv, asNat, loOf, aslice, kindOf, szOf, Nat.reduceLeDiff, Nat.reduceLT, Nat.reduceMul, Nat.reduceEqDiff, ne_eq, Int.reduceLT, Int.reduceLE, Int.reduceEq, hs.get, hs.app, hs.len, hs.szk, List.length_map]
    refine ⟨fun h => absurd h (by omega), fun _ => ?_⟩
    exact wk_any (by rw [← List.length_map (f := eBlock), fill_n]) (by simp only [anyL_nil, anyL_any, anyL_same, anyL_int, anyL_bool, and_true, true_and])
theorem L_eqBlockS (s s' : AV) (xs ys : List GBlock) (H : Heap) (hs : Sl H s 2 (xs.map eBlock)) (hs' : Sl H s' 2 (ys.map eBlock)) (hn : xs.length ≤ 1048576) : ADet Try.prog 301 [s, s'] H (.bool (decide (xs = ys))) H := by
  refine adet_run hT (fun _ => false) Try.func301 rfl (by kernel_rfl) (by kernel_rfl) ?_
  simp only [TT, RR, flagOf, gslot, aop, ev, cv, putA, pickAV, if_false, if_true, Nat.reduceAdd, Nat.reduceSub, true_implies, reduceCtorEq, false_implies, implies_true, retAll, retOne, oneOf, cond_true, cond_false, rd, wr, joinT, splice, lay, layRows, abuiltin, abPure, abMem, szv, asNat, loOf, aslice, kindOf, szOf, Nat.reduceLeDiff, Nat.reduceLT, Nat.reduceMul, Nat.reduceEqDiff, ne_eq, Int.reduceLT, Int.reduceLE, Int.reduceEq, Try.ntmps301, Try.results301, hs.get, hs.app, hs.len, hs.szk, hs'.get, hs'.app, hs'.len, hs'.szk, List.length_map]
  refine ⟨fun h => wk_same ?_, fun h => ?_⟩
  · rw [decide_eq_false (fun e => h (by rw [e]))]
  have hl : xs.length = ys.length := by omega
  refine lp_up hT xs.length (fun j => [s, s', .any, .any, .any, .int .i64 (j : Int), .any, .any, .any, .any, .any, .any, .any, .any, .any, .any, .any, .any, .any, .any, .any, .any, .any, .any, .any, .any, .any]) (fun j => H) (fun j => xs.take j = ys.take j) (by kernel_rfl) rfl ?_ (fun j hj hV => ?_) (fun hV => ?_)
  · exact wk_any rfl (by simp only [anyL_nil, anyL_any, anyL_same, anyL_int, anyL_bool, and_true, true_and]; trivial)
  · have hj' : j < ys.length := hl ▸ hj
    simp only [TT, RR, flagOf, gslot, aop, ev, cv, putA, pickAV, if_false, if_true, Nat.reduceAdd, Nat.reduceSub, true_implies, reduceCtorEq, false_implies, implies_true, retAll, retOne, oneOf, cond_true, cond_false, rd, wr, joinT, splice, lay, layRows, abuiltin, abPure, abMem, szv, asNat, loOf, aslice, kindOf, szOf, Nat.reduceLeDiff, Nat.reduceLT, Nat.reduceMul, Nat.reduceEqDiff, ne_eq, Int.reduceLT, Int.reduceLE, Int.reduceEq, hs.get, hs.app, hs.len, hs.szk, hs'.get, hs'.app, hs'.len, hs'.szk, List.length_map, getD_map hj, getD_map hj', eBlock]
    refine ⟨fun _ => ⟨by omega, by omega, callD_of (L_eqBlock _ _ _) ?_⟩, fun h => absurd (by omega) h⟩
    simp only [TT, RR, flagOf, gslot, aop, ev, cv, putA, pickAV, if_false, if_true, Nat.reduceAdd, Nat.reduceSub, true_implies, reduceCtorEq, false_implies, implies_true, retAll, retOne, oneOf, cond_true, cond_false, rd, wr, joinT, splice, lay, layRows, abuiltin, abPure, abMem, szv, asNat, loOf, aslice, kindOf, szOf, Nat.reduceLeDiff, Nat.reduceLT, Nat.reduceMul, Nat.reduceEqDiff, ne_eq, Int.reduceLT, Int.reduceLE, Int.reduceEq]
    refine ⟨fun h => wk_same ?_, fun h => ⟨take_ne hj hj' hV (by simpa using h), wk_any rfl (by simp only [anyL_nil, anyL_any, anyL_same, anyL_int, anyL_bool, and_true, true_and]; rw [wrap_succ (by omega)])⟩⟩
    rw [decide_eq_false (fun e => by simp [e] at h)]
  · simp only [TT, RR, flagOf, gslot, aop, ev, cv, putA, pickAV, if_false, if_true, Nat.reduceAdd, Nat.reduceSub, true_implies, reduceCtorEq, false_implies, implies_true, retAll, retOne, oneOf, cond_true, cond_false, rd, wr, joinT, splice, lay, layRows, abuiltin, abPure, abMem, szv, asNat, loOf, aslice, kindOf, szOf, Nat.reduceLeDiff, Nat.reduceLT, Nat.reduceMul, Nat.reduceEqDiff, ne_eq, Int.reduceLT, Int.reduceLE, Int.reduceEq, hs.get, hs.app, hs.len, hs.szk, hs'.get, hs'.app, hs'.len, hs'.szk, List.length_map]
    refine ⟨fun h => absurd h (by omega), fun _ => wk_same ?_⟩
    rw [List.take_length, hl, List.take_length] at hV
    rw [decide_eq_true hV]
theorem L_toOp (v : GOp) (H : Heap) : ADet Try.prog 67 [.agg (eOp v)] H (.agg (eOp v)) H := by
  refine adet_run hT (fun _ => false) Try.func67 rfl (by kernel_rfl) (by kernel_rfl) ?_
  simp only [TT, RR, flagOf, gslot, aop, ev, cv, putA, pickAV, if_false, if_true, Nat.reduceAdd, Nat.reduceSub, true_implies, reduceCtorEq, false_implies, implies_true, retAll, retOne, oneOf, cond_true, cond_false, rd, wr, joinT, splice, lay, layRows, abuiltin, abPure, abMem, szv, asNat, loOf, aslice, kindOf, szOf, Nat.reduceLeDiff, Nat.reduceLT, Nat.reduceMul, Nat.reduceEqDiff, ne_eq, Int.reduceLT, Int.reduceLE, Int.reduceEq, Try.ntmps67, Try.results67, eOp]
  exact wk_drop rfl rfl
theorem L_eqOp (a b : GOp) (H : Heap) : ADet Try.prog 305 [.agg (eOp a), .agg (eOp b)] H (.bool (decide (a = b))) H := by
  refine adet_run hT (fun _ => false) Try.func305 rfl (by kernel_rfl) (by kernel_rfl) ?_
  simp only [TT, RR, flagOf, gslot, aop, ev, cv, putA, pickAV, if_false, if_true, Nat.reduceAdd, Nat.reduceSub, true_implies, reduceCtorEq, false_implies, implies_true, retAll, retOne, oneOf, cond_true, cond_false, rd, wr, joinT, splice, lay, layRows, abuiltin, abPure, abMem, szv, asNat, loOf, aslice, kindOf, szOf, Nat.reduceLeDiff, Nat.reduceLT, Nat.reduceMul, Nat.reduceEqDiff, ne_eq, Int.reduceLT, Int.reduceLE, Int.reduceEq, Try.ntmps305, Try.results305, eOp]
  obtain ⟨a0, a1, a2, a3⟩ := a
  obtain ⟨b0, b1, b2, b3⟩ := b
  repeat' (first | (refine wk_same ?_) | (refine wk_drop ?_ (by rfl)) | (with_reducible refine And.intro ?_ ?_) | (with_reducible intro _))
  all_goals simp_all
theorem L_toEntry (v : GEntry) (H : Heap) : ADet Try.prog 242 [.agg (eEntry v)] H (.agg (eEntry v)) H := by
  refine adet_run hT (fun _ => false) Try.func242 rfl (by kernel_rfl) (by kernel_rfl) ?_
  simp only [TT, RR, flagOf, gslot, aop, ev, cv, putA, pickAV, if_false, if_true, Nat.reduceAdd, Nat.reduceSub, true_implies, reduceCtorEq, false_implies, implies_true, retAll, retOne, oneOf, cond_true, cond_false, rd, wr, joinT, splice, lay, layRows, abuiltin, abPure, abMem, szv, asNat, loOf, aslice, kindOf, szOf, Nat.reduceLeDiff, Nat.reduceLT, Nat.reduceMul, Nat.reduceEqDiff, ne_eq, Int.reduceLT, Int.reduceLE, Int.reduceEq, Try.ntmps242, Try.results242, eEntry]
  exact callA_of (L_toOp v.op _) (by simp only [TT, RR, flagOf, gslot, aop, ev, cv, putA, pickAV, if_false, if_true, Nat.reduceAdd, Nat.reduceSub, true_implies, reduceCtorEq, false_implies, implies_true, retAll, retOne, oneOf, cond_true, cond_false, rd, wr, joinT, splice, lay, layRows, abuiltin, abPure, abMem, szv, asNat, loOf, aslice, kindOf, szOf, Nat.reduceLeDiff, Nat.reduceLT, Nat.reduceMul, Nat.reduceEqDiff, ne_eq, Int.reduceLT, Int.reduceLE, Int.reduceEq, eOp]; exact wk_drop rfl rfl)
theorem L_eqEntry (a b : GEntry) (H : Heap) : ADet Try.prog 245 [.agg (eEntry a), .agg (eEntry b)] H (.bool (decide (a = b))) H := by
  refine adet_run hT (fun _ => false) Try.func245 rfl (by kernel_rfl) (by kernel_rfl) ?_
  simp only [TT, RR, flagOf, gslot, aop, ev, cv, putA, pickAV, if_false, if_true, Nat.reduceAdd, Nat.reduceSub, true_implies, reduceCtorEq, false_implies, implies_true, retAll, retOne, oneOf, cond_true, cond_false, rd, wr, joinT, splice, lay, layRows, abuiltin, abPure, abMem, szv, asNat, loOf, aslice, kindOf, szOf, Nat.reduceLeDiff, Nat.reduceLT, Nat.reduceMul, Nat.reduceEqDiff, ne_eq, Int.reduceLT, Int.reduceLE, Int.reduceEq, Try.ntmps245, Try.results245, eEntry]
  refine ⟨fun h => wk_drop ?_ rfl, fun h => ⟨fun h1 => wk_drop ?_ rfl, fun h1 => callA_of (L_eqOp a.op b.op _) ?_⟩⟩
  · rw [decide_eq_false (fun e => h (by rw [e]))]
  · rw [decide_eq_false (fun e => h1 (by rw [e]))]
  simp only [TT, RR, flagOf, gslot, aop, ev, cv, putA, pickAV, if_false, if_true, Nat.reduceAdd, Nat.reduceSub, true_implies, reduceCtorEq, false_implies, implies_true, retAll, retOne, oneOf, cond_true, cond_false, rd, wr, joinT, splice, lay, layRows, abuiltin, abPure, abMem, szv, asNat, loOf, aslice, kindOf, szOf, Nat.reduceLeDiff, Nat.reduceLT, Nat.reduceMul, Nat.reduceEqDiff, ne_eq, Int.reduceLT, Int.reduceLE, Int.reduceEq]
  obtain ⟨a0, a1, a2⟩ := a
  obtain ⟨b0, b1, b2⟩ := b
  repeat' (first | (refine wk_same ?_) | (refine wk_drop ?_ (by rfl)) | (with_reducible refine And.intro ?_ ?_) | (with_reducible intro _))
  all_goals simp_all
theorem L_szEntryS (s : AV) (n : Nat) (H : Heap) (left : Int) (hs : lenOf s = some n) : ADet Try.prog 132 [s, .int .i64 left] H (.int .i64 (szI left n)) H := by
  refine adet_run hT (fun _ => false) Try.func132 rfl (by kernel_rfl) (by kernel_rfl) ?_
  simp only [TT, RR, flagOf, gslot, aop, ev, cv, putA, pickAV, if_false, if_true, Nat.reduceAdd, Nat.reduceSub, true_implies, reduceCtorEq, false_implies, implies_true, retAll, retOne, oneOf, cond_true, cond_false, rd, wr, joinT, splice, lay, layRows, abuiltin, abPure, abMem, szv, asNat, loOf, aslice, kindOf, szOf, Nat.reduceLeDiff, Nat.reduceLT, Nat.reduceMul, Nat.reduceEqDiff, ne_eq, Int.reduceLT, Int.reduceLE, Int.reduceEq, Try.ntmps132, Try.results132, hs]
  unfold szI
  constructor <;> intro h <;> simp only [h, if_true, if_false] <;> exact Wk.refl
theorem L_toEntryS (s : AV) (xs : List GEntry) (H : Heap) (hs : Sl H s 6 (xs.map eEntry)) (hn : xs.length ≤ 1048576) : ADet Try.prog 136 [s] H (.own H.length 6 0 xs.length xs.length) (H ++ [some (.arr 6 (xs.map eEntry))]) := by
  refine adet_run hT (fun _ => false) Try.func136 rfl (by kernel_rfl) (by kernel_rfl) ?_
  simp only [TT, RR, flagOf, gslot, aop, ev, cv, putA, pickAV, if_false, if_true, Nat.reduceAdd, Nat.reduceSub, true_implies, reduceCtorEq, false_implies, implies_true, retAll, retOne, oneOf, cond_true, cond_false, rd, wr, joinT, splice, lay, layRows, abuiltin, abPure, abMem, szv, asNat, loOf, aslice, kindOf, szOf, Nat.reduceLeDiff, Nat.reduceLT, Nat.reduceMul, Nat.reduceEqDiff, ne_eq, Int.reduceLT, Int.reduceLE, Int.reduceEq, Try.ntmps136, Try.results136, hs.get, hs.app, hs.len, hs.szk, List.length_map]
  refine ⟨by omega, lp_up hT xs.length (fun j => [s, .any, .any, .own H.length 6 0 xs.length xs.length, .int .i64 (j : Int), .any, .any, .any, .any, .any, .any, .any, .any, .any, .any, .any, .any, .any, .any, .any, .any, .any, .any]) (fun j => H ++ [some (.arr 6 (Fill (xs.map eEntry) [.int .i64 0, .int .i64 0, .int .i64 0, .int .i64 0, .int .i64 0, .int .i64 0] j))]) (fun _ => True) (by kernel_rfl) trivial ?_ (fun j hj _ => ?_) (fun _ => ?_)⟩
  · exact wk_any (by rw [← fill_0, List.length_map]) (by simp only [anyL_nil, anyL_any, anyL_same, anyL_int, anyL_bool, and_true, true_and]; trivial)
  · simp only [TT, RR, flagOf, gslot, aop, ev, cv, putA, pickAV, if_false, if_true, Nat.reduceAdd, Nat.reduceSub, true_implies, reduceCtorEq, false_implies, implies_true, retAll, retOne, oneOf, cond_true, cond_false, rd, wr, joinT, splice, lay, layRows, abuiltin, abPure, abMem, szv, asNat, loOf, aslice, kindOf, szOf, Nat.reduceLeDiff, Nat.reduceLT, Nat.reduceMul, Nat.reduceEqDiff, ne_eq, Int.reduceLT, Int.reduceLE, Int.reduceEq, hs.get, hs.app, hs.len, hs.szk, List.length_map, getD_map hj, eEntry, fill_len, fill_at (ys := xs.map eEntry) (j := j) (by simpa using hj), Nat.le_of_lt hj]
    refine ⟨fun _ => ⟨by omega, callA_of (L_toEntry _ _) ?_⟩, fun h => absurd (by omega) h⟩
    simp only [TT, RR, flagOf, gslot, aop, ev, cv, putA, pickAV, if_false, if_true, Nat.reduceAdd, Nat.reduceSub, true_implies, reduceCtorEq, false_implies, implies_true, retAll, retOne, oneOf, cond_true, cond_false, rd, wr, joinT, splice, lay, layRows, abuiltin, abPure, abMem, szv, asNat, loOf, aslice, kindOf, szOf, Nat.reduceLeDiff, Nat.reduceLT, Nat.reduceMul, Nat.reduceEqDiff, ne_eq, Int.reduceLT, Int.reduceLE, Int.reduceEq, fill_len, eEntry, List.length_map, fill_at (ys := xs.map eEntry) (j := j) (by simpa using hj), Nat.le_of_lt hj]
    refine ⟨by omega, by omega, wk_any (congrArg (fun r => H ++ [some (Blk.arr 6 r)]) (fill_set' (by simpa using hj) (getD_map hj))) (by rw [wrap_succ (by omega)]; simp only [anyL_nil, anyL_any, anyL_same, anyL_int, anyL_bool, and_true, true_and])⟩
  · simp only [TT, RR, flagOf, gslot, aop, ev, cv, putA, pickAV, if_false, if_true, Nat.reduceAdd, Nat.reduceSub, true_implies, reduceCtorEq, false_implies, implies_true, retAll, retOne, oneOf, cond_true, cond_false, rd, wr, joinT, splice, lay, layRows, abuiltin, abPure, abMem, szv, asNat, loOf, aslice, kindOf, szOf, Nat.reduceLeDiff, Nat.reduceLT, Nat.reduceMul, Nat.reduceEqDiff, ne_eq, Int.reduceLT, Int.reduceLE, Int.reduceEq, hs.get, hs.app, hs.len, hs.szk, List.length_map]
    refine ⟨fun h => absurd h (by omega), fun _ => ?_⟩
    exact wk_any (by rw [← List.length_map (f := eEntry), fill_n]) (by simp only [anyL_nil, anyL_any, anyL_same, anyL_int, anyL_bool, and_true, true_and])
theorem L_eqEntryS (s s' : AV) (xs ys : List GEntry) (H : Heap) (hs : Sl H s 6 (xs.map eEntry)) (hs' : Sl H s' 6 (ys.map eEntry)) (hn : xs.length ≤ 1048576) : ADet Try.prog 140 [s, s'] H (.bool (decide (xs = ys))) H := by
  refine adet_run hT (fun _ => false) Try.func140 rfl (by kernel_rfl) (by kernel_rfl) ?_
  simp only [TT, RR, flagOf, gslot, aop, ev, cv, putA, pickAV, if_false, if_true, Nat.reduceAdd, Nat.reduceSub, true_implies, reduceCtorEq, false_implies, implies_true, retAll, retOne, oneOf, cond_true, cond_false, rd, wr, joinT, splice, lay, layRows, abuiltin, abPure, abMem, szv, asNat, loOf, aslice, kindOf, szOf, Nat.reduceLeDiff, Nat.reduceLT, Nat.reduceMul, Nat.reduceEqDiff, ne_eq, Int.reduceLT, Int.reduceLE, Int.reduceEq, Try.ntmps140, Try.results140, hs.get, hs.app, hs.len, hs.szk, hs'.get, hs'.app, hs'.len, hs'.szk, List.length_map]
  refine ⟨fun h => wk_same ?_, fun h => ?_⟩
  · rw [decide_eq_false (fun e => h (by rw [e]))]
  have hl : xs.length = ys.length := by omega
  refine lp_up hT xs.length (fun j => [s, s', .any, .any, .any, .int .i64 (j : Int), .any, .any, .any, .any, .any, .any, .any, .any, .any, .any, .any, .any, .any, .any, .any, .any, .any, .any, .any, .any, .any]) (fun j => H) (fun j => xs.take j = ys.take j) (by kernel_rfl) rfl ?_ (fun j hj hV => ?_) (fun hV => ?_)
  · exact wk_any rfl (by simp only [anyL_nil, anyL_any, anyL_same, anyL_int, anyL_bool, and_true, true_and]; trivial)
  · have hj' : j < ys.length := hl ▸ hj
    simp only [TT, RR, flagOf, gslot, aop, ev, cv, putA, pickAV, if_false, if_true, Nat.reduceAdd, Nat.reduceSub, true_implies, reduceCtorEq, false_implies, implies_true, retAll, retOne, oneOf, cond_true, cond_false, rd, wr, joinT, splice, lay, layRows, abuiltin, abPure, abMem, szv, asNat, loOf, aslice, kindOf, szOf, Nat.reduceLeDiff, Nat.reduceLT, Nat.reduceMul, Nat.reduceEqDiff, ne_eq, Int.reduceLT, Int.reduceLE, Int.reduceEq, hs.get, hs.app, hs.len, hs.szk, hs'.get, hs'.app, hs'.len, hs'.szk, List.length_map, getD_map hj, getD_map hj', eEntry]
    refine ⟨fun _ => ⟨by omega, by omega, callD_of (L_eqEntry _ _ _) ?_⟩, fun h => absurd (by omega) h⟩
    simp only [TT, RR, flagOf, gslot, aop, ev, cv, putA, pickAV, if_false, if_true, Nat.reduceAdd, Nat.reduceSub, true_implies, reduceCtorEq, false_implies, implies_true, retAll, retOne, oneOf, cond_true, cond_false, rd, wr, joinT, splice, lay, layRows, abuiltin, abPure, abMem, szv, asNat, loOf, aslice, kindOf, szOf, Nat.reduceLeDiff, Nat.reduceLT, Nat.reduceMul, Nat.reduceEqDiff, ne_eq, Int.reduceLT, Int.reduceLE, Int.reduceEq]
    refine ⟨fun h => wk_same ?_, fun h => ⟨take_ne hj hj' hV (by simpa using h), wk_any rfl (by simp only [anyL_nil, anyL_any, anyL_same, anyL_int, anyL_bool, and_true, true_and]; rw [wrap_succ (by omega)])⟩⟩
    rw [decide_eq_false (fun e => by simp [e] at h)]
  · simp only [TT, RR, flagOf, gslot, aop, ev, cv, putA, pickAV, if_false, if_true, Nat.reduceAdd, Nat.reduceSub, true_implies, reduceCtorEq, false_implies, implies_true, retAll, retOne, oneOf, cond_true, cond_false, rd, wr, joinT, splice, lay, layRows, abuiltin, abPure, abMem, szv, asNat, loOf, aslice, kindOf, szOf, Nat.reduceLeDiff, Nat.reduceLT, Nat.reduceMul, Nat.reduceEqDiff, ne_eq, Int.reduceLT, Int.reduceLE, Int.reduceEq, hs.get, hs.app, hs.len, hs.szk, hs'.get, hs'.app, hs'.len, hs'.szk, List.length_map]
    refine ⟨fun h => absurd h (by omega), fun _ => wk_same ?_⟩
    rw [List.take_length, hl, List.take_length] at hV
    rw [decide_eq_true hV]
theorem L_markEntryS (id lc n : Nat) (k : Int) (xs : List GEntry) (H : Heap) (hH : H[id]? = some (some (.arr 6 (xs.map eEntry)))) (hn : n ≤ xs.length) (hm : n ≤ 1048576) (h0 : 0 ≤ k) (h1 : k ≤ 1099511627776) :
    ADet Try.prog 148 [.own id 6 0 n lc, .int .i64 k] H (.int .i64 (k + 6 * n)) (H.set id (some (.arr 6 (Mk eEntry mEntry 6 k xs n)))) := by
  have hl := lt_of_blk hH
  refine adet_run hT (fun _ => false) Try.func148 rfl (by kernel_rfl) (by kernel_rfl) ?_
  simp only [TT, RR, flagOf, gslot, aop, ev, cv, putA, pickAV, if_false, if_true, Nat.reduceAdd, Nat.reduceSub, true_implies, reduceCtorEq, false_implies, implies_true, retAll, retOne, oneOf, cond_true, cond_false, rd, wr, joinT, splice, lay, layRows, abuiltin, abPure, abMem, szv, asNat, loOf, aslice, kindOf, szOf, Nat.reduceLeDiff, Nat.reduceLT, Nat.reduceMul, Nat.reduceEqDiff, ne_eq, Int.reduceLT, Int.reduceLE, Int.reduceEq, Try.ntmps148, Try.results148]
  refine lp_up hT n (fun j => [.own id 6 0 n lc, .int .i64 (k + 6 * j), .any, .any, .int .i64 0, .int .i64 (j : Int), .any, .any, .any, .any, .any, .any, .any, .any, .any, .any, .any, .any, .any, .any, .any, .any, .any, .any, .any, .any, .any, .any, .any, .any, .any, .any, .any, .any, .any, .any, .any, .any, .any, .any, .any, .any, .any, .any, .any, .any, .any, .any, .any, .any, .any, .any, .any, .any, .any, .any, .any, .any, .any]) (fun j => H.set id (some (.arr 6 (Mk eEntry mEntry 6 k xs j)))) (fun _ => True) (by kernel_rfl) trivial ?_ (fun j hj _ => ?_) (fun _ => ?_)
  · exact wk_any (by rw [mk_0, hset_same hH]) (by simp only [anyL_nil, anyL_any, anyL_same, anyL_int, anyL_bool, and_true, true_and]; omega)
  · have hj' := Nat.lt_of_lt_of_le hj hn
    have hg : ∀ r, ((Mk eEntry mEntry 6 k xs j).set j r).getD j [] = r := fun r => getD_set (by rw [mk_len (by omega)]; exact hj')
    have w1 : IntKind.i64.wrap (k + 6 * (j : Int) + 1) = k + 6 * j + 1 := by rw [wrap_k (by omega) (by omega)]; try omega
    have w2 : IntKind.i64.wrap (k + 6 * (j : Int) + 1 + 1) = k + 6 * j + 2 := by rw [wrap_k (by omega) (by omega)]; try omega
    have w3 : IntKind.i64.wrap (k + 6 * (j : Int) + 2 + 1) = k + 6 * j + 3 := by rw [wrap_k (by omega) (by omega)]; try omega
    have w4 : IntKind.i64.wrap (k + 6 * (j : Int) + 3 + 1) = k + 6 * j + 4 := by rw [wrap_k (by omega) (by omega)]; try omega
    have w5 : IntKind.i64.wrap (k + 6 * (j : Int) + 4 + 1) = k + 6 * j + 5 := by rw [wrap_k (by omega) (by omega)]; try omega
    have w6 : IntKind.i64.wrap (k + 6 * (j : Int) + 5 + 1) = k + 6 * j + 6 := by rw [wrap_k (by omega) (by omega)]; try omega
    simp only [TT, RR, flagOf, gslot, aop, ev, cv, putA, pickAV, if_false, if_true, Nat.reduceAdd, Nat.reduceSub, true_implies, reduceCtorEq, false_implies, implies_true, retAll, retOne, oneOf, cond_true, cond_false, rd, wr, joinT, splice, lay, layRows, abuiltin, abPure, abMem, szv, asNat, loOf, aslice, kindOf, szOf, Nat.reduceLeDiff, Nat.reduceLT, Nat.reduceMul, Nat.reduceEqDiff, ne_eq, Int.reduceLT, Int.reduceLE, Int.reduceEq, hset_get hl, List.set_set, mk_len (Nat.le_of_lt hj'), List.length_set, hg, getD_take hj, mk_at hj', eEntry, w1, w2, w3, w4, w5, w6]
    refine ⟨fun _ => ⟨by omega, hn, by omega, hn, by omega, hn, by omega, hn, by omega, hn, by omega, hn, ?_⟩, fun h => absurd (by omega) h⟩
    exact wk_any (congrArg (fun r => H.set id (some (Blk.arr 6 r))) (mk_set (g := mEntry) hj')) (by simp only [anyL_nil, anyL_any, anyL_same, anyL_int, anyL_bool, and_true, true_and]; rw [wrap_succ (by omega)]; omega)
  · simp only [TT, RR, flagOf, gslot, aop, ev, cv, putA, pickAV, if_false, if_true, Nat.reduceAdd, Nat.reduceSub, true_implies, reduceCtorEq, false_implies, implies_true, retAll, retOne, oneOf, cond_true, cond_false, rd, wr, joinT, splice, lay, layRows, abuiltin, abPure, abMem, szv, asNat, loOf, aslice, kindOf, szOf, Nat.reduceLeDiff, Nat.reduceLT, Nat.reduceMul, Nat.reduceEqDiff, ne_eq, Int.reduceLT, Int.reduceLE, Int.reduceEq, hset_get hl, List.set_set, mk_len hn]
    exact ⟨fun h => absurd h (by omega), fun _ => Wk.refl⟩
theorem L_heldEntryS (s : AV) (n : Nat) (k : Int) (H : Heap) (hs : Sl H s 6 ((mks mEntry 6 k n).map eEntry)) (hm : n ≤ 1048576) (h0 : 0 ≤ k) (h1 : k ≤ 1099511627776) :
    ADet Try.prog 202 [s, .int .i64 k] H (.int .i64 (k + 6 * n)) H := by
  refine adet_run hT (fun _ => false) Try.func202 rfl (by kernel_rfl) (by kernel_rfl) ?_
  simp only [TT, RR, flagOf, gslot, aop, ev, cv, putA, pickAV, if_false, if_true, Nat.reduceAdd, Nat.reduceSub, true_implies, reduceCtorEq, false_implies, implies_true, retAll, retOne, oneOf, cond_true, cond_false, rd, wr, joinT, splice, lay, layRows, abuiltin, abPure, abMem, szv, asNat, loOf, aslice, kindOf, szOf, Nat.reduceLeDiff, Nat.reduceLT, Nat.reduceMul, Nat.reduceEqDiff, ne_eq, Int.reduceLT, Int.reduceLE, Int.reduceEq, Try.ntmps202, Try.results202]
  refine lp_up hT n (fun j => [s, .int .i64 (k + 6 * j), .any, .any, .int .i64 0, .int .i64 (j : Int), .any, .any, .any, .any, .any, .any, .any, .any, .any, .any, .any, .any, .any, .any, .any, .any, .any, .any, .any, .any, .any, .any, .any, .any, .any, .any, .any, .any, .any, .any, .any, .any, .any, .any, .any, .any, .any, .any, .any, .any, .any, .any, .any, .any, .any, .any, .any, .any, .any, .any, .any, .any, .any, .any, .any, .any, .any, .any, .any, .any, .any, .any, .any, .any, .any]) (fun j => H) (fun _ => True) (by kernel_rfl) trivial ?_ (fun j hj _ => ?_) (fun _ => ?_)
  · exact wk_any rfl (by simp only [anyL_nil, anyL_any, anyL_same, anyL_int, anyL_bool, and_true, true_and]; omega)
  · have hj' : j < (mks mEntry 6 k n).length := by rw [mks_len]; exact hj
    have w1 : IntKind.i64.wrap (k + 6 * (j : Int) + 1) = k + 6 * j + 1 := by rw [wrap_k (by omega) (by omega)]; try omega
    have w2 : IntKind.i64.wrap (k + 6 * (j : Int) + 1 + 1) = k + 6 * j + 2 := by rw [wrap_k (by omega) (by omega)]; try omega
    have w3 : IntKind.i64.wrap (k + 6 * (j : Int) + 2 + 1) = k + 6 * j + 3 := by rw [wrap_k (by omega) (by omega)]; try omega
    have w4 : IntKind.i64.wrap (k + 6 * (j : Int) + 3 + 1) = k + 6 * j + 4 := by rw [wrap_k (by omega) (by omega)]; try omega
    have w5 : IntKind.i64.wrap (k + 6 * (j : Int) + 4 + 1) = k + 6 * j + 5 := by rw [wrap_k (by omega) (by omega)]; try omega
    have w6 : IntKind.i64.wrap (k + 6 * (j : Int) + 5 + 1) = k + 6 * j + 6 := by rw [wrap_k (by omega) (by omega)]; try omega
    simp only [TT, RR, flagOf, gslot, aop, ev, cv, putA, pickAV, if_false, if_true, Nat.reduceAdd, Nat.reduceSub, true_implies, reduceCtorEq, false_implies, implies_true, retAll, retOne, oneOf, cond_true, cond_false, rd, wr, joinT, splice, lay, layRows, abuiltin, abPure, abMem, szv, asNat, loOf, aslice, kindOf, szOf, Nat.reduceLeDiff, Nat.reduceLT, Nat.reduceMul, Nat.reduceEqDiff, ne_eq, Int.reduceLT, Int.reduceLE, Int.reduceEq, hs.get, hs.app, hs.len, hs.szk, List.length_map, mks_len, getD_map hj', mks_get hj', eEntry, mEntry, bit3, w1, w2, w3, w4, w5, w6]
    refine ⟨fun _ => ?_, fun h => absurd (by omega) h⟩
    repeat' (first | (refine wk_any rfl (by simp only [anyL_nil, anyL_any, anyL_same, anyL_int, anyL_bool, and_true, true_and]; rw [wrap_succ (by omega)]; omega)) | (with_reducible refine And.intro ?_ ?_) | (with_reducible intro h))
    all_goals first | omega | exact absurd rfl h | simp at h
  · simp only [TT, RR, flagOf, gslot, aop, ev, cv, putA, pickAV, if_false, if_true, Nat.reduceAdd, Nat.reduceSub, true_implies, reduceCtorEq, false_implies, implies_true, retAll, retOne, oneOf, cond_true, cond_false, rd, wr, joinT, splice, lay, layRows, abuiltin, abPure, abMem, szv, asNat, loOf, aslice, kindOf, szOf, Nat.reduceLeDiff, Nat.reduceLT, Nat.reduceMul, Nat.reduceEqDiff, ne_eq, Int.reduceLT, Int.reduceLE, Int.reduceEq, hs.len, List.length_map, mks_len]
    exact ⟨fun h => absurd h (by omega), fun _ => Wk.refl⟩
theorem L_toSession (v : GSession) (H : Heap) : ADet Try.prog 228 [.agg (eSession v)] H (.agg (eSession v)) H := by
  refine adet_run hT (fun _ => false) Try.func228 rfl (by kernel_rfl) (by kernel_rfl) ?_
  simp only [TT, RR, flagOf, gslot, aop, ev, cv, putA, pickAV, if_false, if_true, Nat.reduceAdd, Nat.reduceSub, true_implies, reduceCtorEq, false_implies, implies_true, retAll, retOne, oneOf, cond_true, cond_false, rd, wr, joinT, splice, lay, layRows, abuiltin, abPure, abMem, szv, asNat, loOf, aslice, kindOf, szOf, Nat.reduceLeDiff, Nat.reduceLT, Nat.reduceMul, Nat.reduceEqDiff, ne_eq, Int.reduceLT, Int.reduceLE, Int.reduceEq, Try.ntmps228, Try.results228, eSession]
  exact wk_drop rfl rfl
theorem L_eqSession (a b : GSession) (H : Heap) : ADet Try.prog 129 [.agg (eSession a), .agg (eSession b)] H (.bool (decide (a = b))) H := by
  refine adet_run hT (fun _ => false) Try.func129 rfl (by kernel_rfl) (by kernel_rfl) ?_
  simp only [TT, RR, flagOf, gslot, aop, ev, cv, putA, pickAV, if_false, if_true, Nat.reduceAdd, Nat.reduceSub, true_implies, reduceCtorEq, false_implies, implies_true, retAll, retOne, oneOf, cond_true, cond_false, rd, wr, joinT, splice, lay, layRows, abuiltin, abPure, abMem, szv, asNat, loOf, aslice, kindOf, szOf, Nat.reduceLeDiff, Nat.reduceLT, Nat.reduceMul, Nat.reduceEqDiff, ne_eq, Int.reduceLT, Int.reduceLE, Int.reduceEq, Try.ntmps129, Try.results129, eSession]
  obtain ⟨a0, a1, a2, a3⟩ := a
  obtain ⟨b0, b1, b2, b3⟩ := b
  repeat' (first | (refine wk_same ?_) | (refine wk_drop ?_ (by rfl)) | (with_reducible refine And.intro ?_ ?_) | (with_reducible intro _))
  all_goals simp_all
theorem L_szSessionS (s : AV) (n : Nat) (H : Heap) (left : Int) (hs : lenOf s = some n) : ADet Try.prog 118 [s, .int .i64 left] H (.int .i64 (szI left n)) H := by
  refine adet_run hT (fun _ => false) Try.func118 rfl (by kernel_rfl) (by kernel_rfl) ?_
  simp only [TT, RR, flagOf, gslot, aop, ev, cv, putA, pickAV, if_false, if_true, Nat.reduceAdd, Nat.reduceSub, true_implies, reduceCtorEq, false_implies, implies_true, retAll, retOne, oneOf, cond_true, cond_false, rd, wr, joinT, splice, lay, layRows, abuiltin, abPure, abMem, szv, asNat, loOf, aslice, kindOf, szOf, Nat.reduceLeDiff, Nat.reduceLT, Nat.reduceMul, Nat.reduceEqDiff, ne_eq, Int.reduceLT, Int.reduceLE, Int.reduceEq, Try.ntmps118, Try.results118, hs]
  unfold szI
  constructor <;> intro h <;> simp only [h, if_true, if_false] <;> exact Wk.refl
theorem L_toSessionS (s : AV) (xs : List GSession) (H : Heap) (hs : Sl H s 4 (xs.map eSession)) (hn : xs.length ≤ 1048576) : ADet Try.prog 121 [s] H (.own H.length 4 0 xs.length xs.length) (H ++ [some (.arr 4 (xs.map eSession))]) := by
  refine adet_run hT (fun _ => false) Try.func121 rfl (by kernel_rfl) (by kernel_rfl) ?_
  simp only [TT, RR, flagOf, gslot, aop, ev, cv, putA, pickAV, if_false, if_true, Nat.reduceAdd, Nat.reduceSub, true_implies, reduceCtorEq, false_implies, implies_true, retAll, retOne, oneOf, cond_true, cond_false, rd, wr, joinT, splice, lay, layRows, abuiltin, abPure, abMem, szv, asNat, loOf, aslice, kindOf, szOf, Nat.reduceLeDiff, Nat.reduceLT, Nat.reduceMul, Nat.reduceEqDiff, ne_eq, Int.reduceLT, Int.reduceLE, Int.reduceEq, Try.ntmps121, Try.results121, hs.get, hs.app, hs.len, hs.szk, List.length_map]
  refine ⟨by omega, lp_up hT xs.length (fun j => [s, .any, .any, .own H.length 4 0 xs.length xs.length, .int .i64 (j : Int), .any, .any, .any, .any, .any, .any, .any, .any, .any, .any, .any, .any, .any, .any, .any, .any, .any, .any]) (fun j => H ++ [some (.arr 4 (Fill (xs.map eSession) [.int .i64 0, .int .i64 0, .int .i64 0, .int .i64 0] j))]) (fun _ => True) (by kernel_rfl) trivial ?_ (fun j hj _ => ?_) (fun _ => ?_)⟩
  · exact wk_any (by rw [← fill_0, List.length_map]) (by simp only [anyL_nil, anyL_any, anyL_same, anyL_int, anyL_bool, and_true, true_and]; trivial)
  · simp only [TT, RR, flagOf, gslot, aop, ev, cv, putA, pickAV, if_false, if_true, Nat.reduceAdd, Nat.reduceSub, true_implies, reduceCtorEq, false_implies, implies_true, retAll, retOne, oneOf, cond_true, cond_false, rd, wr, joinT, splice, lay, layRows, abuiltin, abPure, abMem, szv, asNat, loOf, aslice, kindOf, szOf, Nat.reduceLeDiff, Nat.reduceLT, Nat.reduceMul, Nat.reduceEqDiff, ne_eq, Int.reduceLT, Int.reduceLE, Int.reduceEq, hs.get, hs.app, hs.len, hs.szk, List.length_map, getD_map hj, eSession, fill_len, fill_at (ys := xs.map eSession) (j := j) (by simpa using hj), Nat.le_of_lt hj]
    refine ⟨fun _ => ⟨by omega, callA_of (L_toSession _ _) ?_⟩, fun h => absurd (by omega) h⟩
    simp only [TT, RR, flagOf, gslot, aop, ev, cv, putA, pickAV, if_false, if_true, Nat.reduceAdd, Nat.reduceSub, true_implies, reduceCtorEq, false_implies, implies_true, retAll, retOne, oneOf, cond_true, cond_false, rd, wr, joinT, splice, lay, layRows, abuiltin, abPure, abMem, szv, asNat, loOf, aslice, kindOf, szOf, Nat.reduceLeDiff, Nat.reduceLT, Nat.reduceMul, Nat.reduceEqDiff, ne_eq, Int.reduceLT, Int.reduceLE, Int.reduceEq, fill_len, eSession, List.length_map, fill_at (ys := xs.map eSession) (j := j) (by simpa using hj), Nat.le_of_lt hj]
    refine ⟨by omega, by omega, wk_any (congrArg (fun r => H ++ [some (Blk.arr 4 r)]) (fill_set' (by simpa using hj) (getD_map hj))) (by rw [wrap_succ (by omega)]; simp only [anyL_nil, anyL_any, anyL_same, anyL_int, anyL_bool, and_true, true_and])⟩
  · simp only [TT, RR, flagOf, gslot, aop, ev, cv, putA, pickAV, if_false, if_true, Nat.reduceAdd, Nat.reduceSub, true_implies, reduceCtorEq, false_implies, implies_true, retAll, retOne, oneOf, cond_true, cond_false, rd, wr, joinT, splice, lay, layRows, abuiltin, abPure, abMem, szv, asNat, loOf, aslice, kindOf, szOf, Nat.reduceLeDiff, Nat.reduceLT, Nat.reduceMul, Nat.reduceEqDiff, ne_eq, Int.reduceLT, Int.reduceLE, Int.reduceEq, hs.get, hs.app, hs.len, hs.szk, List.length_map]
    refine ⟨fun h => absurd h (by omega), fun _ => ?_⟩
    exact wk_any (by rw [← List.length_map (f := eSession), fill_n]) (by simp only [anyL_nil, anyL_any, anyL_same, anyL_int, anyL_bool, and_true, true_and])
theorem L_eqSessionS (s s' : AV) (xs ys : List GSession) (H : Heap) (hs : Sl H s 4 (xs.map eSession)) (hs' : Sl H s' 4 (ys.map eSession)) (hn : xs.length ≤ 1048576) : ADet Try.prog 126 [s, s'] H (.bool (decide (xs = ys))) H := by
  refine adet_run hT (fun _ => false) Try.func126 rfl (by kernel_rfl) (by kernel_rfl) ?_
  simp only [TT, RR, flagOf, gslot, aop, ev, cv, putA, pickAV, if_false, if_true, Nat.reduceAdd, Nat.reduceSub, true_implies, reduceCtorEq, false_implies, implies_true, retAll, retOne, oneOf, cond_true, cond_false, rd, wr, joinT, splice, lay, layRows, abuiltin, abPure, abMem, szv, asNat, loOf, aslice, kindOf, szOf, Nat.reduceLeDiff, Nat.reduceLT, Nat.reduceMul, Nat.reduceEqDiff, ne_eq, Int.reduceLT, Int.reduceLE, Int.reduceEq, Try.ntmps126, Try.results126, hs.get, hs.app, hs.len, hs.szk, hs'.get, hs'.app, hs'.len, hs'.szk, List.length_map]
  refine ⟨fun h => wk_same ?_, fun h => ?_⟩
  · rw [decide_eq_false (fun e => h (by rw [e]))]
  have hl : xs.length = ys.length := by omega
  refine lp_up hT xs.length (fun j => [s, s', .any, .any, .any, .int .i64 (j : Int), .any, .any, .any, .any, .any, .any, .any, .any, .any, .any, .any, .any, .any, .any, .any, .any, .any, .any, .any, .any, .any]) (fun j => H) (fun j => xs.take j = ys.take j) (by kernel_rfl) rfl ?_ (fun j hj hV => ?_) (fun hV => ?_)
  · exact wk_any rfl (by simp only [anyL_nil, anyL_any, anyL_same, anyL_int, anyL_bool, and_true, true_and]; trivial)
  · have hj' : j < ys.length := hl ▸ hj
    simp only [TT, RR, flagOf, gslot, aop, ev, cv, putA, pickAV, if_false, if_true, Nat.reduceAdd, Nat.reduceSub, true_implies, reduceCtorEq, false_implies, implies_true, retAll, retOne, oneOf, cond_true, cond_false, rd, wr, joinT, splice, lay, layRows, abuiltin, abPure, abMem, szv, asNat, loOf, aslice, kindOf, szOf, Nat.reduceLeDiff, Nat.reduceLT, Nat.reduceMul, Nat.reduceEqDiff, ne_eq, Int.reduceLT, Int.reduceLE, Int.reduceEq, hs.get, hs.app, hs.len, hs.szk, hs'.get, hs'.app, hs'.len, hs'.szk, List.length_map, getD_map hj, getD_map hj', eSession]
    refine ⟨fun _ => ⟨by omega, by omega, callD_of (L_eqSession _ _ _) ?_⟩, fun h => absurd (by omega) h⟩
    simp only [TT, RR, flagOf, gslot, aop, ev, cv, putA, pickAV, if_false, if_true, Nat.reduceAdd, Nat.reduceSub, true_implies, reduceCtorEq, false_implies, implies_true, retAll, retOne, oneOf, cond_true, cond_false, rd, wr, joinT, splice, lay, layRows, abuiltin, abPure, abMem, szv, asNat, loOf, aslice, kindOf, szOf, Nat.reduceLeDiff, Nat.reduceLT, Nat.reduceMul, Nat.reduceEqDiff, ne_eq, Int.reduceLT, Int.reduceLE, Int.reduceEq]
    refine ⟨fun h => wk_same ?_, fun h => ⟨take_ne hj hj' hV (by simpa using h), wk_any rfl (by simp only [anyL_nil, anyL_any, anyL_same, anyL_int, anyL_bool, and_true, true_and]; rw [wrap_succ (by omega)])⟩⟩
    rw [decide_eq_false (fun e => by simp [e] at h)]
  · simp only [TT, RR, flagOf, gslot, aop, ev, cv, putA, pickAV, if_false, if_true, Nat.reduceAdd, Nat.reduceSub, true_implies, reduceCtorEq, false_implies, implies_true, retAll, retOne, oneOf, cond_true, cond_false, rd, wr, joinT, splice, lay, layRows, abuiltin, abPure, abMem, szv, asNat, loOf, aslice, kindOf, szOf, Nat.reduceLeDiff, Nat.reduceLT, Nat.reduceMul, Nat.reduceEqDiff, ne_eq, Int.reduceLT, Int.reduceLE, Int.reduceEq, hs.get, hs.app, hs.len, hs.szk, hs'.get, hs'.app, hs'.len, hs'.szk, List.length_map]
    refine ⟨fun h => absurd h (by omega), fun _ => wk_same ?_⟩
    rw [List.take_length, hl, List.take_length] at hV
    rw [decide_eq_true hV]
theorem L_szInt64S (s : AV) (n : Nat) (H : Heap) (left : Int) (hs : lenOf s = some n) : ADet Try.prog 141 [s, .int .i64 left] H (.int .i64 (szI left n)) H := by
  refine adet_run hT (fun _ => false) Try.func141 rfl (by kernel_rfl) (by kernel_rfl) ?_
  simp only [TT, RR, flagOf, gslot, aop, ev, cv, putA, pickAV, if_false, if_true, Nat.reduceAdd, Nat.reduceSub, true_implies, reduceCtorEq, false_implies, implies_true, retAll, retOne, oneOf, cond_true, cond_false, rd, wr, joinT, splice, lay, layRows, abuiltin, abPure, abMem, szv, asNat, loOf, aslice, kindOf, szOf, Nat.reduceLeDiff, Nat.reduceLT, Nat.reduceMul, Nat.reduceEqDiff, ne_eq, Int.reduceLT, Int.reduceLE, Int.reduceEq, Try.ntmps141, Try.results141, hs]
  unfold szI
  constructor <;> intro h <;> simp only [h, if_true, if_false] <;> exact Wk.refl
theorem L_toInt64S (s : AV) (xs : List Int) (H : Heap) (hs : Sl H s 1 (xs.map eInt)) (hn : xs.length ≤ 1048576) : ADet Try.prog 16 [s] H (.own H.length 1 0 xs.length xs.length) (H ++ [some (.arr 1 (xs.map eInt))]) := by
  refine adet_run hT (fun _ => false) Try.func16 rfl (by kernel_rfl) (by kernel_rfl) ?_
  simp only [TT, RR, flagOf, gslot, aop, ev, cv, putA, pickAV, if_false, if_true, Nat.reduceAdd, Nat.reduceSub, true_implies, reduceCtorEq, false_implies, implies_true, retAll, retOne, oneOf, cond_true, cond_false, rd, wr, joinT, splice, lay, layRows, abuiltin, abPure, abMem, szv, asNat, loOf, aslice, kindOf, szOf, Nat.reduceLeDiff, Nat.reduceLT, Nat.reduceMul, Nat.reduceEqDiff, ne_eq, Int.reduceLT, Int.reduceLE, Int.reduceEq, Try.ntmps16, Try.results16, hs.get, hs.app, hs.len, hs.szk, List.length_map]
  refine ⟨by omega, lp_up hT xs.length (fun j => [s, .any, .any, .own H.length 1 0 xs.length xs.length, .int .i64 (j : Int), .any, .any, .any, .any, .any, .any, .any, .any, .any, .any, .any, .any, .any, .any, .any, .any, .any]) (fun j => H ++ [some (.arr 1 (Fill (xs.map eInt) [.int .i64 0] j))]) (fun _ => True) (by kernel_rfl) trivial ?_ (fun j hj _ => ?_) (fun _ => ?_)⟩
  · exact wk_any (by rw [← fill_0, List.length_map]) (by simp only [anyL_nil, anyL_any, anyL_same, anyL_int, anyL_bool, and_true, true_and]; trivial)
  · simp only [TT, RR, flagOf, gslot, aop, ev, cv, putA, pickAV, if_false, if_true, Nat.reduceAdd, Nat.reduceSub, true_implies, reduceCtorEq, false_implies, implies_true, retAll, retOne, oneOf, cond_true, cond_false, rd, wr, joinT, splice, lay, layRows, abuiltin, abPure, abMem, szv, asNat, loOf, aslice, kindOf, szOf, Nat.reduceLeDiff, Nat.reduceLT, Nat.reduceMul, Nat.reduceEqDiff, ne_eq, Int.reduceLT, Int.reduceLE, Int.reduceEq, hs.get, hs.app, hs.len, hs.szk, List.length_map, getD_map hj, eInt, fill_len, fill_at (ys := xs.map eInt) (j := j) (by simpa using hj), Nat.le_of_lt hj]
    refine ⟨fun _ => ⟨by omega, by omega, by omega, wk_any (congrArg (fun r => H ++ [some (Blk.arr 1 r)]) (fill_set' (by simpa using hj) (getD_map hj))) (by rw [wrap_succ (by omega)]; simp only [anyL_nil, anyL_any, anyL_same, anyL_int, anyL_bool, and_true, true_and])⟩, fun h => absurd (by omega) h⟩
  · simp only [TT, RR, flagOf, gslot, aop, ev, cv, putA, pickAV, if_false, if_true, Nat.reduceAdd, Nat.reduceSub, true_implies, reduceCtorEq, false_implies, implies_true, retAll, retOne, oneOf, cond_true, cond_false, rd, wr, joinT, splice, lay, layRows, abuiltin, abPure, abMem, szv, asNat, loOf, aslice, kindOf, szOf, Nat.reduceLeDiff, Nat.reduceLT, Nat.reduceMul, Nat.reduceEqDiff, ne_eq, Int.reduceLT, Int.reduceLE, Int.reduceEq, hs.get, hs.app, hs.len, hs.szk, List.length_map]
    refine ⟨fun h => absurd h (by omega), fun _ => ?_⟩
    exact wk_any (by rw [← List.length_map (f := eInt), fill_n]) (by simp only [anyL_nil, anyL_any, anyL_same, anyL_int, anyL_bool, and_true, true_and])
theorem L_eqInt64S (s s' : AV) (xs ys : List Int) (H : Heap) (hs : Sl H s 1 (xs.map eInt)) (hs' : Sl H s' 1 (ys.map eInt)) (hn : xs.length ≤ 1048576) : ADet Try.prog 19 [s, s'] H (.bool (decide (xs = ys))) H := by
  refine adet_run hT (fun _ => false) Try.func19 rfl (by kernel_rfl) (by kernel_rfl) ?_
  simp only [TT, RR, flagOf, gslot, aop, ev, cv, putA, pickAV, if_false, if_true, Nat.reduceAdd, Nat.reduceSub, true_implies, reduceCtorEq, false_implies, implies_true, retAll, retOne, oneOf, cond_true, cond_false, rd, wr, joinT, splice, lay, layRows, abuiltin, abPure, abMem, szv, asNat, loOf, aslice, kindOf, szOf, Nat.reduceLeDiff, Nat.reduceLT, Nat.reduceMul, Nat.reduceEqDiff, ne_eq, Int.reduceLT, Int.reduceLE, Int.reduceEq, Try.ntmps19, Try.results19, hs.get, hs.app, hs.len, hs.szk, hs'.get, hs'.app, hs'.len, hs'.szk, List.length_map]
  refine ⟨fun h => wk_same ?_, fun h => ?_⟩
  · rw [decide_eq_false (fun e => h (by rw [e]))]
  have hl : xs.length = ys.length := by omega
  refine lp_up hT xs.length (fun j => [s, s', .any, .any, .any, .int .i64 (j : Int), .any, .any, .any, .any, .any, .any, .any, .any, .any, .any, .any, .any, .any, .any, .any, .any, .any, .any, .any, .any]) (fun j => H) (fun j => xs.take j = ys.take j) (by kernel_rfl) rfl ?_ (fun j hj hV => ?_) (fun hV => ?_)
  · exact wk_any rfl (by simp only [anyL_nil, anyL_any, anyL_same, anyL_int, anyL_bool, and_true, true_and]; trivial)
  · have hj' : j < ys.length := hl ▸ hj
    simp only [TT, RR, flagOf, gslot, aop, ev, cv, putA, pickAV, if_false, if_true, Nat.reduceAdd, Nat.reduceSub, true_implies, reduceCtorEq, false_implies, implies_true, retAll, retOne, oneOf, cond_true, cond_false, rd, wr, joinT, splice, lay, layRows, abuiltin, abPure, abMem, szv, asNat, loOf, aslice, kindOf, szOf, Nat.reduceLeDiff, Nat.reduceLT, Nat.reduceMul, Nat.reduceEqDiff, ne_eq, Int.reduceLT, Int.reduceLE, Int.reduceEq, hs.get, hs.app, hs.len, hs.szk, hs'.get, hs'.app, hs'.len, hs'.szk, List.length_map, getD_map hj, getD_map hj', eInt]
    refine ⟨fun _ => ⟨by omega, by omega, ?_⟩, fun h => absurd (by omega) h⟩
    refine ⟨fun h => wk_same ?_, fun h => ⟨take_ne hj hj' hV (by simpa using h), wk_any rfl (by simp only [anyL_nil, anyL_any, anyL_same, anyL_int, anyL_bool, and_true, true_and]; rw [wrap_succ (by omega)])⟩⟩
    rw [decide_eq_false (fun e => by simp [e] at h)]
  · simp only [TT, RR, flagOf, gslot, aop, ev, cv, putA, pickAV, if_false, if_true, Nat.reduceAdd, Nat.reduceSub, true_implies, reduceCtorEq, false_implies, implies_true, retAll, retOne, oneOf, cond_true, cond_false, rd, wr, joinT, splice, lay, layRows, abuiltin, abPure, abMem, szv, asNat, loOf, aslice, kindOf, szOf, Nat.reduceLeDiff, Nat.reduceLT, Nat.reduceMul, Nat.reduceEqDiff, ne_eq, Int.reduceLT, Int.reduceLE, Int.reduceEq, hs.get, hs.app, hs.len, hs.szk, hs'.get, hs'.app, hs'.len, hs'.szk, List.length_map]
    refine ⟨fun h => absurd h (by omega), fun _ => wk_same ?_⟩
    rw [List.take_length, hl, List.take_length] at hV
    rw [decide_eq_true hV]
theorem L_markInt64S (id lc n : Nat) (k : Int) (xs : List Int) (H : Heap) (hH : H[id]? = some (some (.arr 1 (xs.map eInt)))) (hn : n ≤ xs.length) (hm : n ≤ 1048576) (h0 : 0 ≤ k) (h1 : k ≤ 1099511627776) :
    ADet Try.prog 20 [.own id 1 0 n lc, .int .i64 k] H (.int .i64 (k + 1 * n)) (H.set id (some (.arr 1 (Mk eInt mInt 1 k xs n)))) := by
  have hl := lt_of_blk hH
  refine adet_run hT (fun _ => false) Try.func20 rfl (by kernel_rfl) (by kernel_rfl) ?_
  simp only [TT, RR, flagOf, gslot, aop, ev, cv, putA, pickAV, if_false, if_true, Nat.reduceAdd, Nat.reduceSub, true_implies, reduceCtorEq, false_implies, implies_true, retAll, retOne, oneOf, cond_true, cond_false, rd, wr, joinT, splice, lay, layRows, abuiltin, abPure, abMem, szv, asNat, loOf, aslice, kindOf, szOf, Nat.reduceLeDiff, Nat.reduceLT, Nat.reduceMul, Nat.reduceEqDiff, ne_eq, Int.reduceLT, Int.reduceLE, Int.reduceEq, Try.ntmps20, Try.results20]
  refine lp_up hT n (fun j => [.own id 1 0 n lc, .int .i64 (k + 1 * j), .any, .any, .int .i64 0, .int .i64 (j : Int), .any, .any, .any, .any, .any, .any, .any, .any, .any, .any, .any, .any, .any]) (fun j => H.set id (some (.arr 1 (Mk eInt mInt 1 k xs j)))) (fun _ => True) (by kernel_rfl) trivial ?_ (fun j hj _ => ?_) (fun _ => ?_)
  · exact wk_any (by rw [mk_0, hset_same hH]) (by simp only [anyL_nil, anyL_any, anyL_same, anyL_int, anyL_bool, and_true, true_and]; omega)
  · have hj' := Nat.lt_of_lt_of_le hj hn
    have hg : ∀ r, ((Mk eInt mInt 1 k xs j).set j r).getD j [] = r := fun r => getD_set (by rw [mk_len (by omega)]; exact hj')
    have w1 : IntKind.i64.wrap (k + (j : Int) + 1) = k + j + 1 := by rw [wrap_k (by omega) (by omega)]; try omega
    simp only [TT, RR, flagOf, gslot, aop, ev, cv, putA, pickAV, if_false, if_true, Nat.reduceAdd, Nat.reduceSub, true_implies, reduceCtorEq, false_implies, implies_true, retAll, retOne, oneOf, cond_true, cond_false, rd, wr, joinT, splice, lay, layRows, abuiltin, abPure, abMem, szv, asNat, loOf, aslice, kindOf, szOf, Nat.reduceLeDiff, Nat.reduceLT, Nat.reduceMul, Nat.reduceEqDiff, ne_eq, Int.reduceLT, Int.reduceLE, Int.reduceEq, hset_get hl, List.set_set, mk_len (Nat.le_of_lt hj'), List.length_set, hg, getD_take hj, mk_at hj', eInt, w1, Int.one_mul]
    refine ⟨fun _ => ⟨by omega, hn, ?_⟩, fun h => absurd (by omega) h⟩
    exact wk_any (congrArg (fun r => H.set id (some (Blk.arr 1 r))) (mk_set1 (g := mInt) hj')) (by simp only [anyL_nil, anyL_any, anyL_same, anyL_int, anyL_bool, and_true, true_and]; rw [wrap_succ (by omega)]; omega)
  · simp only [TT, RR, flagOf, gslot, aop, ev, cv, putA, pickAV, if_false, if_true, Nat.reduceAdd, Nat.reduceSub, true_implies, reduceCtorEq, false_implies, implies_true, retAll, retOne, oneOf, cond_true, cond_false, rd, wr, joinT, splice, lay, layRows, abuiltin, abPure, abMem, szv, asNat, loOf, aslice, kindOf, szOf, Nat.reduceLeDiff, Nat.reduceLT, Nat.reduceMul, Nat.reduceEqDiff, ne_eq, Int.reduceLT, Int.reduceLE, Int.reduceEq, hset_get hl, List.set_set, mk_len hn]
    exact ⟨fun h => absurd h (by omega), fun _ => Wk.refl⟩
theorem L_heldInt64S (s : AV) (n : Nat) (k : Int) (H : Heap) (hs : Sl H s 1 ((mks mInt 1 k n).map eInt)) (hm : n ≤ 1048576) (h0 : 0 ≤ k) (h1 : k ≤ 1099511627776) :
    ADet Try.prog 203 [s, .int .i64 k] H (.int .i64 (k + 1 * n)) H := by
  refine adet_run hT (fun _ => false) Try.func203 rfl (by kernel_rfl) (by kernel_rfl) ?_
  simp only [TT, RR, flagOf, gslot, aop, ev, cv, putA, pickAV, if_false, if_true, Nat.reduceAdd, Nat.reduceSub, true_implies, reduceCtorEq, false_implies, implies_true, retAll, retOne, oneOf, cond_true, cond_false, rd, wr, joinT, splice, lay, layRows, abuiltin, abPure, abMem, szv, asNat, loOf, aslice, kindOf, szOf, Nat.reduceLeDiff, Nat.reduceLT, Nat.reduceMul, Nat.reduceEqDiff, ne_eq, Int.reduceLT, Int.reduceLE, Int.reduceEq, Try.ntmps203, Try.results203]
  refine lp_up hT n (fun j => [s, .int .i64 (k + 1 * j), .any, .any, .int .i64 0, .int .i64 (j : Int), .any, .any, .any, .any, .any, .any, .any, .any, .any, .any, .any, .any, .any, .any, .any]) (fun j => H) (fun _ => True) (by kernel_rfl) trivial ?_ (fun j hj _ => ?_) (fun _ => ?_)
  · exact wk_any rfl (by simp only [anyL_nil, anyL_any, anyL_same, anyL_int, anyL_bool, and_true, true_and]; omega)
  · have hj' : j < (mks mInt 1 k n).length := by rw [mks_len]; exact hj
    have w1 : IntKind.i64.wrap (k + (j : Int) + 1) = k + j + 1 := by rw [wrap_k (by omega) (by omega)]; try omega
    simp only [TT, RR, flagOf, gslot, aop, ev, cv, putA, pickAV, if_false, if_true, Nat.reduceAdd, Nat.reduceSub, true_implies, reduceCtorEq, false_implies, implies_true, retAll, retOne, oneOf, cond_true, cond_false, rd, wr, joinT, splice, lay, layRows, abuiltin, abPure, abMem, szv, asNat, loOf, aslice, kindOf, szOf, Nat.reduceLeDiff, Nat.reduceLT, Nat.reduceMul, Nat.reduceEqDiff, ne_eq, Int.reduceLT, Int.reduceLE, Int.reduceEq, hs.get, hs.app, hs.len, hs.szk, List.length_map, mks_len, getD_map hj', mks_get hj', eInt, mInt, bit3, w1, Int.one_mul]
    refine ⟨fun _ => ?_, fun h => absurd (by omega) h⟩
    repeat' (first | (refine wk_any rfl (by simp only [anyL_nil, anyL_any, anyL_same, anyL_int, anyL_bool, and_true, true_and]; rw [wrap_succ (by omega)]; omega)) | (with_reducible refine And.intro ?_ ?_) | (with_reducible intro h))
    all_goals first | omega | exact absurd rfl h | simp at h
  · simp only [TT, RR, flagOf, gslot, aop, ev, cv, putA, pickAV, if_false, if_true, Nat.reduceAdd, Nat.reduceSub, true_implies, reduceCtorEq, false_implies, implies_true, retAll, retOne, oneOf, cond_true, cond_false, rd, wr, joinT, splice, lay, layRows, abuiltin, abPure, abMem, szv, asNat, loOf, aslice, kindOf, szOf, Nat.reduceLeDiff, Nat.reduceLT, Nat.reduceMul, Nat.reduceEqDiff, ne_eq, Int.reduceLT, Int.reduceLE, Int.reduceEq, hs.len, List.length_map, mks_len]
    exact ⟨fun h => absurd h (by omega), fun _ => Wk.refl⟩
theorem L_szBoolS (s : AV) (n : Nat) (H : Heap) (left : Int) (hs : lenOf s = some n) : ADet Try.prog 142 [s, .int .i64 left] H (.int .i64 (szI left n)) H := by
  refine adet_run hT (fun _ => false) Try.func142 rfl (by kernel_rfl) (by kernel_rfl) ?_
  simp only [TT, RR, flagOf, gslot, aop, ev, cv, putA, pickAV, if_false, if_true, Nat.reduceAdd, Nat.reduceSub, true_implies, reduceCtorEq, false_implies, implies_true, retAll, retOne, oneOf, cond_true, cond_false, rd, wr, joinT, splice, lay, layRows, abuiltin, abPure, abMem, szv, asNat, loOf, aslice, kindOf, szOf, Nat.reduceLeDiff, Nat.reduceLT, Nat.reduceMul, Nat.reduceEqDiff, ne_eq, Int.reduceLT, Int.reduceLE, Int.reduceEq, Try.ntmps142, Try.results142, hs]
  unfold szI
  constructor <;> intro h <;> simp only [h, if_true, if_false] <;> exact Wk.refl
theorem L_toBoolS (s : AV) (xs : List Bool) (H : Heap) (hs : Sl H s 1 (xs.map eBool)) (hn : xs.length ≤ 1048576) : ADet Try.prog 144 [s] H (.own H.length 1 0 xs.length xs.length) (H ++ [some (.arr 1 (xs.map eBool))]) := by
  refine adet_run hT (fun _ => false) Try.func144 rfl (by kernel_rfl) (by kernel_rfl) ?_
  simp only [TT, RR, flagOf, gslot, aop, ev, cv, putA, pickAV, if_false, if_true, Nat.reduceAdd, Nat.reduceSub, true_implies, reduceCtorEq, false_implies, implies_true, retAll, retOne, oneOf, cond_true, cond_false, rd, wr, joinT, splice, lay, layRows, abuiltin, abPure, abMem, szv, asNat, loOf, aslice, kindOf, szOf, Nat.reduceLeDiff, Nat.reduceLT, Nat.reduceMul, Nat.reduceEqDiff, ne_eq, Int.reduceLT, Int.reduceLE, Int.reduceEq, Try.ntmps144, Try.results144, hs.get, hs.app, hs.len, hs.szk, List.length_map]
  refine ⟨by omega, lp_up hT xs.length (fun j => [s, .any, .any, .own H.length 1 0 xs.length xs.length, .int .i64 (j : Int), .any, .any, .any, .any, .any, .any, .any, .any, .any, .any, .any, .any, .any, .any, .any, .any, .any]) (fun j => H ++ [some (.arr 1 (Fill (xs.map eBool) [.bool false] j))]) (fun _ => True) (by kernel_rfl) trivial ?_ (fun j hj _ => ?_) (fun _ => ?_)⟩
  · exact wk_any (by rw [← fill_0, List.length_map]) (by simp only [anyL_nil, anyL_any, anyL_same, anyL_int, anyL_bool, and_true, true_and]; trivial)
  · simp only [TT, RR, flagOf, gslot, aop, ev, cv, putA, pickAV, if_false, if_true, Nat.reduceAdd, Nat.reduceSub, true_implies, reduceCtorEq, false_implies, implies_true, retAll, retOne, oneOf, cond_true, cond_false, rd, wr, joinT, splice, lay, layRows, abuiltin, abPure, abMem, szv, asNat, loOf, aslice, kindOf, szOf, Nat.reduceLeDiff, Nat.reduceLT, Nat.reduceMul, Nat.reduceEqDiff, ne_eq, Int.reduceLT, Int.reduceLE, Int.reduceEq, hs.get, hs.app, hs.len, hs.szk, List.length_map, getD_map hj, eBool, fill_len, fill_at (ys := xs.map eBool) (j := j) (by simpa using hj), Nat.le_of_lt hj]
    refine ⟨fun _ => ⟨by omega, by omega, by omega, wk_any (congrArg (fun r => H ++ [some (Blk.arr 1 r)]) (fill_set' (by simpa using hj) (getD_map hj))) (by rw [wrap_succ (by omega)]; simp only [anyL_nil, anyL_any, anyL_same, anyL_int, anyL_bool, and_true, true_and])⟩, fun h => absurd (by omega) h⟩
  · simp only [TT, RR, flagOf, gslot, aop, ev, cv, putA, pickAV, if_false, if_true, Nat.reduceAdd, Nat.reduceSub, true_implies, reduceCtorEq, false_implies, implies_true, retAll, retOne, oneOf, cond_true, cond_false, rd, wr, joinT, splice, lay, layRows, abuiltin, abPure, abMem, szv, asNat, loOf, aslice, kindOf, szOf, Nat.reduceLeDiff, Nat.reduceLT, Nat.reduceMul, Nat.reduceEqDiff, ne_eq, Int.reduceLT, Int.reduceLE, Int.reduceEq, hs.get, hs.app, hs.len, hs.szk, List.length_map]
    refine ⟨fun h => absurd h (by omega), fun _ => ?_⟩
    exact wk_any (by rw [← List.length_map (f := eBool), fill_n]) (by simp only [anyL_nil, anyL_any, anyL_same, anyL_int, anyL_bool, and_true, true_and])
theorem L_eqBoolS (s s' : AV) (xs ys : List Bool) (H : Heap) (hs : Sl H s 1 (xs.map eBool)) (hs' : Sl H s' 1 (ys.map eBool)) (hn : xs.length ≤ 1048576) : ADet Try.prog 146 [s, s'] H (.bool (decide (xs = ys))) H := by
  refine adet_run hT (fun _ => false) Try.func146 rfl (by kernel_rfl) (by kernel_rfl) ?_
  simp only [TT, RR, flagOf, gslot, aop, ev, cv, putA, pickAV, if_false, if_true, Nat.reduceAdd, Nat.reduceSub, true_implies, reduceCtorEq, false_implies, implies_true, retAll, retOne, oneOf, cond_true, cond_false, rd, wr, joinT, splice, lay, layRows, abuiltin, abPure, abMem, szv, asNat, loOf, aslice, kindOf, szOf, Nat.reduceLeDiff, Nat.reduceLT, Nat.reduceMul, Nat.reduceEqDiff, ne_eq, Int.reduceLT, Int.reduceLE, Int.reduceEq, Try.ntmps146, Try.results146, hs.get, hs.app, hs.len, hs.szk, hs'.get, hs'.app, hs'.len, hs'.szk, List.length_map]
  refine ⟨fun h => wk_same ?_, fun h => ?_⟩
  · rw [decide_eq_false (fun e => h (by rw [e]))]
  have hl : xs.length = ys.length := by omega
  refine lp_up hT xs.length (fun j => [s, s', .any, .any, .any, .int .i64 (j : Int), .any, .any, .any, .any, .any, .any, .any, .any, .any, .any, .any, .any, .any, .any, .any, .any, .any, .any, .any, .any]) (fun j => H) (fun j => xs.take j = ys.take j) (by kernel_rfl) rfl ?_ (fun j hj hV => ?_) (fun hV => ?_)
  · exact wk_any rfl (by simp only [anyL_nil, anyL_any, anyL_same, anyL_int, anyL_bool, and_true, true_and]; trivial)
  · have hj' : j < ys.length := hl ▸ hj
    simp only [TT, RR, flagOf, gslot, aop, ev, cv, putA, pickAV, if_false, if_true, Nat.reduceAdd, Nat.reduceSub, true_implies, reduceCtorEq, false_implies, implies_true, retAll, retOne, oneOf, cond_true, cond_false, rd, wr, joinT, splice, lay, layRows, abuiltin, abPure, abMem, szv, asNat, loOf, aslice, kindOf, szOf, Nat.reduceLeDiff, Nat.reduceLT, Nat.reduceMul, Nat.reduceEqDiff, ne_eq, Int.reduceLT, Int.reduceLE, Int.reduceEq, hs.get, hs.app, hs.len, hs.szk, hs'.get, hs'.app, hs'.len, hs'.szk, List.length_map, getD_map hj, getD_map hj', eBool]
    refine ⟨fun _ => ⟨by omega, by omega, ?_⟩, fun h => absurd (by omega) h⟩
    refine ⟨fun h => wk_same ?_, fun h => ⟨take_ne hj hj' hV (by simpa using h), wk_any rfl (by simp only [anyL_nil, anyL_any, anyL_same, anyL_int, anyL_bool, and_true, true_and]; rw [wrap_succ (by omega)])⟩⟩
    rw [decide_eq_false (fun e => by simp [e] at h)]
  · simp only [TT, RR, flagOf, gslot, aop, ev, cv, putA, pickAV, if_false, if_true, Nat.reduceAdd, Nat.reduceSub, true_implies, reduceCtorEq, false_implies, implies_true, retAll, retOne, oneOf, cond_true, cond_false, rd, wr, joinT, splice, lay, layRows, abuiltin, abPure, abMem, szv, asNat, loOf, aslice, kindOf, szOf, Nat.reduceLeDiff, Nat.reduceLT, Nat.reduceMul, Nat.reduceEqDiff, ne_eq, Int.reduceLT, Int.reduceLE, Int.reduceEq, hs.get, hs.app, hs.len, hs.szk, hs'.get, hs'.app, hs'.len, hs'.szk, List.length_map]
    refine ⟨fun h => absurd h (by omega), fun _ => wk_same ?_⟩
    rw [List.take_length, hl, List.take_length] at hV
    rw [decide_eq_true hV]
theorem L_markBoolS (id lc n : Nat) (k : Int) (xs : List Bool) (H : Heap) (hH : H[id]? = some (some (.arr 1 (xs.map eBool)))) (hn : n ≤ xs.length) (hm : n ≤ 1048576) (h0 : 0 ≤ k) (h1 : k ≤ 1099511627776) :
    ADet Try.prog 149 [.own id 1 0 n lc, .int .i64 k] H (.int .i64 (k + 1 * n)) (H.set id (some (.arr 1 (Mk eBool mBool 1 k xs n)))) := by
  have hl := lt_of_blk hH
  refine adet_run hT (fun _ => false) Try.func149 rfl (by kernel_rfl) (by kernel_rfl) ?_
  simp only [TT, RR, flagOf, gslot, aop, ev, cv, putA, pickAV, if_false, if_true, Nat.reduceAdd, Nat.reduceSub, true_implies, reduceCtorEq, false_implies, implies_true, retAll, retOne, oneOf, cond_true, cond_false, rd, wr, joinT, splice, lay, layRows, abuiltin, abPure, abMem, szv, asNat, loOf, aslice, kindOf, szOf, Nat.reduceLeDiff, Nat.reduceLT, Nat.reduceMul, Nat.reduceEqDiff, ne_eq, Int.reduceLT, Int.reduceLE, Int.reduceEq, Try.ntmps149, Try.results149]
  refine lp_up hT n (fun j => [.own id 1 0 n lc, .int .i64 (k + 1 * j), .any, .any, .int .i64 0, .int .i64 (j : Int), .any, .any, .any, .any, .any, .any, .any, .any, .any, .any, .any, .any, .any, .any, .any]) (fun j => H.set id (some (.arr 1 (Mk eBool mBool 1 k xs j)))) (fun _ => True) (by kernel_rfl) trivial ?_ (fun j hj _ => ?_) (fun _ => ?_)
  · exact wk_any (by rw [mk_0, hset_same hH]) (by simp only [anyL_nil, anyL_any, anyL_same, anyL_int, anyL_bool, and_true, true_and]; omega)
  · have hj' := Nat.lt_of_lt_of_le hj hn
    have hg : ∀ r, ((Mk eBool mBool 1 k xs j).set j r).getD j [] = r := fun r => getD_set (by rw [mk_len (by omega)]; exact hj')
    have w1 : IntKind.i64.wrap (k + (j : Int) + 1) = k + j + 1 := by rw [wrap_k (by omega) (by omega)]; try omega
    simp only [TT, RR, flagOf, gslot, aop, ev, cv, putA, pickAV, if_false, if_true, Nat.reduceAdd, Nat.reduceSub, true_implies, reduceCtorEq, false_implies, implies_true, retAll, retOne, oneOf, cond_true, cond_false, rd, wr, joinT, splice, lay, layRows, abuiltin, abPure, abMem, szv, asNat, loOf, aslice, kindOf, szOf, Nat.reduceLeDiff, Nat.reduceLT, Nat.reduceMul, Nat.reduceEqDiff, ne_eq, Int.reduceLT, Int.reduceLE, Int.reduceEq, hset_get hl, List.set_set, mk_len (Nat.le_of_lt hj'), List.length_set, hg, getD_take hj, mk_at hj', eBool, w1, Int.one_mul]
    refine ⟨fun _ => ⟨by omega, hn, ?_⟩, fun h => absurd (by omega) h⟩
    exact wk_any (congrArg (fun r => H.set id (some (Blk.arr 1 r))) (mk_set1 (g := mBool) hj')) (by simp only [anyL_nil, anyL_any, anyL_same, anyL_int, anyL_bool, and_true, true_and]; rw [wrap_succ (by omega)]; omega)
  · simp only [TT, RR, flagOf, gslot, aop, ev, cv, putA, pickAV, if_false, if_true, Nat.reduceAdd, Nat.reduceSub, true_implies, reduceCtorEq, false_implies, implies_true, retAll, retOne, oneOf, cond_true, cond_false, rd, wr, joinT, splice, lay, layRows, abuiltin, abPure, abMem, szv, asNat, loOf, aslice, kindOf, szOf, Nat.reduceLeDiff, Nat.reduceLT, Nat.reduceMul, Nat.reduceEqDiff, ne_eq, Int.reduceLT, Int.reduceLE, Int.reduceEq, hset_get hl, List.set_set, mk_len hn]
    exact ⟨fun h => absurd h (by omega), fun _ => Wk.refl⟩
theorem L_heldBoolS (s : AV) (n : Nat) (k : Int) (H : Heap) (hs : Sl H s 1 ((mks mBool 1 k n).map eBool)) (hm : n ≤ 1048576) (h0 : 0 ≤ k) (h1 : k ≤ 1099511627776) :
    ADet Try.prog 204 [s, .int .i64 k] H (.int .i64 (k + 1 * n)) H := by
  refine adet_run hT (fun _ => false) Try.func204 rfl (by kernel_rfl) (by kernel_rfl) ?_
  simp only [TT, RR, flagOf, gslot, aop, ev, cv, putA, pickAV, if_false, if_true, Nat.reduceAdd, Nat.reduceSub, true_implies, reduceCtorEq, false_implies, implies_true, retAll, retOne, oneOf, cond_true, cond_false, rd, wr, joinT, splice, lay, layRows, abuiltin, abPure, abMem, szv, asNat, loOf, aslice, kindOf, szOf, Nat.reduceLeDiff, Nat.reduceLT, Nat.reduceMul, Nat.reduceEqDiff, ne_eq, Int.reduceLT, Int.reduceLE, Int.reduceEq, Try.ntmps204, Try.results204]
  refine lp_up hT n (fun j => [s, .int .i64 (k + 1 * j), .any, .any, .int .i64 0, .int .i64 (j : Int), .any, .any, .any, .any, .any, .any, .any, .any, .any, .any, .any, .any, .any, .any, .any, .any, .any]) (fun j => H) (fun _ => True) (by kernel_rfl) trivial ?_ (fun j hj _ => ?_) (fun _ => ?_)
  · exact wk_any rfl (by simp only [anyL_nil, anyL_any, anyL_same, anyL_int, anyL_bool, and_true, true_and]; omega)
  · have hj' : j < (mks mBool 1 k n).length := by rw [mks_len]; exact hj
    have w1 : IntKind.i64.wrap (k + (j : Int) + 1) = k + j + 1 := by rw [wrap_k (by omega) (by omega)]; try omega
    simp only [TT, RR, flagOf, gslot, aop, ev, cv, putA, pickAV, if_false, if_true, Nat.reduceAdd, Nat.reduceSub, true_implies, reduceCtorEq, false_implies, implies_true, retAll, retOne, oneOf, cond_true, cond_false, rd, wr, joinT, splice, lay, layRows, abuiltin, abPure, abMem, szv, asNat, loOf, aslice, kindOf, szOf, Nat.reduceLeDiff, Nat.reduceLT, Nat.reduceMul, Nat.reduceEqDiff, ne_eq, Int.reduceLT, Int.reduceLE, Int.reduceEq, hs.get, hs.app, hs.len, hs.szk, List.length_map, mks_len, getD_map hj', mks_get hj', eBool, mBool, bit3, w1, Int.one_mul]
    refine ⟨fun _ => ?_, fun h => absurd (by omega) h⟩
    repeat' (first | (refine wk_any rfl (by simp only [anyL_nil, anyL_any, anyL_same, anyL_int, anyL_bool, and_true, true_and]; rw [wrap_succ (by omega)]; omega)) | (with_reducible refine And.intro ?_ ?_) | (with_reducible intro h))
    all_goals first | omega | exact absurd rfl h | simp at h
  · simp only [TT, RR, flagOf, gslot, aop, ev, cv, putA, pickAV, if_false, if_true, Nat.reduceAdd, Nat.reduceSub, true_implies, reduceCtorEq, false_implies, implies_true, retAll, retOne, oneOf, cond_true, cond_false, rd, wr, joinT, splice, lay, layRows, abuiltin, abPure, abMem, szv, asNat, loOf, aslice, kindOf, szOf, Nat.reduceLeDiff, Nat.reduceLT, Nat.reduceMul, Nat.reduceEqDiff, ne_eq, Int.reduceLT, Int.reduceLE, Int.reduceEq, hs.len, List.length_map, mks_len]
    exact ⟨fun h => absurd h (by omega), fun _ => Wk.refl⟩
end Go.Proofs.Ytkecenijjdpfdaa.AL
