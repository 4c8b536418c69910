/-
  The sign of a plain pool.
-/
import Derived.Test.YtompkmjpikabkaaALP6
namespace Go.Proofs.Ytompkmjpikabkaa.AL
open Go Go.Proofs.Ytompkmjpikabkaa
set_option linter.unusedVariables false
set_option linter.unusedSimpArgs false
set_option maxRecDepth 100000
set_option maxHeartbeats 2000000

def sgV (v : GVol) : List Int := [v.id, v.quota]
def sgC (c : GCell) : List Int := [c.vol, c.pos, c.val]
def sgA (p : GPlain) (j : Nat) : List Int := [p.blocks, (p.vols.length : Int)] ++ (p.vols.take j).flatMap sgV
def sgB (p : GPlain) (j : Nat) : List Int := sgA p p.vols.length ++ [(p.cells.length : Int)] ++ (p.cells.take j).flatMap sgC
def signW (p : GPlain) : Int := sumW (sgB p p.cells.length)
theorem sgA_succ {p : GPlain} {j : Nat} (h : j < p.vols.length) : sgA p (j + 1) = sgA p j ++ sgV (nth p.vols j) := by simp only [sgA, flat_app h, List.append_assoc]
theorem sgB_succ {p : GPlain} {j : Nat} (h : j < p.cells.length) : sgB p (j + 1) = sgB p j ++ sgC (nth p.cells j) := by simp only [sgB, flat_app h, List.append_assoc]
theorem sgA_len {p : GPlain} {j : Nat} (h : j ≤ p.vols.length) : (sgA p j).length = 2 + 2 * j := by
  induction j with
  | zero => rfl
  | succ j ih => rw [sgA_succ (by omega), List.length_append, ih (by omega)]; simp [sgV]; omega
theorem sgB_len {p : GPlain} {j : Nat} (h : j ≤ p.cells.length) : (sgB p j).length = 3 + 2 * p.vols.length + 3 * j := by
  induction j with
  | zero => simp [sgB, sgA_len]; omega
  | succ j ih => rw [sgB_succ (by omega), List.length_append, ih (by omega)]; simp [sgC]; omega
theorem I_sign (vs cs ss : AV) (p : GPlain) (H : Heap) (hv : Sl H vs 3 (p.vols.map eVol)) (hc : Sl H cs 3 (p.cells.map eCell)) (hs : isCell ss = true) (hm : p.vols.length ≤ 100000) (hn : p.cells.length ≤ 100000) :
    ADet Try.prog 77 [.agg [.int .i64 p.blocks, vs, cs, ss]] H (.int .i64 (signW p)) H := by
  refine adet_run hT (fun _ => false) Try.func77 rfl (by kernel_rfl) (by kernel_rfl) ?_
  simp only [TT, RS, flagOf, gslot, aop, ev, cv, putA, pickAV, if_false, if_true, Nat.reduceAdd, Nat.reduceSub, true_implies, reduceCtorEq, false_implies, implies_true, retAll, retOne, oneOf, cond_true, cond_false, rd, wr, joinT, splice, lay, layRows, abuiltin, abPure, abMem, szv, asNat, loOf, aslice, kindOf, szOf, Nat.reduceLeDiff, Nat.reduceLT, Nat.reduceMul, Nat.reduceEqDiff, ne_eq, Int.reduceLT, Int.reduceLE, Int.reduceEq, Try.ntmps77, Try.results77, hv.isc, hv.cel, hv.nan, hc.isc, hc.cel, hc.nan, hs, cel_of hs, nan_of hs, hv.get, hv.app, hv.len, hv.szk, hc.get, hc.app, hc.len, hc.szk, List.length_map]
  repeat' (first | (with_reducible refine wk_same ?_) | ((with_reducible refine wk_drop ?_ ?_); rotate_left; rfl) | (with_reducible refine And.intro ?_ ?_) | (with_reducible intro _) | ((with_reducible first | refine br_of ?_ ?_ | refine guB_ofT ?_ ?_ | refine guB_ofF ?_ ?_ | refine guD_ofT ?_ ?_ | refine guD_ofF ?_ ?_) <;> intro hb_ <;> (try simp only [decide_eq_true_eq, decide_eq_false_iff_not, Bool.not_true, Bool.not_false, Bool.not_eq_eq_eq_not, cond_true, cond_false] at hb_) <;> (try (exact absurd hb_ (by omega))) <;> (try simp only [TT, RS, flagOf, gslot, aop, ev, cv, putA, pickAV, if_false, if_true, Nat.reduceAdd, Nat.reduceSub, true_implies, reduceCtorEq, false_implies, implies_true, retAll, retOne, oneOf, cond_true, cond_false, rd, wr, joinT, splice, lay, layRows, abuiltin, abPure, abMem, szv, asNat, loOf, aslice, kindOf, szOf, Nat.reduceLeDiff, Nat.reduceLT, Nat.reduceMul, Nat.reduceEqDiff, ne_eq, Int.reduceLT, Int.reduceLE, Int.reduceEq, hv.isc, hv.cel, hv.nan, hc.isc, hc.cel, hc.nan, hs, cel_of hs, nan_of hs, hv.get, hv.app, hv.len, hv.szk, hc.get, hc.app, hc.len, hc.szk, List.length_map])))
  · exact ⟨rfl, rfl⟩
  · exact ⟨rfl, rfl⟩
  refine lp_up hT p.vols.length (fun j => [.any, .ptr H.length 0, .any, .own (H.length + 2) 1 0 (2 + 2 * j) (2 + 2 * j), .any, .any, .any, .any, .any, .any, .any, .any, .any, .any, .any, vs, .int .i64 (p.vols.length : Int), .int .i64 (j : Int), .any, .any, .any, .any, .any, .any, .any, .any, .any, .any, .any, .any, .any, .any, .any, .any, .any, .any, .any, .any, .any, .any, .any, .any, .any, .any, .any, .any, .any, .any, .any, .any, .any, .any, .any, .any]) (fun j => H ++ [some (.box [.int .i64 p.blocks, vs, cs, ss]), none, some (.arr 1 ((sgA p j).map eInt))]) (fun _ => True) (by kernel_rfl) trivial ?_ (fun j hj _ => ?_) (fun hV => ?_)
  · exact wk_name 1 rfl (by
    simp only [slMs_cons, slMs_nil, slM_any, slM_same, and_true, true_and]
    exact ⟨.inr (.inr ⟨_, _, _, _, rfl, by simp⟩), slM_int.mpr rfl⟩)
  · have hl := sgA_len (Nat.le_of_lt hj)
    simp only [TT, RS, flagOf, gslot, aop, ev, cv, putA, pickAV, if_false, if_true, Nat.reduceAdd, Nat.reduceSub, true_implies, reduceCtorEq, false_implies, implies_true, retAll, retOne, oneOf, cond_true, cond_false, rd, wr, joinT, splice, lay, layRows, abuiltin, abPure, abMem, szv, asNat, loOf, aslice, kindOf, szOf, Nat.reduceLeDiff, Nat.reduceLT, Nat.reduceMul, Nat.reduceEqDiff, ne_eq, Int.reduceLT, Int.reduceLE, Int.reduceEq, hv.get, hv.app, hv.len, hv.szk, hc.get, hc.app, hc.len, hc.szk, List.length_map, getD_nth hj, eVol, hl, Nat.le_refl, take_all (l := (sgA p j).map eInt) (n := 2 + 2 * j) (by rw [List.length_map, hl])]
    repeat' (first | (with_reducible refine wk_same ?_) | ((with_reducible refine wk_drop ?_ ?_); rotate_left; rfl) | (with_reducible refine And.intro ?_ ?_) | (with_reducible intro _) | ((with_reducible first | refine br_of ?_ ?_ | refine guB_ofT ?_ ?_ | refine guB_ofF ?_ ?_ | refine guD_ofT ?_ ?_ | refine guD_ofF ?_ ?_) <;> intro hb_ <;> (try simp only [decide_eq_true_eq, decide_eq_false_iff_not, Bool.not_true, Bool.not_false, Bool.not_eq_eq_eq_not, cond_true, cond_false] at hb_) <;> (try (exact absurd hb_ (by omega))) <;> (try simp only [TT, RS, flagOf, gslot, aop, ev, cv, putA, pickAV, if_false, if_true, Nat.reduceAdd, Nat.reduceSub, true_implies, reduceCtorEq, false_implies, implies_true, retAll, retOne, oneOf, cond_true, cond_false, rd, wr, joinT, splice, lay, layRows, abuiltin, abPure, abMem, szv, asNat, loOf, aslice, kindOf, szOf, Nat.reduceLeDiff, Nat.reduceLT, Nat.reduceMul, Nat.reduceEqDiff, ne_eq, Int.reduceLT, Int.reduceLE, Int.reduceEq, hv.get, hv.app, hv.len, hv.szk, hc.get, hc.app, hc.len, hc.szk, List.length_map, getD_nth hj, eVol, hl, Nat.le_refl, take_all (l := (sgA p j).map eInt) (n := 2 + 2 * j) (by rw [List.length_map, hl])])))
    all_goals first
      | omega
      | exact ⟨rfl, rfl⟩
      | (rename_i hr; simp only [List.mem_cons, List.not_mem_nil, or_false] at hr; rcases hr with rfl | rfl <;> exact ⟨rfl, rfl⟩)
      | skip
    refine wk_grow 3 (sub_name 1) ?_ ?_ ?_
    · simp only [slKs_cons, slKs_nil, slK_any, slK_int, slK_old, and_true, true_and, lt_ptr, (hv.flt flat_vol).app _, lt_new0]
      exact ⟨slK_at 0 (by simp) (by simp) (by simp) (by omega) (by omega), wrap_succ (by omega)⟩
    · rw [sgA_succ hj, List.map_append]; rfl
    · exact flat_int.ids
  · have hl := sgA_len (Nat.le_refl p.vols.length)
    simp only [TT, RS, flagOf, gslot, aop, ev, cv, putA, pickAV, if_false, if_true, Nat.reduceAdd, Nat.reduceSub, true_implies, reduceCtorEq, false_implies, implies_true, retAll, retOne, oneOf, cond_true, cond_false, rd, wr, joinT, splice, lay, layRows, abuiltin, abPure, abMem, szv, asNat, loOf, aslice, kindOf, szOf, Nat.reduceLeDiff, Nat.reduceLT, Nat.reduceMul, Nat.reduceEqDiff, ne_eq, Int.reduceLT, Int.reduceLE, Int.reduceEq, hv.get, hv.app, hv.len, hv.szk, hc.get, hc.app, hc.len, hc.szk, List.length_map, hl, Nat.le_refl, take_all (l := (sgA p p.vols.length).map eInt) (n := 2 + 2 * p.vols.length) (by rw [List.length_map, hl])]
    repeat' (first | (with_reducible refine wk_same ?_) | ((with_reducible refine wk_drop ?_ ?_); rotate_left; rfl) | (with_reducible refine And.intro ?_ ?_) | (with_reducible intro _) | ((with_reducible first | refine br_of ?_ ?_ | refine guB_ofT ?_ ?_ | refine guB_ofF ?_ ?_ | refine guD_ofT ?_ ?_ | refine guD_ofF ?_ ?_) <;> intro hb_ <;> (try simp only [decide_eq_true_eq, decide_eq_false_iff_not, Bool.not_true, Bool.not_false, Bool.not_eq_eq_eq_not, cond_true, cond_false] at hb_) <;> (try (exact absurd hb_ (by omega))) <;> (try simp only [TT, RS, flagOf, gslot, aop, ev, cv, putA, pickAV, if_false, if_true, Nat.reduceAdd, Nat.reduceSub, true_implies, reduceCtorEq, false_implies, implies_true, retAll, retOne, oneOf, cond_true, cond_false, rd, wr, joinT, splice, lay, layRows, abuiltin, abPure, abMem, szv, asNat, loOf, aslice, kindOf, szOf, Nat.reduceLeDiff, Nat.reduceLT, Nat.reduceMul, Nat.reduceEqDiff, ne_eq, Int.reduceLT, Int.reduceLE, Int.reduceEq, hv.get, hv.app, hv.len, hv.szk, hc.get, hc.app, hc.len, hc.szk, List.length_map, hl, Nat.le_refl, take_all (l := (sgA p p.vols.length).map eInt) (n := 2 + 2 * p.vols.length) (by rw [List.length_map, hl])])))
    all_goals first
      | omega
      | exact ⟨rfl, rfl⟩
      | (rename_i hr; simp only [List.mem_cons, List.not_mem_nil, or_false] at hr; subst hr; exact ⟨rfl, rfl⟩)
      | skip
    refine lp_up hT p.cells.length (fun j => [.any, .ptr H.length 0, .any, .own (H.length + 5) 1 0 (3 + 2 * p.vols.length + 3 * j) (3 + 2 * p.vols.length + 3 * j), .any, .any, .any, .any, .any, .any, .any, .any, .any, .any, .any, .any, .any, .any, .any, .any, .any, .any, .any, .any, .any, .any, .any, .any, .any, .any, .any, .any, .any, .any, .any, .any, cs, .int .i64 (p.cells.length : Int), .int .i64 (j : Int), .any, .any, .any, .any, .any, .any, .any, .any, .any, .any, .any, .any, .any, .any, .any]) (fun j => H ++ [some (.box [.int .i64 p.blocks, vs, cs, ss]), none, none, some (.arr 1 [[.int .i64 (p.cells.length : Int)]]), none, some (.arr 1 ((sgB p j).map eInt))]) (fun _ => True) (by kernel_rfl) trivial ?_ (fun j hj _ => ?_) (fun hV => ?_)
    · have h0 : (sgA p p.vols.length).map eInt ++ [[.int .i64 (p.cells.length : Int)]] = (sgB p 0).map eInt := by simp [sgB]
      rw [h0]
      exact wk_name 4 rfl (by
        simp only [slMs_cons, slMs_nil, slM_any, slM_same, and_true, true_and]
        exact ⟨.inr (.inr ⟨_, _, _, _, rfl, by simp; omega⟩), slM_int.mpr rfl⟩)
    · have hl := sgB_len (Nat.le_of_lt hj)
      simp only [TT, RS, flagOf, gslot, aop, ev, cv, putA, pickAV, if_false, if_true, Nat.reduceAdd, Nat.reduceSub, true_implies, reduceCtorEq, false_implies, implies_true, retAll, retOne, oneOf, cond_true, cond_false, rd, wr, joinT, splice, lay, layRows, abuiltin, abPure, abMem, szv, asNat, loOf, aslice, kindOf, szOf, Nat.reduceLeDiff, Nat.reduceLT, Nat.reduceMul, Nat.reduceEqDiff, ne_eq, Int.reduceLT, Int.reduceLE, Int.reduceEq, hv.get, hv.app, hv.len, hv.szk, hc.get, hc.app, hc.len, hc.szk, List.length_map, getD_nth hj, eCell, hl, Nat.le_refl, take_all (l := (sgB p j).map eInt) (n := 3 + 2 * p.vols.length + 3 * j) (by rw [List.length_map, hl]), take_all (l := (sgB p j).map eInt) (n := 3 + (2 * p.vols.length + 3 * j)) (by rw [List.length_map, hl]; omega)]
      repeat' (first | (with_reducible refine wk_same ?_) | ((with_reducible refine wk_drop ?_ ?_); rotate_left; rfl) | (with_reducible refine And.intro ?_ ?_) | (with_reducible intro _) | ((with_reducible first | refine br_of ?_ ?_ | refine guB_ofT ?_ ?_ | refine guB_ofF ?_ ?_ | refine guD_ofT ?_ ?_ | refine guD_ofF ?_ ?_) <;> intro hb_ <;> (try simp only [decide_eq_true_eq, decide_eq_false_iff_not, Bool.not_true, Bool.not_false, Bool.not_eq_eq_eq_not, cond_true, cond_false] at hb_) <;> (try (exact absurd hb_ (by omega))) <;> (try simp only [TT, RS, flagOf, gslot, aop, ev, cv, putA, pickAV, if_false, if_true, Nat.reduceAdd, Nat.reduceSub, true_implies, reduceCtorEq, false_implies, implies_true, retAll, retOne, oneOf, cond_true, cond_false, rd, wr, joinT, splice, lay, layRows, abuiltin, abPure, abMem, szv, asNat, loOf, aslice, kindOf, szOf, Nat.reduceLeDiff, Nat.reduceLT, Nat.reduceMul, Nat.reduceEqDiff, ne_eq, Int.reduceLT, Int.reduceLE, Int.reduceEq, hv.get, hv.app, hv.len, hv.szk, hc.get, hc.app, hc.len, hc.szk, List.length_map, getD_nth hj, eCell, hl, Nat.le_refl, take_all (l := (sgB p j).map eInt) (n := 3 + 2 * p.vols.length + 3 * j) (by rw [List.length_map, hl]), take_all (l := (sgB p j).map eInt) (n := 3 + (2 * p.vols.length + 3 * j)) (by rw [List.length_map, hl]; omega)])))
      all_goals first
        | omega
        | exact ⟨rfl, rfl⟩
        | (rename_i hr; simp only [List.mem_cons, List.not_mem_nil, or_false] at hr; rcases hr with rfl | rfl | rfl <;> exact ⟨rfl, rfl⟩)
        | skip
      refine wk_grow 3 (sub_name 4) ?_ ?_ ?_
      · simp only [slKs_cons, slKs_nil, slK_any, slK_int, slK_old, and_true, true_and, lt_ptr, (hc.flt flat_cell).app _, lt_new0]
        exact ⟨slK_at 0 (by simp) (by simp) (by simp) (by omega) (by omega), wrap_succ (by omega)⟩
      · rw [sgB_succ hj, List.map_append]; rfl
      · exact flat_int.ids
    · have hl := sgB_len (Nat.le_refl p.cells.length)
      simp only [TT, RS, flagOf, gslot, aop, ev, cv, putA, pickAV, if_false, if_true, Nat.reduceAdd, Nat.reduceSub, true_implies, reduceCtorEq, false_implies, implies_true, retAll, retOne, oneOf, cond_true, cond_false, rd, wr, joinT, splice, lay, layRows, abuiltin, abPure, abMem, szv, asNat, loOf, aslice, kindOf, szOf, Nat.reduceLeDiff, Nat.reduceLT, Nat.reduceMul, Nat.reduceEqDiff, ne_eq, Int.reduceLT, Int.reduceLE, Int.reduceEq, List.length_map]
      repeat' (first | (with_reducible refine wk_same ?_) | ((with_reducible refine wk_drop ?_ ?_); rotate_left; rfl) | (with_reducible refine And.intro ?_ ?_) | (with_reducible intro _) | ((with_reducible first | refine br_of ?_ ?_ | refine guB_ofT ?_ ?_ | refine guB_ofF ?_ ?_ | refine guD_ofT ?_ ?_ | refine guD_ofF ?_ ?_) <;> intro hb_ <;> (try simp only [decide_eq_true_eq, decide_eq_false_iff_not, Bool.not_true, Bool.not_false, Bool.not_eq_eq_eq_not, cond_true, cond_false] at hb_) <;> (try (exact absurd hb_ (by omega))) <;> (try simp only [TT, RS, flagOf, gslot, aop, ev, cv, putA, pickAV, if_false, if_true, Nat.reduceAdd, Nat.reduceSub, true_implies, reduceCtorEq, false_implies, implies_true, retAll, retOne, oneOf, cond_true, cond_false, rd, wr, joinT, splice, lay, layRows, abuiltin, abPure, abMem, szv, asNat, loOf, aslice, kindOf, szOf, Nat.reduceLeDiff, Nat.reduceLT, Nat.reduceMul, Nat.reduceEqDiff, ne_eq, Int.reduceLT, Int.reduceLE, Int.reduceEq, List.length_map])))
      refine callA_of0 (I_SumWords _ (sgB p p.cells.length) _ ?_ (by rw [hl]; omega)) ?_
      · exact sl_mapn (by rw [hgetS]; rfl) row_int (by rw [hl]; omega) (Nat.le_refl _)
      simp only [TT, RS, flagOf, gslot, aop, ev, cv, putA, pickAV, if_false, if_true, Nat.reduceAdd, Nat.reduceSub, true_implies, reduceCtorEq, false_implies, implies_true, retAll, retOne, oneOf, cond_true, cond_false, rd, wr, joinT, splice, lay, layRows, abuiltin, abPure, abMem, szv, asNat, loOf, aslice, kindOf, szOf, Nat.reduceLeDiff, Nat.reduceLT, Nat.reduceMul, Nat.reduceEqDiff, ne_eq, Int.reduceLT, Int.reduceLE, Int.reduceEq]
      exact wk_drop rfl rfl

theorem S_l7Sign (id : Nat) (vs cs ss : AV) (p : GPlain) (H : Heap) (hb : Bx H id [.int .i64 p.blocks, vs, cs, ss]) (hv : Sl H vs 3 (p.vols.map eVol)) (hc : Sl H cs 3 (p.cells.map eCell)) (hm : p.vols.length ≤ 100000) (hn : p.cells.length ≤ 100000) :
    ADet Try.prog 74 [.ptr id 0] H (.int .i64 (signW p)) H := by
  have hid := hb.lt
  refine adet_run hT (fun _ => false) Try.func74 rfl (by kernel_rfl) (by kernel_rfl) ?_
  simp only [TT, RS, flagOf, gslot, aop, ev, cv, putA, pickAV, if_false, if_true, Nat.reduceAdd, Nat.reduceSub, true_implies, reduceCtorEq, false_implies, implies_true, retAll, retOne, oneOf, cond_true, cond_false, rd, wr, joinT, splice, lay, layRows, abuiltin, abPure, abMem, szv, asNat, loOf, aslice, kindOf, szOf, Nat.reduceLeDiff, Nat.reduceLT, Nat.reduceMul, Nat.reduceEqDiff, ne_eq, Int.reduceLT, Int.reduceLE, Int.reduceEq, Try.ntmps74, Try.results74, hb.get, hb.app, hv.get, hv.app, hv.len, hv.szk, hc.get, hc.app, hc.len, hc.szk, List.length_map]
  repeat' (first | (with_reducible refine wk_same ?_) | ((with_reducible refine wk_drop ?_ ?_); rotate_left; rfl) | (with_reducible refine And.intro ?_ ?_) | (with_reducible intro _) | ((with_reducible first | refine br_of ?_ ?_ | refine guB_ofT ?_ ?_ | refine guB_ofF ?_ ?_ | refine guD_ofT ?_ ?_ | refine guD_ofF ?_ ?_) <;> intro hb_ <;> (try simp only [decide_eq_true_eq, decide_eq_false_iff_not, Bool.not_true, Bool.not_false, Bool.not_eq_eq_eq_not, cond_true, cond_false] at hb_) <;> (try (exact absurd hb_ (by omega))) <;> (try simp only [TT, RS, flagOf, gslot, aop, ev, cv, putA, pickAV, if_false, if_true, Nat.reduceAdd, Nat.reduceSub, true_implies, reduceCtorEq, false_implies, implies_true, retAll, retOne, oneOf, cond_true, cond_false, rd, wr, joinT, splice, lay, layRows, abuiltin, abPure, abMem, szv, asNat, loOf, aslice, kindOf, szOf, Nat.reduceLeDiff, Nat.reduceLT, Nat.reduceMul, Nat.reduceEqDiff, ne_eq, Int.reduceLT, Int.reduceLE, Int.reduceEq, hb.get, hb.app, hv.get, hv.app, hv.len, hv.szk, hc.get, hc.app, hc.len, hc.szk, List.length_map])))
  · exact ⟨rfl, rfl⟩
  · exact ⟨rfl, rfl⟩
  refine lp_up hT p.vols.length (fun j => [.ptr id 0, .any, .any, .own (H.length + 1) 1 0 (2 + 2 * j) (2 + 2 * j), .int .i64 (j : Int), .any, .any, .any, .any, .any, .any, .any, .any, .any, .any, .any, .any, .any, .any, .any, .any, .any, .any, .any, .any, .any, .any, .any, .any, .any, .any, .any, .any, .any, .any, .any, .any, .any, .any, .any, .any, .any, .any, .any, .any, .any, .any, .any, .any, .any, .any, .any, .any, .any, .any, .any, .any, .any, .any, .any, .any, .any, .any, .any, .any, .any, .any, .any, .any, .any, .any, .any, .any, .any, .any, .any, .any, .any, .any, .any, .any, .any, .any, .any, .any, .any, .any, .any, .any, .any]) (fun j => H ++ [none, some (.arr 1 ((sgA p j).map eInt))]) (fun _ => True) (by kernel_rfl) trivial ?_ (fun j hj _ => ?_) (fun hV => ?_)
  · exact wk_name 0 rfl (by
      simp only [slMs_cons, slMs_nil, slM_any, slM_same, and_true, true_and]
      exact ⟨.inr (.inr ⟨_, _, _, _, rfl, by simp⟩), slM_int.mpr rfl⟩)
  · have hl := sgA_len (Nat.le_of_lt hj)
    simp only [TT, RS, flagOf, gslot, aop, ev, cv, putA, pickAV, if_false, if_true, Nat.reduceAdd, Nat.reduceSub, true_implies, reduceCtorEq, false_implies, implies_true, retAll, retOne, oneOf, cond_true, cond_false, rd, wr, joinT, splice, lay, layRows, abuiltin, abPure, abMem, szv, asNat, loOf, aslice, kindOf, szOf, Nat.reduceLeDiff, Nat.reduceLT, Nat.reduceMul, Nat.reduceEqDiff, ne_eq, Int.reduceLT, Int.reduceLE, Int.reduceEq, hb.get, hb.app, hv.get, hv.app, hv.len, hv.szk, hc.get, hc.app, hc.len, hc.szk, List.length_map, getD_nth hj, eVol, hl, Nat.le_refl, take_all (l := (sgA p j).map eInt) (n := 2 + 2 * j) (by rw [List.length_map, hl])]
    repeat' (first | (with_reducible refine wk_same ?_) | ((with_reducible refine wk_drop ?_ ?_); rotate_left; rfl) | (with_reducible refine And.intro ?_ ?_) | (with_reducible intro _) | ((with_reducible first | refine br_of ?_ ?_ | refine guB_ofT ?_ ?_ | refine guB_ofF ?_ ?_ | refine guD_ofT ?_ ?_ | refine guD_ofF ?_ ?_) <;> intro hb_ <;> (try simp only [decide_eq_true_eq, decide_eq_false_iff_not, Bool.not_true, Bool.not_false, Bool.not_eq_eq_eq_not, cond_true, cond_false] at hb_) <;> (try (exact absurd hb_ (by omega))) <;> (try simp only [TT, RS, flagOf, gslot, aop, ev, cv, putA, pickAV, if_false, if_true, Nat.reduceAdd, Nat.reduceSub, true_implies, reduceCtorEq, false_implies, implies_true, retAll, retOne, oneOf, cond_true, cond_false, rd, wr, joinT, splice, lay, layRows, abuiltin, abPure, abMem, szv, asNat, loOf, aslice, kindOf, szOf, Nat.reduceLeDiff, Nat.reduceLT, Nat.reduceMul, Nat.reduceEqDiff, ne_eq, Int.reduceLT, Int.reduceLE, Int.reduceEq, hb.get, hb.app, hv.get, hv.app, hv.len, hv.szk, hc.get, hc.app, hc.len, hc.szk, List.length_map, getD_nth hj, eVol, hl, Nat.le_refl, take_all (l := (sgA p j).map eInt) (n := 2 + 2 * j) (by rw [List.length_map, hl])])))
    all_goals first
      | omega
      | exact ⟨rfl, rfl⟩
      | (rename_i hr; simp only [List.mem_cons, List.not_mem_nil, or_false] at hr; rcases hr with rfl | rfl <;> exact ⟨rfl, rfl⟩)
      | skip
    refine wk_grow 2 (sub_name 0) ?_ ?_ ?_
    · simp only [slKs_cons, slKs_nil, slK_any, slK_int, slK_old, and_true, true_and, lt_ptr, Nat.lt_of_lt_of_le hid (by simp : H.length ≤ (H ++ _).length)]
      exact ⟨slK_at 0 (by simp) (by simp) (by simp) (by omega) (by omega), wrap_succ (by omega)⟩
    · rw [sgA_succ hj, List.map_append]; rfl
    · exact flat_int.ids
  · have hl := sgA_len (Nat.le_refl p.vols.length)
    simp only [TT, RS, flagOf, gslot, aop, ev, cv, putA, pickAV, if_false, if_true, Nat.reduceAdd, Nat.reduceSub, true_implies, reduceCtorEq, false_implies, implies_true, retAll, retOne, oneOf, cond_true, cond_false, rd, wr, joinT, splice, lay, layRows, abuiltin, abPure, abMem, szv, asNat, loOf, aslice, kindOf, szOf, Nat.reduceLeDiff, Nat.reduceLT, Nat.reduceMul, Nat.reduceEqDiff, ne_eq, Int.reduceLT, Int.reduceLE, Int.reduceEq, hb.get, hb.app, hv.get, hv.app, hv.len, hv.szk, hc.get, hc.app, hc.len, hc.szk, List.length_map, hl, Nat.le_refl, take_all (l := (sgA p p.vols.length).map eInt) (n := 2 + 2 * p.vols.length) (by rw [List.length_map, hl])]
    repeat' (first | (with_reducible refine wk_same ?_) | ((with_reducible refine wk_drop ?_ ?_); rotate_left; rfl) | (with_reducible refine And.intro ?_ ?_) | (with_reducible intro _) | ((with_reducible first | refine br_of ?_ ?_ | refine guB_ofT ?_ ?_ | refine guB_ofF ?_ ?_ | refine guD_ofT ?_ ?_ | refine guD_ofF ?_ ?_) <;> intro hb_ <;> (try simp only [decide_eq_true_eq, decide_eq_false_iff_not, Bool.not_true, Bool.not_false, Bool.not_eq_eq_eq_not, cond_true, cond_false] at hb_) <;> (try (exact absurd hb_ (by omega))) <;> (try simp only [TT, RS, flagOf, gslot, aop, ev, cv, putA, pickAV, if_false, if_true, Nat.reduceAdd, Nat.reduceSub, true_implies, reduceCtorEq, false_implies, implies_true, retAll, retOne, oneOf, cond_true, cond_false, rd, wr, joinT, splice, lay, layRows, abuiltin, abPure, abMem, szv, asNat, loOf, aslice, kindOf, szOf, Nat.reduceLeDiff, Nat.reduceLT, Nat.reduceMul, Nat.reduceEqDiff, ne_eq, Int.reduceLT, Int.reduceLE, Int.reduceEq, hb.get, hb.app, hv.get, hv.app, hv.len, hv.szk, hc.get, hc.app, hc.len, hc.szk, List.length_map, hl, Nat.le_refl, take_all (l := (sgA p p.vols.length).map eInt) (n := 2 + 2 * p.vols.length) (by rw [List.length_map, hl])])))
    all_goals first
      | omega
      | exact ⟨rfl, rfl⟩
      | (rename_i hr; simp only [List.mem_cons, List.not_mem_nil, or_false] at hr; subst hr; exact ⟨rfl, rfl⟩)
      | skip
    refine lp_up hT p.cells.length (fun j => [.ptr id 0, .any, .any, .own (H.length + 4) 1 0 (3 + 2 * p.vols.length + 3 * j) (3 + 2 * p.vols.length + 3 * j), .any, .int .i64 (j : Int), .any, .any, .any, .any, .any, .any, .any, .any, .any, .any, .any, .any, .any, .any, .any, .any, .any, .any, .any, .any, .any, .any, .any, .any, .any, .any, .any, .any, .any, .any, .any, .any, .any, .any, .any, .any, .any, .any, .any, .any, .any, .any, .any, .any, .any, .any, .any, .any, .any, .any, .any, .any, .any, .any, .any, .any, .any, .any, .any, .any, .any, .any, .any, .any, .any, .any, .any, .any, .any, .any, .any, .any, .any, .any, .any, .any, .any, .any, .any, .any, .any, .any, .any, .any]) (fun j => H ++ [none, none, some (.arr 1 [[.int .i64 (p.cells.length : Int)]]), none, some (.arr 1 ((sgB p j).map eInt))]) (fun _ => True) (by kernel_rfl) trivial ?_ (fun j hj _ => ?_) (fun hV => ?_)
    · have h0 : (sgA p p.vols.length).map eInt ++ [[.int .i64 (p.cells.length : Int)]] = (sgB p 0).map eInt := by simp [sgB]
      rw [h0]
      exact wk_name 3 rfl (by
        simp only [slMs_cons, slMs_nil, slM_any, slM_same, and_true, true_and]
        exact ⟨.inr (.inr ⟨_, _, _, _, rfl, by simp; omega⟩), slM_int.mpr rfl⟩)
    · have hl := sgB_len (Nat.le_of_lt hj)
      simp only [TT, RS, flagOf, gslot, aop, ev, cv, putA, pickAV, if_false, if_true, Nat.reduceAdd, Nat.reduceSub, true_implies, reduceCtorEq, false_implies, implies_true, retAll, retOne, oneOf, cond_true, cond_false, rd, wr, joinT, splice, lay, layRows, abuiltin, abPure, abMem, szv, asNat, loOf, aslice, kindOf, szOf, Nat.reduceLeDiff, Nat.reduceLT, Nat.reduceMul, Nat.reduceEqDiff, ne_eq, Int.reduceLT, Int.reduceLE, Int.reduceEq, hb.get, hb.app, hv.get, hv.app, hv.len, hv.szk, hc.get, hc.app, hc.len, hc.szk, List.length_map, getD_nth hj, eCell, hl, Nat.le_refl, take_all (l := (sgB p j).map eInt) (n := 3 + 2 * p.vols.length + 3 * j) (by rw [List.length_map, hl]), take_all (l := (sgB p j).map eInt) (n := 3 + (2 * p.vols.length + 3 * j)) (by rw [List.length_map, hl]; omega)]
      repeat' (first | (with_reducible refine wk_same ?_) | ((with_reducible refine wk_drop ?_ ?_); rotate_left; rfl) | (with_reducible refine And.intro ?_ ?_) | (with_reducible intro _) | ((with_reducible first | refine br_of ?_ ?_ | refine guB_ofT ?_ ?_ | refine guB_ofF ?_ ?_ | refine guD_ofT ?_ ?_ | refine guD_ofF ?_ ?_) <;> intro hb_ <;> (try simp only [decide_eq_true_eq, decide_eq_false_iff_not, Bool.not_true, Bool.not_false, Bool.not_eq_eq_eq_not, cond_true, cond_false] at hb_) <;> (try (exact absurd hb_ (by omega))) <;> (try simp only [TT, RS, flagOf, gslot, aop, ev, cv, putA, pickAV, if_false, if_true, Nat.reduceAdd, Nat.reduceSub, true_implies, reduceCtorEq, false_implies, implies_true, retAll, retOne, oneOf, cond_true, cond_false, rd, wr, joinT, splice, lay, layRows, abuiltin, abPure, abMem, szv, asNat, loOf, aslice, kindOf, szOf, Nat.reduceLeDiff, Nat.reduceLT, Nat.reduceMul, Nat.reduceEqDiff, ne_eq, Int.reduceLT, Int.reduceLE, Int.reduceEq, hb.get, hb.app, hv.get, hv.app, hv.len, hv.szk, hc.get, hc.app, hc.len, hc.szk, List.length_map, getD_nth hj, eCell, hl, Nat.le_refl, take_all (l := (sgB p j).map eInt) (n := 3 + 2 * p.vols.length + 3 * j) (by rw [List.length_map, hl]), take_all (l := (sgB p j).map eInt) (n := 3 + (2 * p.vols.length + 3 * j)) (by rw [List.length_map, hl]; omega)])))
      all_goals first
        | omega
        | exact ⟨rfl, rfl⟩
        | (rename_i hr; simp only [List.mem_cons, List.not_mem_nil, or_false] at hr; rcases hr with rfl | rfl | rfl <;> exact ⟨rfl, rfl⟩)
        | skip
      refine wk_grow 2 (sub_name 3) ?_ ?_ ?_
      · simp only [slKs_cons, slKs_nil, slK_any, slK_int, slK_old, and_true, true_and, lt_ptr, Nat.lt_of_lt_of_le hid (by simp : H.length ≤ (H ++ _).length)]
        exact ⟨slK_at 0 (by simp) (by simp) (by simp) (by omega) (by omega), wrap_succ (by omega)⟩
      · rw [sgB_succ hj, List.map_append]; rfl
      · exact flat_int.ids
    · have hl := sgB_len (Nat.le_refl p.cells.length)
      simp only [TT, RS, flagOf, gslot, aop, ev, cv, putA, pickAV, if_false, if_true, Nat.reduceAdd, Nat.reduceSub, true_implies, reduceCtorEq, false_implies, implies_true, retAll, retOne, oneOf, cond_true, cond_false, rd, wr, joinT, splice, lay, layRows, abuiltin, abPure, abMem, szv, asNat, loOf, aslice, kindOf, szOf, Nat.reduceLeDiff, Nat.reduceLT, Nat.reduceMul, Nat.reduceEqDiff, ne_eq, Int.reduceLT, Int.reduceLE, Int.reduceEq, hb.get, hb.app, hc.get, hc.app, hc.len, hc.szk, List.length_map]
      repeat' (first | (with_reducible refine wk_same ?_) | ((with_reducible refine wk_drop ?_ ?_); rotate_left; rfl) | (with_reducible refine And.intro ?_ ?_) | (with_reducible intro _) | ((with_reducible first | refine br_of ?_ ?_ | refine guB_ofT ?_ ?_ | refine guB_ofF ?_ ?_ | refine guD_ofT ?_ ?_ | refine guD_ofF ?_ ?_) <;> intro hb_ <;> (try simp only [decide_eq_true_eq, decide_eq_false_iff_not, Bool.not_true, Bool.not_false, Bool.not_eq_eq_eq_not, cond_true, cond_false] at hb_) <;> (try (exact absurd hb_ (by omega))) <;> (try simp only [TT, RS, flagOf, gslot, aop, ev, cv, putA, pickAV, if_false, if_true, Nat.reduceAdd, Nat.reduceSub, true_implies, reduceCtorEq, false_implies, implies_true, retAll, retOne, oneOf, cond_true, cond_false, rd, wr, joinT, splice, lay, layRows, abuiltin, abPure, abMem, szv, asNat, loOf, aslice, kindOf, szOf, Nat.reduceLeDiff, Nat.reduceLT, Nat.reduceMul, Nat.reduceEqDiff, ne_eq, Int.reduceLT, Int.reduceLE, Int.reduceEq, hb.get, hb.app, hc.get, hc.app, hc.len, hc.szk, List.length_map])))
      refine callA_of0 (S_SumWords _ (sgB p p.cells.length) _ ?_ (by rw [hl]; omega)) ?_
      · exact sl_mapn (by rw [hgetS]; rfl) row_int (by rw [hl]; omega) (Nat.le_refl _)
      simp only [TT, RS, flagOf, gslot, aop, ev, cv, putA, pickAV, if_false, if_true, Nat.reduceAdd, Nat.reduceSub, true_implies, reduceCtorEq, false_implies, implies_true, retAll, retOne, oneOf, cond_true, cond_false, rd, wr, joinT, splice, lay, layRows, abuiltin, abPure, abMem, szv, asNat, loOf, aslice, kindOf, szOf, Nat.reduceLeDiff, Nat.reduceLT, Nat.reduceMul, Nat.reduceEqDiff, ne_eq, Int.reduceLT, Int.reduceLE, Int.reduceEq]
      exact wk_drop rfl rfl
end Go.Proofs.Ytompkmjpikabkaa.AL
