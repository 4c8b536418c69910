/-
  The law of SignPlain.
-/
import Derived.Test.YtompkmjpikabkaaALP8
import Derived.Test.YtompkmjpikabkaaALOFnExactSignPlain
namespace Go.Proofs.Ytompkmjpikabkaa.AL
open Go Go.Proofs.Ytompkmjpikabkaa
set_option linter.unusedVariables false
set_option linter.unusedSimpArgs false
set_option maxRecDepth 100000
set_option maxHeartbeats 2000000

theorem L_toPlainF (vs cs ss : AV) (p : GPlain) (H : Heap) (hv : Sl H vs 3 (p.vols.map eVol)) (hc : Sl H cs 3 (p.cells.map eCell)) (hs : Sl H ss 1 (p.shares.map eInt)) (hm : p.vols.length ≤ 1048576) (hn : p.cells.length ≤ 1048576) (hk : p.shares.length ≤ 1048576) :
    ADet Try.prog 30 [.agg [.int .i64 p.blocks, vs, cs, ss]] H (.agg [.int .i64 p.blocks, .fro 3 (p.vols.map eVol), .fro 3 (p.cells.map eCell), .fro 1 (p.shares.map eInt)]) H := by
  refine (L_toPlain vs cs ss p H hv hc hs hm hn hk).weak (wk_fz ⟨fz_agg ⟨.same _ (.int _ _), flat_vol.fz0 rfl, flat_cell.fz rfl, flat_int.fz rfl, trivial⟩, trivial⟩)
theorem law_SignPlain (vs cs ss : AV) (p : GPlain) (H : Heap) (hv : Sl H vs 3 (p.vols.map eVol)) (hc : Sl H cs 3 (p.cells.map eCell)) (hs : Sl H ss 1 (p.shares.map eInt)) (hm : p.vols.length ≤ 9223372036854775807) (hn : p.cells.length ≤ 9223372036854775807) (hk : p.shares.length ≤ 9223372036854775807) :
    ADet Try.prog 6 [.agg [.int .i64 p.blocks, vs, cs, ss]] H (.bool true) H := by
  have hsz := fun h => szs_le (ns := [p.vols.length, p.cells.length, p.shares.length]) (l := 1048576) (by omega) (by omega) (by intro n hn; simp at hn; omega) h
  refine adet_run hT (fun _ => false) Try.func6 rfl (by kernel_rfl) (by kernel_rfl) ?_
  simp only [TT, RS, flagOf, gslot, aop, ev, cv, putA, pickAV, if_false, if_true, Nat.reduceAdd, Nat.reduceSub, true_implies, reduceCtorEq, false_implies, implies_true, retAll, retOne, oneOf, cond_true, cond_false, rd, wr, joinT, splice, lay, layRows, abuiltin, abPure, abMem, szv, asNat, loOf, aslice, kindOf, szOf, Nat.reduceLeDiff, Nat.reduceLT, Nat.reduceMul, Nat.reduceEqDiff, ne_eq, Int.reduceLT, Int.reduceLE, Int.reduceEq, Try.ntmps6, Try.results6, hv.isc, hv.cel, hv.nan, hc.isc, hc.cel, hc.nan, hs.isc, hs.cel, hs.nan]
  refine callA_of0 (L_szPlain vs cs ss p.blocks _ _ _ _ _ (by omega) (by rw [hv.len, List.length_map]) (by rw [hc.len, List.length_map]) (by rw [hs.len, List.length_map])) ?_
  simp only [TT, RS, flagOf, gslot, aop, ev, cv, putA, pickAV, if_false, if_true, Nat.reduceAdd, Nat.reduceSub, true_implies, reduceCtorEq, false_implies, implies_true, retAll, retOne, oneOf, cond_true, cond_false, rd, wr, joinT, splice, lay, layRows, abuiltin, abPure, abMem, szv, asNat, loOf, aslice, kindOf, szOf, Nat.reduceLeDiff, Nat.reduceLT, Nat.reduceMul, Nat.reduceEqDiff, ne_eq, Int.reduceLT, Int.reduceLE, Int.reduceEq, hv.isc, hv.cel, hv.nan, hc.isc, hc.cel, hc.nan, hs.isc, hs.cel, hs.nan]
  repeat' (first | (with_reducible refine wk_same ?_) | ((with_reducible refine wk_drop ?_ ?_); rotate_left; rfl) | (with_reducible refine And.intro ?_ ?_) | (with_reducible intro _) | ((with_reducible first | refine br_of ?_ ?_ | refine guB_ofT ?_ ?_ | refine guB_ofF ?_ ?_ | refine guD_ofT ?_ ?_ | refine guD_ofF ?_ ?_) <;> intro hb_ <;> (try simp only [decide_eq_true_eq, decide_eq_false_iff_not, Bool.not_true, Bool.not_false, Bool.not_eq_eq_eq_not, cond_true, cond_false] at hb_) <;> (try (exact absurd hb_ (by omega))) <;> (try simp only [TT, RS, flagOf, gslot, aop, ev, cv, putA, pickAV, if_false, if_true, Nat.reduceAdd, Nat.reduceSub, true_implies, reduceCtorEq, false_implies, implies_true, retAll, retOne, oneOf, cond_true, cond_false, rd, wr, joinT, splice, lay, layRows, abuiltin, abPure, abMem, szv, asNat, loOf, aslice, kindOf, szOf, Nat.reduceLeDiff, Nat.reduceLT, Nat.reduceMul, Nat.reduceEqDiff, ne_eq, Int.reduceLT, Int.reduceLE, Int.reduceEq, hv.isc, hv.cel, hv.nan, hc.isc, hc.cel, hc.nan, hs.isc, hs.cel, hs.nan])))
  · rfl
  obtain ⟨h1, h2, h3⟩ : p.vols.length ≤ 1048576 ∧ p.cells.length ≤ 1048576 ∧ p.shares.length ≤ 1048576 := by
    have := hsz (by omega)
    simp at this
    omega
  refine callA_of0 (L_toPlainF vs cs ss p _ (hv.more _) (hc.more _) (hs.more _) h1 h2 h3) ?_
  simp only [TT, RS, flagOf, gslot, aop, ev, cv, putA, pickAV, if_false, if_true, Nat.reduceAdd, Nat.reduceSub, true_implies, reduceCtorEq, false_implies, implies_true, retAll, retOne, oneOf, cond_true, cond_false, rd, wr, joinT, splice, lay, layRows, abuiltin, abPure, abMem, szv, asNat, loOf, aslice, kindOf, szOf, Nat.reduceLeDiff, Nat.reduceLT, Nat.reduceMul, Nat.reduceEqDiff, ne_eq, Int.reduceLT, Int.reduceLE, Int.reduceEq, hv.isc, hv.cel, hv.nan, hc.isc, hc.cel, hc.nan, hs.isc, hs.cel, hs.nan]
  refine callA_of0 (S_SignPlain _ _ _ p _ (sl_fro row_vol) (sl_fro row_cell) (sl_fro row_int) h1 h2 h3) ?_
  simp only [TT, RS, flagOf, gslot, aop, ev, cv, putA, pickAV, if_false, if_true, Nat.reduceAdd, Nat.reduceSub, true_implies, reduceCtorEq, false_implies, implies_true, retAll, retOne, oneOf, cond_true, cond_false, rd, wr, joinT, splice, lay, layRows, abuiltin, abPure, abMem, szv, asNat, loOf, aslice, kindOf, szOf, Nat.reduceLeDiff, Nat.reduceLT, Nat.reduceMul, Nat.reduceEqDiff, ne_eq, Int.reduceLT, Int.reduceLE, Int.reduceEq, hv.isc, hv.cel, hv.nan, hc.isc, hc.cel, hc.nan, hs.isc, hs.cel, hs.nan, signR]
  refine callA_of0 (L_toPlainF vs cs ss p _ (hv.more _) (hc.more _) (hs.more _) h1 h2 h3) ?_
  simp only [TT, RS, flagOf, gslot, aop, ev, cv, putA, pickAV, if_false, if_true, Nat.reduceAdd, Nat.reduceSub, true_implies, reduceCtorEq, false_implies, implies_true, retAll, retOne, oneOf, cond_true, cond_false, rd, wr, joinT, splice, lay, layRows, abuiltin, abPure, abMem, szv, asNat, loOf, aslice, kindOf, szOf, Nat.reduceLeDiff, Nat.reduceLT, Nat.reduceMul, Nat.reduceEqDiff, ne_eq, Int.reduceLT, Int.reduceLE, Int.reduceEq, hv.isc, hv.cel, hv.nan, hc.isc, hc.cel, hc.nan, hs.isc, hs.cel, hs.nan]
  refine callA_of0 (I_SignPlain _ _ _ p _ (sl_fro row_vol) (sl_fro row_cell) (sl_fro row_int) h1 h2 h3) ?_
  simp only [TT, RS, flagOf, gslot, aop, ev, cv, putA, pickAV, if_false, if_true, Nat.reduceAdd, Nat.reduceSub, true_implies, reduceCtorEq, false_implies, implies_true, retAll, retOne, oneOf, cond_true, cond_false, rd, wr, joinT, splice, lay, layRows, abuiltin, abPure, abMem, szv, asNat, loOf, aslice, kindOf, szOf, Nat.reduceLeDiff, Nat.reduceLT, Nat.reduceMul, Nat.reduceEqDiff, ne_eq, Int.reduceLT, Int.reduceLE, Int.reduceEq, hv.isc, hv.cel, hv.nan, hc.isc, hc.cel, hc.nan, hs.isc, hs.cel, hs.nan, signR]
  refine callA_of0 (L_eqIntResult _ _ _ _ _) ?_
  simp only [TT, RS, flagOf, gslot, aop, ev, cv, putA, pickAV, if_false, if_true, Nat.reduceAdd, Nat.reduceSub, true_implies, reduceCtorEq, false_implies, implies_true, retAll, retOne, oneOf, cond_true, cond_false, rd, wr, joinT, splice, lay, layRows, abuiltin, abPure, abMem, szv, asNat, loOf, aslice, kindOf, szOf, Nat.reduceLeDiff, Nat.reduceLT, Nat.reduceMul, Nat.reduceEqDiff, ne_eq, Int.reduceLT, Int.reduceLE, Int.reduceEq, hv.isc, hv.cel, hv.nan, hc.isc, hc.cel, hc.nan, hs.isc, hs.cel, hs.nan, and_self, decide_true]
  refine callD_of0 (L_toPlainF vs cs ss p _ (hv.more _) (hc.more _) (hs.more _) h1 h2 h3) ?_
  simp only [TT, RS, flagOf, gslot, aop, ev, cv, putA, pickAV, if_false, if_true, Nat.reduceAdd, Nat.reduceSub, true_implies, reduceCtorEq, false_implies, implies_true, retAll, retOne, oneOf, cond_true, cond_false, rd, wr, joinT, splice, lay, layRows, abuiltin, abPure, abMem, szv, asNat, loOf, aslice, kindOf, szOf, Nat.reduceLeDiff, Nat.reduceLT, Nat.reduceMul, Nat.reduceEqDiff, ne_eq, Int.reduceLT, Int.reduceLE, Int.reduceEq, hv.isc, hv.cel, hv.nan, hc.isc, hc.cel, hc.nan, hs.isc, hs.cel, hs.nan]
  refine callD_of0 (L_eqPlain _ _ _ _ _ _ p p _ (sl_fro row_vol) (sl_fro row_cell) (sl_fro row_int) h1 h2 h3 (sl_fro row_vol) (sl_fro row_cell) (sl_fro row_int)) ?_
  simp only [TT, RS, flagOf, gslot, aop, ev, cv, putA, pickAV, if_false, if_true, Nat.reduceAdd, Nat.reduceSub, true_implies, reduceCtorEq, false_implies, implies_true, retAll, retOne, oneOf, cond_true, cond_false, rd, wr, joinT, splice, lay, layRows, abuiltin, abPure, abMem, szv, asNat, loOf, aslice, kindOf, szOf, Nat.reduceLeDiff, Nat.reduceLT, Nat.reduceMul, Nat.reduceEqDiff, ne_eq, Int.reduceLT, Int.reduceLE, Int.reduceEq, hv.isc, hv.cel, hv.nan, hc.isc, hc.cel, hc.nan, hs.isc, hs.cel, hs.nan, decide_true]
  exact wk_drop rfl rfl
theorem lawFnExactSignPlain (x0 : GPlain) (hG : good71 x0) : ADet Try.prog 6 [.agg (ePlain x0)] [] (.bool true) [] :=
  law_SignPlain _ _ _ x0 [] (sl_fro row_vol) (sl_fro row_cell) (sl_fro row_int) hG.2.1.1 hG.2.2.1.1 hG.2.2.2.1
end Go.Proofs.Ytompkmjpikabkaa.AL
