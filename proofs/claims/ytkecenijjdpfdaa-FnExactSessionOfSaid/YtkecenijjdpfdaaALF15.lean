/-
  The laws' own functions on pools and machines.
-/
import Derived.Test.YtkecenijjdpfdaaALF14
namespace Go.Proofs.Ytkecenijjdpfdaa.AL
open Go Go.Proofs.Ytkecenijjdpfdaa
set_option linter.unusedVariables false
set_option linter.unusedSimpArgs false
set_option maxRecDepth 100000
set_option maxHeartbeats 2000000

theorem szs_app : ∀ {a b : List Nat} {l : Int}, 0 ≤ szs l a → szs l (a ++ b) = szs (szs l a) b
  | [], b, l, _ => rfl
  | n :: a, b, l, h => by
    unfold szs at h
    rw [List.cons_append]
    conv => lhs; unfold szs
    conv => rhs; arg 1; unfold szs
    split at h
    · exact absurd h (by decide)
    · rename_i h1
      rw [if_neg h1, if_neg h1]
      exact szs_app h
theorem szs_neg : ∀ {a b : List Nat} {l : Int}, 0 ≤ l → szs l a < 0 → szs l (a ++ b) = -1
  | [], b, l, h0, h => absurd h0 (by unfold szs at h; omega)
  | n :: a, b, l, h0, h => by
    unfold szs at h
    rw [List.cons_append]
    unfold szs
    split at h
    · rename_i h1; rw [if_pos h1]
    · rename_i h1; rw [if_neg h1]
      exact szs_neg (by omega) h
theorem szs_m1 {a : List Nat} {l : Int} (h0 : 0 ≤ l) (h : szs l a < 0) : szs l a = -1 := by have := szs_neg (b := []) h0 h; rwa [List.append_nil] at this
theorem szI_m1 {l : Int} {n : Nat} (h : szI l n < 0) : szI l n = -1 := by unfold szI at h ⊢; split at h <;> simp_all
theorem szs_one {l : Int} {n : Nat} : szs l [n] = szI l n := by
  unfold szs
  split
  · rename_i h; exact (szI_m1 h).symm
  · rfl
def klen (n : GNode) : Nat := n.kids.length
theorem L_szNodeS (s : AV) (xs : List GNode) (H : Heap) (left : Int) (h0 : 0 ≤ left) (hs : Sl H s 3 (xs.map eNode)) (hn : xs.length ≤ 9223372036854775807) : ADet Try.prog 286 [s, .int .i64 left] H (.int .i64 (szs left (xs.length :: xs.map klen))) H := by
  refine adet_run hT (fun _ => false) Try.func286 rfl (by kernel_rfl) (by kernel_rfl) ?_
  simp only [TT, RS, flagOf, gslot, aop, ev, cv, putA, pickAV, if_false, if_true, Nat.reduceAdd, Nat.reduceSub, true_implies, reduceCtorEq, false_implies, implies_true, retAll, retOne, oneOf, cond_true, cond_false, rd, wr, joinT, splice, lay, layRows, abuiltin, abPure, abMem, szv, asNat, loOf, aslice, kindOf, szOf, Nat.reduceLeDiff, Nat.reduceLT, Nat.reduceMul, Nat.reduceEqDiff, ne_eq, Int.reduceLT, Int.reduceLE, Int.reduceEq, Try.ntmps286, Try.results286, hs.get, hs.len, hs.szk, List.length_map]
  repeat' (first | (with_reducible refine wk_same ?_) | ((with_reducible refine wk_drop ?_ ?_); rotate_left; rfl) | (with_reducible refine And.intro ?_ ?_) | (with_reducible intro _) | ((with_reducible first | refine br_of ?_ ?_ | refine guB_ofT ?_ ?_ | refine guB_ofF ?_ ?_ | refine guD_ofT ?_ ?_ | refine guD_ofF ?_ ?_) <;> intro hb_ <;> (try simp only [decide_eq_true_eq, decide_eq_false_iff_not, Bool.not_true, Bool.not_false, Bool.not_eq_eq_eq_not, cond_true, cond_false] at hb_) <;> (try (exact absurd hb_ (by omega))) <;> (try simp only [TT, RS, flagOf, gslot, aop, ev, cv, putA, pickAV, if_false, if_true, Nat.reduceAdd, Nat.reduceSub, true_implies, reduceCtorEq, false_implies, implies_true, retAll, retOne, oneOf, cond_true, cond_false, rd, wr, joinT, splice, lay, layRows, abuiltin, abPure, abMem, szv, asNat, loOf, aslice, kindOf, szOf, Nat.reduceLeDiff, Nat.reduceLT, Nat.reduceMul, Nat.reduceEqDiff, ne_eq, Int.reduceLT, Int.reduceLE, Int.reduceEq, hs.get, hs.len, hs.szk, List.length_map])))
  · have : szI left xs.length = -1 := by unfold szI; rw [if_pos hb_]
    unfold szs; rw [this]; rfl
  have hb0 : ¬ IntKind.i64.wrap (left - (xs.length : Int)) < 0 := by assumption
  have hl0 : szI left xs.length = IntKind.i64.wrap (left - (xs.length : Int)) := by unfold szI; rw [if_neg hb0]
  have hR : szs left (xs.length :: xs.map klen) = szs (IntKind.i64.wrap (left - (xs.length : Int))) (xs.map klen) := by
    conv => lhs; unfold szs
    rw [hl0, if_neg hb0]
  rw [hR]
  generalize IntKind.i64.wrap (left - (xs.length : Int)) = l0 at hb0
  clear hR hl0
  refine lp_up hT xs.length (fun j => [s, .int .i64 (szs l0 ((xs.map klen).take j)), .any, .any, .any, .int .i64 (j : Int), .any, .any, .any, .any, .any, .any, .any, .any, .any, .any, .any, .any, .any, .any, .any, .any, .any, .any, .any, .any, .any]) (fun j => H) (fun j => 0 ≤ szs l0 ((xs.map klen).take j)) (by kernel_rfl) (by rw [List.take_zero]; unfold szs; omega) ?_ (fun j hj hV => ?_) (fun hV => ?_)
  · exact wk_any rfl (by simp only [anyL_nil, anyL_any, anyL_same, anyL_int, anyL_bool, and_true, true_and]; simp [szs])
  · have ht : (xs.map klen).take (j + 1) = (xs.map klen).take j ++ [klen (nth xs j)] := by
      rw [List.take_succ_eq_append_getElem (by simpa using hj), nth_eq hj, List.getElem_map]
    have h1 := szs_app (b := [klen (nth xs j)]) hV
    rw [← ht, szs_one] at h1
    simp only [TT, RS, flagOf, gslot, aop, ev, cv, putA, pickAV, if_false, if_true, Nat.reduceAdd, Nat.reduceSub, true_implies, reduceCtorEq, false_implies, implies_true, retAll, retOne, oneOf, cond_true, cond_false, rd, wr, joinT, splice, lay, layRows, abuiltin, abPure, abMem, szv, asNat, loOf, aslice, kindOf, szOf, Nat.reduceLeDiff, Nat.reduceLT, Nat.reduceMul, Nat.reduceEqDiff, ne_eq, Int.reduceLT, Int.reduceLE, Int.reduceEq, hs.get, hs.len, hs.szk, List.length_map, getD_nth hj]
    repeat' (first | (with_reducible refine wk_same ?_) | ((with_reducible refine wk_drop ?_ ?_); rotate_left; rfl) | (with_reducible refine And.intro ?_ ?_) | (with_reducible intro _) | ((with_reducible first | refine br_of ?_ ?_ | refine guB_ofT ?_ ?_ | refine guB_ofF ?_ ?_ | refine guD_ofT ?_ ?_ | refine guD_ofF ?_ ?_) <;> intro hb_ <;> (try simp only [decide_eq_true_eq, decide_eq_false_iff_not, Bool.not_true, Bool.not_false, Bool.not_eq_eq_eq_not, cond_true, cond_false] at hb_) <;> (try (exact absurd hb_ (by omega))) <;> (try simp only [TT, RS, flagOf, gslot, aop, ev, cv, putA, pickAV, if_false, if_true, Nat.reduceAdd, Nat.reduceSub, true_implies, reduceCtorEq, false_implies, implies_true, retAll, retOne, oneOf, cond_true, cond_false, rd, wr, joinT, splice, lay, layRows, abuiltin, abPure, abMem, szv, asNat, loOf, aslice, kindOf, szOf, Nat.reduceLeDiff, Nat.reduceLT, Nat.reduceMul, Nat.reduceEqDiff, ne_eq, Int.reduceLT, Int.reduceLE, Int.reduceEq, hs.get, hs.len, hs.szk, List.length_map, getD_nth hj])))
    all_goals first | omega | skip
    refine callA_of0 (L_szNode (nth xs j) _ _) ?_
    rw [show (nth xs j).kids.length = klen (nth xs j) from rfl]
    simp only [TT, RS, flagOf, gslot, aop, ev, cv, putA, pickAV, if_false, if_true, Nat.reduceAdd, Nat.reduceSub, true_implies, reduceCtorEq, false_implies, implies_true, retAll, retOne, oneOf, cond_true, cond_false, rd, wr, joinT, splice, lay, layRows, abuiltin, abPure, abMem, szv, asNat, loOf, aslice, kindOf, szOf, Nat.reduceLeDiff, Nat.reduceLT, Nat.reduceMul, Nat.reduceEqDiff, ne_eq, Int.reduceLT, Int.reduceLE, Int.reduceEq, hs.get, hs.len, hs.szk, List.length_map, getD_nth hj]
    repeat' (first | (with_reducible refine And.intro ?_ (wk_any rfl ?_)) | (with_reducible refine wk_same ?_) | ((with_reducible refine wk_drop ?_ ?_); rotate_left; rfl) | (with_reducible refine And.intro ?_ ?_) | (with_reducible intro _) | ((with_reducible first | refine br_of ?_ ?_ | refine guB_ofT ?_ ?_ | refine guB_ofF ?_ ?_ | refine guD_ofT ?_ ?_ | refine guD_ofF ?_ ?_) <;> intro hb_ <;> (try simp only [decide_eq_true_eq, decide_eq_false_iff_not, Bool.not_true, Bool.not_false, Bool.not_eq_eq_eq_not, cond_true, cond_false] at hb_) <;> (try (exact absurd hb_ (by omega))) <;> (try simp only [TT, RS, flagOf, gslot, aop, ev, cv, putA, pickAV, if_false, if_true, Nat.reduceAdd, Nat.reduceSub, true_implies, reduceCtorEq, false_implies, implies_true, retAll, retOne, oneOf, cond_true, cond_false, rd, wr, joinT, splice, lay, layRows, abuiltin, abPure, abMem, szv, asNat, loOf, aslice, kindOf, szOf, Nat.reduceLeDiff, Nat.reduceLT, Nat.reduceMul, Nat.reduceEqDiff, ne_eq, Int.reduceLT, Int.reduceLE, Int.reduceEq, hs.get, hs.len, hs.szk, List.length_map, getD_nth hj])))
    all_goals first
      | omega
      | (simp only [anyL_nil, anyL_any, anyL_same, anyL_int, anyL_bool, and_true, true_and]; rw [h1, wrap_succ (by omega)]; simp; done)
      | (have h2 := szs_neg (a := (xs.map klen).take (j + 1)) (b := (xs.map klen).drop (j + 1)) (l := l0) (by omega) (by rw [h1]; exact hb_)
         rw [List.take_append_drop] at h2
         rw [h2]; done)
      | skip
  · simp only [TT, RS, flagOf, gslot, aop, ev, cv, putA, pickAV, if_false, if_true, Nat.reduceAdd, Nat.reduceSub, true_implies, reduceCtorEq, false_implies, implies_true, retAll, retOne, oneOf, cond_true, cond_false, rd, wr, joinT, splice, lay, layRows, abuiltin, abPure, abMem, szv, asNat, loOf, aslice, kindOf, szOf, Nat.reduceLeDiff, Nat.reduceLT, Nat.reduceMul, Nat.reduceEqDiff, ne_eq, Int.reduceLT, Int.reduceLE, Int.reduceEq, hs.len, List.length_map]
    repeat' (first | (with_reducible refine wk_same ?_) | ((with_reducible refine wk_drop ?_ ?_); rotate_left; rfl) | (with_reducible refine And.intro ?_ ?_) | (with_reducible intro _) | ((with_reducible first | refine br_of ?_ ?_ | refine guB_ofT ?_ ?_ | refine guB_ofF ?_ ?_ | refine guD_ofT ?_ ?_ | refine guD_ofF ?_ ?_) <;> intro hb_ <;> (try simp only [decide_eq_true_eq, decide_eq_false_iff_not, Bool.not_true, Bool.not_false, Bool.not_eq_eq_eq_not, cond_true, cond_false] at hb_) <;> (try (exact absurd hb_ (by omega))) <;> (try simp only [TT, RS, flagOf, gslot, aop, ev, cv, putA, pickAV, if_false, if_true, Nat.reduceAdd, Nat.reduceSub, true_implies, reduceCtorEq, false_implies, implies_true, retAll, retOne, oneOf, cond_true, cond_false, rd, wr, joinT, splice, lay, layRows, abuiltin, abPure, abMem, szv, asNat, loOf, aslice, kindOf, szOf, Nat.reduceLeDiff, Nat.reduceLT, Nat.reduceMul, Nat.reduceEqDiff, ne_eq, Int.reduceLT, Int.reduceLE, Int.reduceEq, hs.len, List.length_map])))
    all_goals first | omega | (rw [List.take_of_length_le (by simp)]; done)
def szF (f : GForest) : List Nat := (f.nodes.length :: f.nodes.map klen) ++ [f.blocks.length]
def szP (p : GPool) : List Nat := szF p.forest ++ [p.vols.length]
def szM (m : GMachine) : List Nat := szP m.pool ++ [m.sessions.length]
theorem L_szForest (ns bs : AV) (f : GForest) (H : Heap) (left : Int) (h0 : 0 ≤ left) (hns : Sl H ns 3 (f.nodes.map eNode)) (hbs : lenOf bs = some f.blocks.length) (hn : f.nodes.length ≤ 9223372036854775807) :
    ADet Try.prog 225 [.agg [ns, bs], .int .i64 left] H (.int .i64 (szs left (szF f))) H := by
  refine adet_run hT (fun _ => false) Try.func225 rfl (by kernel_rfl) (by kernel_rfl) ?_
  simp only [TT, RS, flagOf, gslot, aop, ev, cv, putA, pickAV, if_false, if_true, Nat.reduceAdd, Nat.reduceSub, true_implies, reduceCtorEq, false_implies, implies_true, retAll, retOne, oneOf, cond_true, cond_false, rd, wr, joinT, splice, lay, layRows, abuiltin, abPure, abMem, szv, asNat, loOf, aslice, kindOf, szOf, Nat.reduceLeDiff, Nat.reduceLT, Nat.reduceMul, Nat.reduceEqDiff, ne_eq, Int.reduceLT, Int.reduceLE, Int.reduceEq, Try.ntmps225, Try.results225, hns.isc, hns.cel, hns.nan, len_isc hbs, cel_of (len_isc hbs), nan_of (len_isc hbs)]
  refine callA_of0 (L_szNodeS ns f.nodes _ left h0 (hns.more _) hn) ?_
  simp only [TT, RS, flagOf, gslot, aop, ev, cv, putA, pickAV, if_false, if_true, Nat.reduceAdd, Nat.reduceSub, true_implies, reduceCtorEq, false_implies, implies_true, retAll, retOne, oneOf, cond_true, cond_false, rd, wr, joinT, splice, lay, layRows, abuiltin, abPure, abMem, szv, asNat, loOf, aslice, kindOf, szOf, Nat.reduceLeDiff, Nat.reduceLT, Nat.reduceMul, Nat.reduceEqDiff, ne_eq, Int.reduceLT, Int.reduceLE, Int.reduceEq, hns.isc, hns.cel, hns.nan, len_isc hbs, cel_of (len_isc hbs), nan_of (len_isc hbs)]
  repeat' (first | (with_reducible refine wk_same ?_) | ((with_reducible refine wk_drop ?_ ?_); rotate_left; rfl) | (with_reducible refine And.intro ?_ ?_) | (with_reducible intro _) | ((with_reducible first | refine br_of ?_ ?_ | refine guB_ofT ?_ ?_ | refine guB_ofF ?_ ?_ | refine guD_ofT ?_ ?_ | refine guD_ofF ?_ ?_) <;> intro hb_ <;> (try simp only [decide_eq_true_eq, decide_eq_false_iff_not, Bool.not_true, Bool.not_false, Bool.not_eq_eq_eq_not, cond_true, cond_false] at hb_) <;> (try (exact absurd hb_ (by omega))) <;> (try simp only [TT, RS, flagOf, gslot, aop, ev, cv, putA, pickAV, if_false, if_true, Nat.reduceAdd, Nat.reduceSub, true_implies, reduceCtorEq, false_implies, implies_true, retAll, retOne, oneOf, cond_true, cond_false, rd, wr, joinT, splice, lay, layRows, abuiltin, abPure, abMem, szv, asNat, loOf, aslice, kindOf, szOf, Nat.reduceLeDiff, Nat.reduceLT, Nat.reduceMul, Nat.reduceEqDiff, ne_eq, Int.reduceLT, Int.reduceLE, Int.reduceEq, hns.isc, hns.cel, hns.nan, len_isc hbs, cel_of (len_isc hbs), nan_of (len_isc hbs)])) | ((with_reducible first | refine callA_of0 (L_szBlockS _ f.blocks.length _ _ hbs) ?_ | refine callD_of0 (L_szBlockS _ f.blocks.length _ _ hbs) ?_); simp only [TT, RS, flagOf, gslot, aop, ev, cv, putA, pickAV, if_false, if_true, Nat.reduceAdd, Nat.reduceSub, true_implies, reduceCtorEq, false_implies, implies_true, retAll, retOne, oneOf, cond_true, cond_false, rd, wr, joinT, splice, lay, layRows, abuiltin, abPure, abMem, szv, asNat, loOf, aslice, kindOf, szOf, Nat.reduceLeDiff, Nat.reduceLT, Nat.reduceMul, Nat.reduceEqDiff, ne_eq, Int.reduceLT, Int.reduceLE, Int.reduceEq, hns.isc, hns.cel, hns.nan, len_isc hbs, cel_of (len_isc hbs), nan_of (len_isc hbs)]))
  all_goals unfold szF
  · rw [szs_neg h0 hb_]
  all_goals rw [szs_app (by omega), szs_one]
  rw [szI_m1 hb_]
theorem L_szPool (ns bs vs : AV) (p : GPool) (H : Heap) (left : Int) (h0 : 0 ≤ left) (hns : Sl H ns 3 (p.forest.nodes.map eNode)) (hbs : lenOf bs = some p.forest.blocks.length) (hvs : lenOf vs = some p.vols.length) (hn : p.forest.nodes.length ≤ 9223372036854775807) :
    ADet Try.prog 117 [.agg [ns, bs, vs], .int .i64 left] H (.int .i64 (szs left (szP p))) H := by
  refine adet_run hT (fun _ => false) Try.func117 rfl (by kernel_rfl) (by kernel_rfl) ?_
  simp only [TT, RS, flagOf, gslot, aop, ev, cv, putA, pickAV, if_false, if_true, Nat.reduceAdd, Nat.reduceSub, true_implies, reduceCtorEq, false_implies, implies_true, retAll, retOne, oneOf, cond_true, cond_false, rd, wr, joinT, splice, lay, layRows, abuiltin, abPure, abMem, szv, asNat, loOf, aslice, kindOf, szOf, Nat.reduceLeDiff, Nat.reduceLT, Nat.reduceMul, Nat.reduceEqDiff, ne_eq, Int.reduceLT, Int.reduceLE, Int.reduceEq, Try.ntmps117, Try.results117, hns.isc, hns.cel, hns.nan, len_isc hbs, cel_of (len_isc hbs), nan_of (len_isc hbs), len_isc hvs, cel_of (len_isc hvs), nan_of (len_isc hvs)]
  refine callA_of0 (L_szForest ns bs p.forest _ left h0 (hns.more _) hbs hn) ?_
  simp only [TT, RS, flagOf, gslot, aop, ev, cv, putA, pickAV, if_false, if_true, Nat.reduceAdd, Nat.reduceSub, true_implies, reduceCtorEq, false_implies, implies_true, retAll, retOne, oneOf, cond_true, cond_false, rd, wr, joinT, splice, lay, layRows, abuiltin, abPure, abMem, szv, asNat, loOf, aslice, kindOf, szOf, Nat.reduceLeDiff, Nat.reduceLT, Nat.reduceMul, Nat.reduceEqDiff, ne_eq, Int.reduceLT, Int.reduceLE, Int.reduceEq, hns.isc, hns.cel, hns.nan, len_isc hbs, cel_of (len_isc hbs), nan_of (len_isc hbs), len_isc hvs, cel_of (len_isc hvs), nan_of (len_isc hvs)]
  repeat' (first | (with_reducible refine wk_same ?_) | ((with_reducible refine wk_drop ?_ ?_); rotate_left; rfl) | (with_reducible refine And.intro ?_ ?_) | (with_reducible intro _) | ((with_reducible first | refine br_of ?_ ?_ | refine guB_ofT ?_ ?_ | refine guB_ofF ?_ ?_ | refine guD_ofT ?_ ?_ | refine guD_ofF ?_ ?_) <;> intro hb_ <;> (try simp only [decide_eq_true_eq, decide_eq_false_iff_not, Bool.not_true, Bool.not_false, Bool.not_eq_eq_eq_not, cond_true, cond_false] at hb_) <;> (try (exact absurd hb_ (by omega))) <;> (try simp only [TT, RS, flagOf, gslot, aop, ev, cv, putA, pickAV, if_false, if_true, Nat.reduceAdd, Nat.reduceSub, true_implies, reduceCtorEq, false_implies, implies_true, retAll, retOne, oneOf, cond_true, cond_false, rd, wr, joinT, splice, lay, layRows, abuiltin, abPure, abMem, szv, asNat, loOf, aslice, kindOf, szOf, Nat.reduceLeDiff, Nat.reduceLT, Nat.reduceMul, Nat.reduceEqDiff, ne_eq, Int.reduceLT, Int.reduceLE, Int.reduceEq, hns.isc, hns.cel, hns.nan, len_isc hbs, cel_of (len_isc hbs), nan_of (len_isc hbs), len_isc hvs, cel_of (len_isc hvs), nan_of (len_isc hvs)])) | ((with_reducible first | refine callA_of0 (L_szVolS _ p.vols.length _ _ hvs) ?_ | refine callD_of0 (L_szVolS _ p.vols.length _ _ hvs) ?_); simp only [TT, RS, flagOf, gslot, aop, ev, cv, putA, pickAV, if_false, if_true, Nat.reduceAdd, Nat.reduceSub, true_implies, reduceCtorEq, false_implies, implies_true, retAll, retOne, oneOf, cond_true, cond_false, rd, wr, joinT, splice, lay, layRows, abuiltin, abPure, abMem, szv, asNat, loOf, aslice, kindOf, szOf, Nat.reduceLeDiff, Nat.reduceLT, Nat.reduceMul, Nat.reduceEqDiff, ne_eq, Int.reduceLT, Int.reduceLE, Int.reduceEq, hns.isc, hns.cel, hns.nan, len_isc hbs, cel_of (len_isc hbs), nan_of (len_isc hbs), len_isc hvs, cel_of (len_isc hvs), nan_of (len_isc hvs)]))
  all_goals unfold szP
  · rw [szs_neg h0 hb_]
  all_goals rw [szs_app (by omega), szs_one]
  rw [szI_m1 hb_]
theorem L_szMachine (ns bs vs ss : AV) (m : GMachine) (H : Heap) (left : Int) (h0 : 0 ≤ left) (hns : Sl H ns 3 (m.pool.forest.nodes.map eNode)) (hbs : lenOf bs = some m.pool.forest.blocks.length) (hvs : lenOf vs = some m.pool.vols.length) (hss : lenOf ss = some m.sessions.length) (hn : m.pool.forest.nodes.length ≤ 9223372036854775807) :
    ADet Try.prog 41 [.agg [ns, bs, vs, ss], .int .i64 left] H (.int .i64 (szs left (szM m))) H := by
  refine adet_run hT (fun _ => false) Try.func41 rfl (by kernel_rfl) (by kernel_rfl) ?_
  simp only [TT, RS, flagOf, gslot, aop, ev, cv, putA, pickAV, if_false, if_true, Nat.reduceAdd, Nat.reduceSub, true_implies, reduceCtorEq, false_implies, implies_true, retAll, retOne, oneOf, cond_true, cond_false, rd, wr, joinT, splice, lay, layRows, abuiltin, abPure, abMem, szv, asNat, loOf, aslice, kindOf, szOf, Nat.reduceLeDiff, Nat.reduceLT, Nat.reduceMul, Nat.reduceEqDiff, ne_eq, Int.reduceLT, Int.reduceLE, Int.reduceEq, Try.ntmps41, Try.results41, hns.isc, hns.cel, hns.nan, len_isc hbs, cel_of (len_isc hbs), nan_of (len_isc hbs), len_isc hvs, cel_of (len_isc hvs), nan_of (len_isc hvs), len_isc hss, cel_of (len_isc hss), nan_of (len_isc hss)]
  refine callA_of0 (L_szPool ns bs vs m.pool _ left h0 (hns.more _) hbs hvs hn) ?_
  simp only [TT, RS, flagOf, gslot, aop, ev, cv, putA, pickAV, if_false, if_true, Nat.reduceAdd, Nat.reduceSub, true_implies, reduceCtorEq, false_implies, implies_true, retAll, retOne, oneOf, cond_true, cond_false, rd, wr, joinT, splice, lay, layRows, abuiltin, abPure, abMem, szv, asNat, loOf, aslice, kindOf, szOf, Nat.reduceLeDiff, Nat.reduceLT, Nat.reduceMul, Nat.reduceEqDiff, ne_eq, Int.reduceLT, Int.reduceLE, Int.reduceEq, hns.isc, hns.cel, hns.nan, len_isc hbs, cel_of (len_isc hbs), nan_of (len_isc hbs), len_isc hvs, cel_of (len_isc hvs), nan_of (len_isc hvs), len_isc hss, cel_of (len_isc hss), nan_of (len_isc hss)]
  repeat' (first | (with_reducible refine wk_same ?_) | ((with_reducible refine wk_drop ?_ ?_); rotate_left; rfl) | (with_reducible refine And.intro ?_ ?_) | (with_reducible intro _) | ((with_reducible first | refine br_of ?_ ?_ | refine guB_ofT ?_ ?_ | refine guB_ofF ?_ ?_ | refine guD_ofT ?_ ?_ | refine guD_ofF ?_ ?_) <;> intro hb_ <;> (try simp only [decide_eq_true_eq, decide_eq_false_iff_not, Bool.not_true, Bool.not_false, Bool.not_eq_eq_eq_not, cond_true, cond_false] at hb_) <;> (try (exact absurd hb_ (by omega))) <;> (try simp only [TT, RS, flagOf, gslot, aop, ev, cv, putA, pickAV, if_false, if_true, Nat.reduceAdd, Nat.reduceSub, true_implies, reduceCtorEq, false_implies, implies_true, retAll, retOne, oneOf, cond_true, cond_false, rd, wr, joinT, splice, lay, layRows, abuiltin, abPure, abMem, szv, asNat, loOf, aslice, kindOf, szOf, Nat.reduceLeDiff, Nat.reduceLT, Nat.reduceMul, Nat.reduceEqDiff, ne_eq, Int.reduceLT, Int.reduceLE, Int.reduceEq, hns.isc, hns.cel, hns.nan, len_isc hbs, cel_of (len_isc hbs), nan_of (len_isc hbs), len_isc hvs, cel_of (len_isc hvs), nan_of (len_isc hvs), len_isc hss, cel_of (len_isc hss), nan_of (len_isc hss)])) | ((with_reducible first | refine callA_of0 (L_szSessionS _ m.sessions.length _ _ hss) ?_ | refine callD_of0 (L_szSessionS _ m.sessions.length _ _ hss) ?_); simp only [TT, RS, flagOf, gslot, aop, ev, cv, putA, pickAV, if_false, if_true, Nat.reduceAdd, Nat.reduceSub, true_implies, reduceCtorEq, false_implies, implies_true, retAll, retOne, oneOf, cond_true, cond_false, rd, wr, joinT, splice, lay, layRows, abuiltin, abPure, abMem, szv, asNat, loOf, aslice, kindOf, szOf, Nat.reduceLeDiff, Nat.reduceLT, Nat.reduceMul, Nat.reduceEqDiff, ne_eq, Int.reduceLT, Int.reduceLE, Int.reduceEq, hns.isc, hns.cel, hns.nan, len_isc hbs, cel_of (len_isc hbs), nan_of (len_isc hbs), len_isc hvs, cel_of (len_isc hvs), nan_of (len_isc hvs), len_isc hss, cel_of (len_isc hss), nan_of (len_isc hss)]))
  all_goals unfold szM
  · rw [szs_neg h0 hb_]
  all_goals rw [szs_app (by omega), szs_one]
  rw [szI_m1 hb_]
end Go.Proofs.Ytkecenijjdpfdaa.AL
