/-
  The program's look at a forest.
-/
import Derived.Test.YtkecenijjdpfdaaALF5
import Derived.Test.YtkecenijjdpfdaaALG1
namespace Go.Proofs.Ytkecenijjdpfdaa.AL
open Go Go.Proofs.Ytkecenijjdpfdaa
set_option linter.unusedVariables false
set_option linter.unusedSimpArgs false
set_option maxRecDepth 100000
set_option maxHeartbeats 2000000

theorem C_isEmpty (a : Int) (H : Heap) : ADet Try.prog 324 ([.int .i64 a] ++ []) H (.bool (decide (a ≠ -1))) H := by
  refine adet_run hT (fun _ => false) Try.func324 rfl (by kernel_rfl) (by kernel_rfl) ?_
  simp only [TT, RS, flagOf, gslot, aop, ev, cv, putA, pickAV, if_false, if_true, Nat.reduceAdd, Nat.reduceSub, true_implies, reduceCtorEq, false_implies, implies_true, retAll, retOne, oneOf, cond_true, cond_false, rd, wr, joinT, splice, lay, layRows, abuiltin, abPure, abMem, szv, asNat, loOf, aslice, kindOf, szOf, Nat.reduceLeDiff, Nat.reduceLT, Nat.reduceMul, Nat.reduceEqDiff, ne_eq, Int.reduceLT, Int.reduceLE, Int.reduceEq, Try.ntmps324, Try.results324]
  repeat' (first | (with_reducible refine wk_same ?_) | ((with_reducible refine wk_drop ?_ ?_); rotate_left; rfl) | (with_reducible refine And.intro ?_ ?_) | (with_reducible intro _) | ((with_reducible first | refine br_of ?_ ?_ | refine guB_ofT ?_ ?_ | refine guB_ofF ?_ ?_ | refine guD_ofT ?_ ?_ | refine guD_ofF ?_ ?_) <;> intro hb_ <;> (try simp only [decide_eq_true_eq, decide_eq_false_iff_not, Bool.not_true, Bool.not_false, Bool.not_eq_eq_eq_not, cond_true, cond_false] at hb_) <;> (try (exact absurd hb_ (by omega))) <;> (try simp only [TT, RS, flagOf, gslot, aop, ev, cv, putA, pickAV, if_false, if_true, Nat.reduceAdd, Nat.reduceSub, true_implies, reduceCtorEq, false_implies, implies_true, retAll, retOne, oneOf, cond_true, cond_false, rd, wr, joinT, splice, lay, layRows, abuiltin, abPure, abMem, szv, asNat, loOf, aslice, kindOf, szOf, Nat.reduceLeDiff, Nat.reduceLT, Nat.reduceMul, Nat.reduceEqDiff, ne_eq, Int.reduceLT, Int.reduceLE, Int.reduceEq])))
  all_goals rfl
theorem I_isEmpty (s : AV) (xs : List Int) (H : Heap) (hs : Sl H s 1 (xs.map eInt)) (hn : xs.length ≤ 1048576) : ADet Try.prog 296 [s] H (.bool (!(xs.any fun k => decide (k ≠ -1)))) H := by
  refine adet_run hT (fun _ => false) Try.func296 rfl (by kernel_rfl) (by kernel_rfl) ?_
  simp only [TT, RS, flagOf, gslot, aop, ev, cv, putA, pickAV, if_false, if_true, Nat.reduceAdd, Nat.reduceSub, true_implies, reduceCtorEq, false_implies, implies_true, retAll, retOne, oneOf, cond_true, cond_false, rd, wr, joinT, splice, lay, layRows, abuiltin, abPure, abMem, szv, asNat, loOf, aslice, kindOf, szOf, Nat.reduceLeDiff, Nat.reduceLT, Nat.reduceMul, Nat.reduceEqDiff, ne_eq, Int.reduceLT, Int.reduceLE, Int.reduceEq, Try.ntmps296, Try.results296]
  refine callA_of0 (G_ContainsFuncInt s xs _ _ _ _ hs hn (fun x => C_isEmpty x _)) ?_
  simp only [TT, RS, flagOf, gslot, aop, ev, cv, putA, pickAV, if_false, if_true, Nat.reduceAdd, Nat.reduceSub, true_implies, reduceCtorEq, false_implies, implies_true, retAll, retOne, oneOf, cond_true, cond_false, rd, wr, joinT, splice, lay, layRows, abuiltin, abPure, abMem, szv, asNat, loOf, aslice, kindOf, szOf, Nat.reduceLeDiff, Nat.reduceLT, Nat.reduceMul, Nat.reduceEqDiff, ne_eq, Int.reduceLT, Int.reduceLE, Int.reduceEq]
  repeat' (first | (with_reducible refine wk_same ?_) | ((with_reducible refine wk_drop ?_ ?_); rotate_left; rfl) | (with_reducible refine And.intro ?_ ?_) | (with_reducible intro _) | ((with_reducible first | refine br_of ?_ ?_ | refine guB_ofT ?_ ?_ | refine guB_ofF ?_ ?_ | refine guD_ofT ?_ ?_ | refine guD_ofF ?_ ?_) <;> intro hb_ <;> (try simp only [decide_eq_true_eq, decide_eq_false_iff_not, Bool.not_true, Bool.not_false, Bool.not_eq_eq_eq_not, cond_true, cond_false] at hb_) <;> (try (exact absurd hb_ (by omega))) <;> (try simp only [TT, RS, flagOf, gslot, aop, ev, cv, putA, pickAV, if_false, if_true, Nat.reduceAdd, Nat.reduceSub, true_implies, reduceCtorEq, false_implies, implies_true, retAll, retOne, oneOf, cond_true, cond_false, rd, wr, joinT, splice, lay, layRows, abuiltin, abPure, abMem, szv, asNat, loOf, aslice, kindOf, szOf, Nat.reduceLeDiff, Nat.reduceLT, Nat.reduceMul, Nat.reduceEqDiff, ne_eq, Int.reduceLT, Int.reduceLE, Int.reduceEq])))
  all_goals rfl
theorem C_kid (id1 id2 : Nat) (ns bs : AV) (f : GForest) (n : GNode) (k : Int) (H : Heap) (h1 : Bx H id1 [ns, bs]) (h2 : Bx H id2 (eNode n)) (hns : Sl H ns 3 (f.nodes.map eNode)) (hbs : Sl H bs 2 (f.blocks.map eBlock)) (hm : f.nodes.length ≤ 1048576) (hn : f.blocks.length ≤ 1048576) :
    ADet Try.prog 297 ([.int .i64 k] ++ [.ptr id1 0, .ptr id2 0]) H (.bool (!kidOk f n.leaf k)) H := by
  refine adet_run hT (fun _ => false) Try.func297 rfl (by kernel_rfl) (by kernel_rfl) ?_
  simp only [TT, RS, flagOf, gslot, aop, ev, cv, putA, pickAV, if_false, if_true, Nat.reduceAdd, Nat.reduceSub, true_implies, reduceCtorEq, false_implies, implies_true, retAll, retOne, oneOf, cond_true, cond_false, rd, wr, joinT, splice, lay, layRows, abuiltin, abPure, abMem, szv, asNat, loOf, aslice, kindOf, szOf, Nat.reduceLeDiff, Nat.reduceLT, Nat.reduceMul, Nat.reduceEqDiff, ne_eq, Int.reduceLT, Int.reduceLE, Int.reduceEq, Try.ntmps297, Try.results297, h1.get, h2.get, eNode, hns.isc, hns.cel, hns.nan, hbs.isc, hbs.cel, hbs.nan]
  repeat' (first | (with_reducible refine wk_same ?_) | ((with_reducible refine wk_drop ?_ ?_); rotate_left; rfl) | (with_reducible refine And.intro ?_ ?_) | (with_reducible intro _) | ((with_reducible first | refine br_of ?_ ?_ | refine guB_ofT ?_ ?_ | refine guB_ofF ?_ ?_ | refine guD_ofT ?_ ?_ | refine guD_ofF ?_ ?_) <;> intro hb_ <;> (try simp only [decide_eq_true_eq, decide_eq_false_iff_not, Bool.not_true, Bool.not_false, Bool.not_eq_eq_eq_not, cond_true, cond_false] at hb_) <;> (try (exact absurd hb_ (by omega))) <;> (try simp only [TT, RS, flagOf, gslot, aop, ev, cv, putA, pickAV, if_false, if_true, Nat.reduceAdd, Nat.reduceSub, true_implies, reduceCtorEq, false_implies, implies_true, retAll, retOne, oneOf, cond_true, cond_false, rd, wr, joinT, splice, lay, layRows, abuiltin, abPure, abMem, szv, asNat, loOf, aslice, kindOf, szOf, Nat.reduceLeDiff, Nat.reduceLT, Nat.reduceMul, Nat.reduceEqDiff, ne_eq, Int.reduceLT, Int.reduceLE, Int.reduceEq, h1.get, h2.get, eNode, hns.isc, hns.cel, hns.nan, hbs.isc, hbs.cel, hbs.nan])) | ((with_reducible first | refine callA_of0 (I_isKid ns bs f n k _ hns hbs hm hn) ?_ | refine callD_of0 (I_isKid ns bs f n k _ hns hbs hm hn) ?_); simp only [TT, RS, flagOf, gslot, aop, ev, cv, putA, pickAV, if_false, if_true, Nat.reduceAdd, Nat.reduceSub, true_implies, reduceCtorEq, false_implies, implies_true, retAll, retOne, oneOf, cond_true, cond_false, rd, wr, joinT, splice, lay, layRows, abuiltin, abPure, abMem, szv, asNat, loOf, aslice, kindOf, szOf, Nat.reduceLeDiff, Nat.reduceLT, Nat.reduceMul, Nat.reduceEqDiff, ne_eq, Int.reduceLT, Int.reduceLE, Int.reduceEq, h1.get, h2.get, eNode, hns.isc, hns.cel, hns.nan, hbs.isc, hbs.cel, hbs.nan]))
  all_goals rfl
theorem kid_ge {f : GForest} {leaf : Bool} {k : Int} (h : kidOk f leaf k = true) : decide (k ≥ 0) = decide (k ≠ -1) := by
  unfold kidOk at h
  by_cases h1 : k = -1
  · subst h1; rfl
  · rw [if_neg h1] at h
    have : 0 ≤ k := by
      cases leaf <;> simp only [Bool.false_eq_true, if_false, if_true, Bool.and_eq_true] at h <;> exact (inR_iff.1 h.1).1
    rw [decide_eq_true h1, decide_eq_true this]
theorem kids_ge {f : GForest} {leaf : Bool} : ∀ {xs : List Int}, xs.any (fun k => !kidOk f leaf k) = false → (xs.any fun k => decide (k ≥ 0)) = xs.any fun k => decide (k ≠ -1)
  | [], _ => rfl
  | x :: xs, h => by
    simp only [List.any_cons, Bool.or_eq_false_iff] at h
    rw [List.any_cons, List.any_cons, kid_ge (by simpa using h.1), kids_ge h.2]
theorem nodeF_or (f : GForest) (n : GNode) : nodeF f n = if !inR n.refs 0 200 then 3 else if n.refs = 0 then (if n.leaf || decide ((n.kids.length : Int) > 0) then 1 else 0) else if decide ((n.kids.length : Int) ≠ 4) || (!(n.kids.any fun k => decide (k ≠ -1)) || n.kids.any fun k => !kidOk f n.leaf k) then 1 else 0 := by
  unfold nodeF
  split
  · rfl
  split
  · rfl
  by_cases h1 : (n.kids.length : Int) ≠ 4
  · rw [if_pos h1, decide_eq_true h1]; rfl
  · rw [if_neg h1, decide_eq_false h1]
    cases h2 : n.kids.any fun k => !kidOk f n.leaf k with
    | true => simp
    | false =>
      rw [kids_ge h2]
      cases n.kids.any fun k => decide (k ≠ -1) <;> rfl
end Go.Proofs.Ytkecenijjdpfdaa.AL
