/-
  How often places are named.
-/
import Derived.Test.YtkecenijjdpfdaaALF2
namespace Go.Proofs.Ytkecenijjdpfdaa.AL
open Go Go.Proofs.Ytkecenijjdpfdaa
set_option linter.unusedVariables false
set_option linter.unusedSimpArgs false
set_option maxRecDepth 100000
set_option maxHeartbeats 2000000

/-- The kids of the nodes of a kind. -/
def isOf (leaf : Bool) (n : GNode) : Bool := !(decide (n.refs = 0)) && (n.leaf == leaf)
def nmd (ns : List GNode) (leaf : Bool) : List Int := (ns.filter (isOf leaf)).flatMap GNode.kids
def cntI (k : Int) (xs : List Int) : Nat := cnt (fun x => decide (x = k)) xs
theorem nmd_succ {ns : List GNode} {leaf : Bool} {j : Nat} (h : j < ns.length) : nmd (ns.take (j + 1)) leaf = nmd (ns.take j) leaf ++ if isOf leaf (nth ns j) then (nth ns j).kids else [] := by
  unfold nmd
  rw [df_take (q := isOf leaf) h, List.flatMap_append]
  cases isOf leaf (nth ns j) <;> simp
theorem cntI_app {k : Int} {xs ys : List Int} : cntI k (xs ++ ys) = cntI k xs + cntI k ys := by simp [cntI, cnt]
theorem cntI_le {k : Int} {xs : List Int} : cntI k xs ≤ xs.length := List.length_filter_le _ _
theorem cntI_succ {k : Int} {xs : List Int} {j : Nat} (h : j < xs.length) : cntI k (xs.take (j + 1)) = cntI k (xs.take j) + if nth xs j = k then 1 else 0 := by
  have := cnt_succ (p := fun x => decide (x = k)) h
  simpa [cntI] using this
theorem nmd_len {ns : List GNode} {leaf : Bool} (h : ∀ n ∈ ns, n.kids.length ≤ 4) : (nmd ns leaf).length ≤ 4 * ns.length := by
  induction ns with
  | nil => simp [nmd]
  | cons n ns ih =>
    have h1 := h n (List.mem_cons_self ..)
    have h2 := ih (fun m hm => h m (List.mem_cons_of_mem _ hm))
    unfold nmd at h2 ⊢
    rw [List.filter_cons]
    split
    · simp only [List.flatMap_cons, List.length_append, List.length_cons]; omega
    · simp only [List.length_cons]; omega
theorem S_l4Named (id : Nat) (ns : AV) (rest : List AV) (nodes : List GNode) (leaf : Bool) (k : Int) (H : Heap) (hb : Bx H id (ns :: rest)) (hns : Sl H ns 3 (nodes.map eNode)) (hm : nodes.length ≤ 1048576) (h4 : ∀ i, i < nodes.length → (nth nodes i).refs = 0 ∨ (nth nodes i).kids.length = 4) (h4' : ∀ n ∈ nodes, n.kids.length ≤ 4) :
    ADet Try.prog 320 [.ptr id 0, .bool leaf, .int .i64 k] H (.int .i64 (cntI k (nmd nodes leaf) : Nat)) H := by
  refine adet_run hT (fun _ => false) Try.func320 rfl (by kernel_rfl) (by kernel_rfl) ?_
  simp only [TT, RS, flagOf, gslot, aop, ev, cv, putA, pickAV, if_false, if_true, Nat.reduceAdd, Nat.reduceSub, true_implies, reduceCtorEq, false_implies, implies_true, retAll, retOne, oneOf, cond_true, cond_false, rd, wr, joinT, splice, lay, layRows, abuiltin, abPure, abMem, szv, asNat, loOf, aslice, kindOf, szOf, Nat.reduceLeDiff, Nat.reduceLT, Nat.reduceMul, Nat.reduceEqDiff, ne_eq, Int.reduceLT, Int.reduceLE, Int.reduceEq, Try.ntmps320, Try.results320]
  refine lp_up hT nodes.length (fun j => [.ptr id 0, .bool leaf, .int .i64 k, .any, .any, .any, .any, .int .i64 (cntI k (nmd (nodes.take j) leaf) : Nat), .int .i64 (j : Int), .any, .any, .any, .any, .any, .any, .any, .any, .any, .any, .any, .any, .any, .any, .any, .any, .any, .any, .any, .any, .any, .any, .any, .any, .any, .any, .any, .any, .any, .any, .any, .any, .any, .any, .any, .any, .any, .any, .any, .any, .any, .any, .any, .any, .any, .any, .any, .any, .any, .any, .any]) (fun j => H) (fun _ => True) (by kernel_rfl) trivial ?_ (fun j hj _ => ?_) (fun hV => ?_)
  · exact wk_any rfl (by simp only [anyL_nil, anyL_any, anyL_same, anyL_int, anyL_bool, and_true, true_and]; exact ⟨rfl, rfl⟩)
  · have hs := nmd_succ (leaf := leaf) hj
    simp only [TT, RS, flagOf, gslot, aop, ev, cv, putA, pickAV, if_false, if_true, Nat.reduceAdd, Nat.reduceSub, true_implies, reduceCtorEq, false_implies, implies_true, retAll, retOne, oneOf, cond_true, cond_false, rd, wr, joinT, splice, lay, layRows, abuiltin, abPure, abMem, szv, asNat, loOf, aslice, kindOf, szOf, Nat.reduceLeDiff, Nat.reduceLT, Nat.reduceMul, Nat.reduceEqDiff, ne_eq, Int.reduceLT, Int.reduceLE, Int.reduceEq, hb.get, hns.get, hns.len, hns.szk, List.length_map, getD_nth hj, eNode]
    repeat' (first | (with_reducible refine wk_any rfl ?_) | (with_reducible refine wk_same ?_) | ((with_reducible refine wk_drop ?_ ?_); rotate_left; rfl) | (with_reducible refine And.intro ?_ ?_) | (with_reducible intro _) | ((with_reducible first | refine br_of ?_ ?_ | refine guB_ofT ?_ ?_ | refine guB_ofF ?_ ?_ | refine guD_ofT ?_ ?_ | refine guD_ofF ?_ ?_) <;> intro hb_ <;> (try simp only [decide_eq_true_eq, decide_eq_false_iff_not, Bool.not_true, Bool.not_false, Bool.not_eq_eq_eq_not, cond_true, cond_false] at hb_) <;> (try (exact absurd hb_ (by omega))) <;> (try simp only [TT, RS, flagOf, gslot, aop, ev, cv, putA, pickAV, if_false, if_true, Nat.reduceAdd, Nat.reduceSub, true_implies, reduceCtorEq, false_implies, implies_true, retAll, retOne, oneOf, cond_true, cond_false, rd, wr, joinT, splice, lay, layRows, abuiltin, abPure, abMem, szv, asNat, loOf, aslice, kindOf, szOf, Nat.reduceLeDiff, Nat.reduceLT, Nat.reduceMul, Nat.reduceEqDiff, ne_eq, Int.reduceLT, Int.reduceLE, Int.reduceEq, hb.get, hns.get, hns.len, hns.szk, List.length_map, getD_nth hj, eNode])))
    all_goals first
      | omega
      | (rw [hs]; simp only [isOf, hb_, decide_true, decide_false, Bool.not_true, Bool.not_false, Bool.false_and, Bool.true_and, Bool.and_false, Bool.false_eq_true, if_false, List.append_nil]; simp only [anyL_nil, anyL_any, anyL_same, anyL_int, anyL_bool, and_true, true_and]; exact wrap_succ (by omega))
      | skip
    have h44 : (nth nodes j).kids.length = 4 := by
      rcases h4 j hj with h | h
      · contradiction
      · exact h
    have hle := Nat.le_trans (cntI_le (k := k)) (nmd_len (ns := nodes.take j) (leaf := leaf) (fun n hn => h4' n (List.mem_of_mem_take hn)))
    rw [List.length_take] at hle
    have hof : isOf leaf (nth nodes j) = true := by simp_all [isOf]
    rw [hof, if_pos rfl] at hs
    rw [hs]
    refine lp_up hT 4 (fun i => [.ptr id 0, .bool leaf, .int .i64 k, .any, .any, .any, .any, .int .i64 ((cntI k (nmd (nodes.take j) leaf) + cntI k ((nth nodes j).kids.take i) : Nat) : Int), .int .i64 (j : Int), .int .i64 (i : Int), .any, .any, .any, .any, .any, .any, .any, .any, .any, .any, .any, .any, .any, .any, .any, .any, .any, .any, .any, .any, .any, .any, .any, .any, .any, .any, .any, .any, .any, .any, .any, .any, .any, .any, .any, .any, .any, .any, .any, .any, .any, .any, .any, .any, .any, .any, .any, .any, .any, .any]) (fun j => H) (fun _ => True) (by kernel_rfl) trivial ?_ (fun i hi _ => ?_) (fun hV => ?_)
    · exact wk_any rfl (by simp only [anyL_nil, anyL_any, anyL_same, anyL_int, anyL_bool, and_true, true_and]; exact ⟨rfl, rfl⟩)
    · have hi' : i < (nth nodes j).kids.length := by omega
      have hc := cntI_succ (k := k) hi'
      have hci := cntI_le (k := k) (xs := (nth nodes j).kids.take i)
      rw [List.length_take] at hci
      simp only [TT, RS, flagOf, gslot, aop, ev, cv, putA, pickAV, if_false, if_true, Nat.reduceAdd, Nat.reduceSub, true_implies, reduceCtorEq, false_implies, implies_true, retAll, retOne, oneOf, cond_true, cond_false, rd, wr, joinT, splice, lay, layRows, abuiltin, abPure, abMem, szv, asNat, loOf, aslice, kindOf, szOf, Nat.reduceLeDiff, Nat.reduceLT, Nat.reduceMul, Nat.reduceEqDiff, ne_eq, Int.reduceLT, Int.reduceLE, Int.reduceEq, hb.get, hns.get, hns.len, hns.szk, List.length_map, getD_nth hj, getD_nth hi', eNode, eInt]
      repeat' (first | (with_reducible refine wk_any rfl ?_) | (with_reducible refine wk_same ?_) | ((with_reducible refine wk_drop ?_ ?_); rotate_left; rfl) | (with_reducible refine And.intro ?_ ?_) | (with_reducible intro _) | ((with_reducible first | refine br_of ?_ ?_ | refine guB_ofT ?_ ?_ | refine guB_ofF ?_ ?_ | refine guD_ofT ?_ ?_ | refine guD_ofF ?_ ?_) <;> intro hb_ <;> (try simp only [decide_eq_true_eq, decide_eq_false_iff_not, Bool.not_true, Bool.not_false, Bool.not_eq_eq_eq_not, cond_true, cond_false] at hb_) <;> (try (exact absurd hb_ (by omega))) <;> (try simp only [TT, RS, flagOf, gslot, aop, ev, cv, putA, pickAV, if_false, if_true, Nat.reduceAdd, Nat.reduceSub, true_implies, reduceCtorEq, false_implies, implies_true, retAll, retOne, oneOf, cond_true, cond_false, rd, wr, joinT, splice, lay, layRows, abuiltin, abPure, abMem, szv, asNat, loOf, aslice, kindOf, szOf, Nat.reduceLeDiff, Nat.reduceLT, Nat.reduceMul, Nat.reduceEqDiff, ne_eq, Int.reduceLT, Int.reduceLE, Int.reduceEq, hb.get, hns.get, hns.len, hns.szk, List.length_map, getD_nth hj, getD_nth hi', eNode, eInt])))
      all_goals first
        | omega
        | (simp only [anyL_nil, anyL_any, anyL_same, anyL_int, anyL_bool, and_true, true_and]; rw [hc]; simp only [hb_, if_true, if_false, Nat.add_zero]; first | exact wrap_succ (by omega) | (refine ⟨?_, ?_⟩ <;> first | rfl | exact wrap_succ (by omega)))
        | (simp only [anyL_nil, anyL_any, anyL_same, anyL_int, anyL_bool, and_true, true_and]; rw [hc, if_neg hb_]; first | exact ⟨rfl, wrap_succ (by omega)⟩ | exact wrap_succ (by omega))
    · have ht : (nth nodes j).kids.take 4 = (nth nodes j).kids := by rw [← h44, List.take_length]
      simp only [TT, RS, flagOf, gslot, aop, ev, cv, putA, pickAV, if_false, if_true, Nat.reduceAdd, Nat.reduceSub, true_implies, reduceCtorEq, false_implies, implies_true, retAll, retOne, oneOf, cond_true, cond_false, rd, wr, joinT, splice, lay, layRows, abuiltin, abPure, abMem, szv, asNat, loOf, aslice, kindOf, szOf, Nat.reduceLeDiff, Nat.reduceLT, Nat.reduceMul, Nat.reduceEqDiff, ne_eq, Int.reduceLT, Int.reduceLE, Int.reduceEq]
      repeat' (first | (with_reducible refine wk_any rfl ?_) | (with_reducible refine wk_same ?_) | ((with_reducible refine wk_drop ?_ ?_); rotate_left; rfl) | (with_reducible refine And.intro ?_ ?_) | (with_reducible intro _) | ((with_reducible first | refine br_of ?_ ?_ | refine guB_ofT ?_ ?_ | refine guB_ofF ?_ ?_ | refine guD_ofT ?_ ?_ | refine guD_ofF ?_ ?_) <;> intro hb_ <;> (try simp only [decide_eq_true_eq, decide_eq_false_iff_not, Bool.not_true, Bool.not_false, Bool.not_eq_eq_eq_not, cond_true, cond_false] at hb_) <;> (try (exact absurd hb_ (by omega))) <;> (try simp only [TT, RS, flagOf, gslot, aop, ev, cv, putA, pickAV, if_false, if_true, Nat.reduceAdd, Nat.reduceSub, true_implies, reduceCtorEq, false_implies, implies_true, retAll, retOne, oneOf, cond_true, cond_false, rd, wr, joinT, splice, lay, layRows, abuiltin, abPure, abMem, szv, asNat, loOf, aslice, kindOf, szOf, Nat.reduceLeDiff, Nat.reduceLT, Nat.reduceMul, Nat.reduceEqDiff, ne_eq, Int.reduceLT, Int.reduceLE, Int.reduceEq])))
      all_goals first | omega | (simp only [anyL_nil, anyL_any, anyL_same, anyL_int, anyL_bool, and_true, true_and]; rw [ht, cntI_app]; exact ⟨rfl, wrap_succ (by omega)⟩)
  · simp only [TT, RS, flagOf, gslot, aop, ev, cv, putA, pickAV, if_false, if_true, Nat.reduceAdd, Nat.reduceSub, true_implies, reduceCtorEq, false_implies, implies_true, retAll, retOne, oneOf, cond_true, cond_false, rd, wr, joinT, splice, lay, layRows, abuiltin, abPure, abMem, szv, asNat, loOf, aslice, kindOf, szOf, Nat.reduceLeDiff, Nat.reduceLT, Nat.reduceMul, Nat.reduceEqDiff, ne_eq, Int.reduceLT, Int.reduceLE, Int.reduceEq, hb.get, hns.len, List.length_map]
    repeat' (first | (with_reducible refine wk_same ?_) | ((with_reducible refine wk_drop ?_ ?_); rotate_left; rfl) | (with_reducible refine And.intro ?_ ?_) | (with_reducible intro _) | ((with_reducible first | refine br_of ?_ ?_ | refine guB_ofT ?_ ?_ | refine guB_ofF ?_ ?_ | refine guD_ofT ?_ ?_ | refine guD_ofF ?_ ?_) <;> intro hb_ <;> (try simp only [decide_eq_true_eq, decide_eq_false_iff_not, Bool.not_true, Bool.not_false, Bool.not_eq_eq_eq_not, cond_true, cond_false] at hb_) <;> (try (exact absurd hb_ (by omega))) <;> (try simp only [TT, RS, flagOf, gslot, aop, ev, cv, putA, pickAV, if_false, if_true, Nat.reduceAdd, Nat.reduceSub, true_implies, reduceCtorEq, false_implies, implies_true, retAll, retOne, oneOf, cond_true, cond_false, rd, wr, joinT, splice, lay, layRows, abuiltin, abPure, abMem, szv, asNat, loOf, aslice, kindOf, szOf, Nat.reduceLeDiff, Nat.reduceLT, Nat.reduceMul, Nat.reduceEqDiff, ne_eq, Int.reduceLT, Int.reduceLE, Int.reduceEq, hb.get, hns.len, List.length_map])))
    all_goals first | omega | (rw [List.take_length]; done)
end Go.Proofs.Ytkecenijjdpfdaa.AL
