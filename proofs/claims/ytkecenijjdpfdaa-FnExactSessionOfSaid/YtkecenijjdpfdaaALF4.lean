/-
  The program's count of how often places are named.
-/
import Derived.Test.YtkecenijjdpfdaaALF3
namespace Go.Proofs.Ytkecenijjdpfdaa.AL
open Go Go.Proofs.Ytkecenijjdpfdaa
set_option linter.unusedVariables false
set_option linter.unusedSimpArgs false
set_option maxRecDepth 100000
set_option maxHeartbeats 2000000

/-- How often each of so many places is named. -/
def ctl (many : Nat) (l : List Int) : List Int := (List.range many).map fun i : Nat => ((cntI (i : Int) l : Nat) : Int)
theorem ctl_len {many : Nat} {l : List Int} : (ctl many l).length = many := by simp [ctl]
theorem ctl_nth {many i : Nat} {l : List Int} (h : i < many) : nth (ctl many l) i = ((cntI (i : Int) l : Nat) : Int) := by
  rw [nth_eq (by rw [ctl_len]; exact h)]; simp [ctl]
theorem ctl_nil {many : Nat} : ctl many [] = List.replicate many 0 := by
  apply List.ext_getElem (by simp [ctl])
  intro i h1 h2
  simp [ctl, cntI, cnt]
theorem cntI_one {a k : Int} {l : List Int} : cntI a (l ++ [k]) = cntI a l + if k = a then 1 else 0 := by
  rw [cntI_app]
  congr 1
  by_cases h : k = a <;> simp [cntI, cnt, h]
theorem ctl_neg {many : Nat} {l : List Int} {k : Int} (h : k < 0) : ctl many (l ++ [k]) = ctl many l := by
  unfold ctl
  refine List.map_congr_left fun i _ => ?_
  rw [cntI_one, if_neg (by omega)]
  rfl
theorem ctl_set {many : Nat} {l : List Int} {k : Nat} (h : k < many) : (ctl many l).set k (nth (ctl many l) k + 1) = ctl many (l ++ [(k : Int)]) := by
  apply List.ext_getElem (by simp [ctl])
  intro i h1 h2
  have hi : i < many := by simpa [ctl] using h2
  rw [List.getElem_set]
  by_cases e : k = i
  · subst e
    rw [if_pos rfl, ctl_nth h]
    simp only [ctl, List.getElem_map, List.getElem_range]
    rw [cntI_one, if_pos rfl]
    omega
  · rw [if_neg e]
    simp only [ctl, List.getElem_map, List.getElem_range]
    rw [cntI_one, if_neg (by omega)]
    rfl
theorem sub_at {H A : Heap} (k : Nat) {b : Blk} (hb : IdsB (· < (H ++ A).length) b) : Sub (H ++ A.set k (some b)) (H ++ A) := by
  have := sub_set (id := H.length + k) (b := b) (sub_refl (H := H ++ A)) hb
  rwa [hsetS] at this
theorem wkb_0a {H A0 A L : Heap} {t t' : List AV} (hs : Sub (H ++ A) (H ++ A0)) (ht : SlKs (H ++ A0).length [] t t') : Wk (H ++ A0) t (H ++ (A ++ L)) t' (H ++ A) := by
  rw [← List.append_assoc]; exact wkb_0 hs ht
theorem I_named (ns bs : AV) (nodes : List GNode) (leaf : Bool) (many : Nat) (H : Heap) (hns : Sl H ns 3 (nodes.map eNode)) (hbs : isCell bs = true) (hm : nodes.length ≤ 1048576) (hmany : many ≤ 1048576) (h4 : ∀ n ∈ nodes, n.kids.length ≤ 4)
    (hk : ∀ j, j < nodes.length → isOf leaf (nth nodes j) = true → ∀ i, i < (nth nodes j).kids.length → nth (nth nodes j).kids i < (many : Int)) :
    ADet Try.prog 233 [.agg [ns, bs], .bool leaf, .int .i64 (many : Int)] H (.fro 1 ((ctl many (nmd nodes leaf)).map eInt)) H := by
  refine adet_run hT (fun _ => false) Try.func233 rfl (by kernel_rfl) (by kernel_rfl) ?_
  simp only [TT, RS, flagOf, gslot, aop, ev, cv, putA, pickAV, if_false, if_true, Nat.reduceAdd, Nat.reduceSub, true_implies, reduceCtorEq, false_implies, implies_true, retAll, retOne, oneOf, cond_true, cond_false, rd, wr, joinT, splice, lay, layRows, abuiltin, abPure, abMem, szv, asNat, loOf, aslice, kindOf, szOf, Nat.reduceLeDiff, Nat.reduceLT, Nat.reduceMul, Nat.reduceEqDiff, ne_eq, Int.reduceLT, Int.reduceLE, Int.reduceEq, Try.ntmps233, Try.results233, hns.isc, hns.cel, hns.nan, hbs, cel_of hbs, nan_of hbs, hns.get, hns.app, hns.len, hns.szk, List.length_map]
  repeat' (first | (with_reducible refine wk_same ?_) | ((with_reducible refine wk_drop ?_ ?_); rotate_left; rfl) | (with_reducible refine And.intro ?_ ?_) | (with_reducible intro _) | ((with_reducible first | refine br_of ?_ ?_ | refine guB_ofT ?_ ?_ | refine guB_ofF ?_ ?_ | refine guD_ofT ?_ ?_ | refine guD_ofF ?_ ?_) <;> intro hb_ <;> (try simp only [decide_eq_true_eq, decide_eq_false_iff_not, Bool.not_true, Bool.not_false, Bool.not_eq_eq_eq_not, cond_true, cond_false] at hb_) <;> (try (exact absurd hb_ (by omega))) <;> (try simp only [TT, RS, flagOf, gslot, aop, ev, cv, putA, pickAV, if_false, if_true, Nat.reduceAdd, Nat.reduceSub, true_implies, reduceCtorEq, false_implies, implies_true, retAll, retOne, oneOf, cond_true, cond_false, rd, wr, joinT, splice, lay, layRows, abuiltin, abPure, abMem, szv, asNat, loOf, aslice, kindOf, szOf, Nat.reduceLeDiff, Nat.reduceLT, Nat.reduceMul, Nat.reduceEqDiff, ne_eq, Int.reduceLT, Int.reduceLE, Int.reduceEq, hns.isc, hns.cel, hns.nan, hbs, cel_of hbs, nan_of hbs, hns.get, hns.app, hns.len, hns.szk, List.length_map])))
  all_goals first | omega | skip
  have hbase : ∀ l, Sub (H ++ [some (.box [ns, bs]), some (.arr 1 ((ctl many l).map eInt))]) (H ++ [some (.box [ns, bs]), some (.arr 1 (List.replicate many [.int .i64 0]))]) := fun l => sub_at (A := [some (.box [ns, bs]), some (.arr 1 (List.replicate many [.int .i64 0]))]) 1 flat_int.ids
  refine lp_up hT nodes.length (fun j => [.any, .bool leaf, .any, .ptr H.length 0, .any, .any, .any, .own (H.length + 1) 1 0 many many, .any, .any, .any, .any, .any, .any, .any, ns, .int .i64 (nodes.length : Int), .int .i64 (j : Int), .any, .any, .any, .any, .any, .any, .any, .any, .any, .any, .any, .any, .any, .any, .any, .any, .any, .any, .any, .any, .any, .any, .any, .any, .any, .any, .any, .any, .any, .any]) (fun j => H ++ [some (.box [ns, bs]), some (.arr 1 ((ctl many (nmd (nodes.take j) leaf)).map eInt))]) (fun _ => True) (by kernel_rfl) trivial ?_ (fun j hj _ => ?_) (fun hV => ?_)
  · refine wk_any ?_ (by simp only [anyL_nil, anyL_any, anyL_same, anyL_int, anyL_bool, and_true, true_and]; trivial)
    have : (ctl many (nmd (nodes.take 0) leaf)).map eInt = List.replicate many [AV.int .i64 0] := by
      rw [show nmd (nodes.take 0) leaf = [] from rfl, ctl_nil, List.map_replicate]
    rw [this]
  · have hs := nmd_succ (leaf := leaf) hj
    have hle := nmd_len (ns := nodes.take j) (leaf := leaf) (fun n hn => h4 n (List.mem_of_mem_take hn))
    rw [List.length_take] at hle
    simp only [TT, RS, flagOf, gslot, aop, ev, cv, putA, pickAV, if_false, if_true, Nat.reduceAdd, Nat.reduceSub, true_implies, reduceCtorEq, false_implies, implies_true, retAll, retOne, oneOf, cond_true, cond_false, rd, wr, joinT, splice, lay, layRows, abuiltin, abPure, abMem, szv, asNat, loOf, aslice, kindOf, szOf, Nat.reduceLeDiff, Nat.reduceLT, Nat.reduceMul, Nat.reduceEqDiff, ne_eq, Int.reduceLT, Int.reduceLE, Int.reduceEq, hns.get, hns.app, hns.len, hns.szk, List.length_map, getD_nth hj, eNode]
    repeat' (first | (with_reducible refine wk_same ?_) | ((with_reducible refine wk_drop ?_ ?_); rotate_left; rfl) | (with_reducible refine And.intro ?_ ?_) | (with_reducible intro _) | ((with_reducible first | refine br_of ?_ ?_ | refine guB_ofT ?_ ?_ | refine guB_ofF ?_ ?_ | refine guD_ofT ?_ ?_ | refine guD_ofF ?_ ?_) <;> intro hb_ <;> (try simp only [decide_eq_true_eq, decide_eq_false_iff_not, Bool.not_true, Bool.not_false, Bool.not_eq_eq_eq_not, cond_true, cond_false] at hb_) <;> (try (exact absurd hb_ (by omega))) <;> (try simp only [TT, RS, flagOf, gslot, aop, ev, cv, putA, pickAV, if_false, if_true, Nat.reduceAdd, Nat.reduceSub, true_implies, reduceCtorEq, false_implies, implies_true, retAll, retOne, oneOf, cond_true, cond_false, rd, wr, joinT, splice, lay, layRows, abuiltin, abPure, abMem, szv, asNat, loOf, aslice, kindOf, szOf, Nat.reduceLeDiff, Nat.reduceLT, Nat.reduceMul, Nat.reduceEqDiff, ne_eq, Int.reduceLT, Int.reduceLE, Int.reduceEq, hns.get, hns.app, hns.len, hns.szk, List.length_map, getD_nth hj, eNode])))
    all_goals first
      | omega
      | (rw [hs]
         simp only [isOf, hb_, decide_true, decide_false, Bool.not_true, Bool.not_false, Bool.false_and, Bool.true_and, Bool.and_false, Bool.false_eq_true, if_false, List.append_nil]
         refine wkb_0a (hbase _) ?_
         have hjb : j ≤ 9223372036854775806 := by omega
         simp only [slKs_cons, slKs_nil, slK_any, slK_int, slK_bool, slK_old, lt_ptr, lt_own, lt_new0, (hns.flt flat_node).app _, and_true, true_and, wrap_succ hjb, List.length_append, List.length_cons, List.length_nil, Nat.zero_add, Nat.reduceAdd, Nat.lt_add_left_iff_pos, Nat.lt_add_right_iff_pos, Nat.add_lt_add_iff_left, Nat.reduceLT]
         exact .inr (.inl ⟨rfl, (hns.flt flat_node).le (by omega)⟩))
      | skip
    have hof : isOf leaf (nth nodes j) = true := by simp_all [isOf]
    rw [hof, if_pos rfl] at hs
    rw [hs]
    have hkj := hk j hj hof
    have hkl : (nth nodes j).kids.length ≤ 4 := by rw [nth_eq hj]; exact h4 _ (List.getElem_mem hj)
    refine lp_up hT (nth nodes j).kids.length (fun i => [.any, .bool leaf, .any, .ptr H.length 0, .any, .any, .any, .own (H.length + 1) 1 0 many many, .any, .ptr (H.length + 2) 0, .any, .any, .any, .any, .any, ns, .int .i64 (nodes.length : Int), .int .i64 (j : Int), .any, .any, .any, .any, .any, .any, .any, .any, .any, .any, .any, .any, .any, .fro 1 ((nth nodes j).kids.map eInt), .int .i64 ((nth nodes j).kids.length : Int), .int .i64 (i : Int), .any, .any, .any, .any, .any, .any, .any, .any, .any, .any, .any, .any, .any, .any])
      (fun i => H ++ [some (.box [ns, bs]), some (.arr 1 ((ctl many (nmd (nodes.take j) leaf ++ (nth nodes j).kids.take i)).map eInt)), some (.box [.int .i64 (nth nodes j).refs, .bool (nth nodes j).leaf, .fro 1 ((nth nodes j).kids.map eInt)])]) (fun _ => True) (by kernel_rfl) trivial ?_ (fun i hi _ => ?_) (fun hV => ?_)
    · exact wk_any (by rw [List.take_zero, List.append_nil]) (by simp only [anyL_nil, anyL_any, anyL_same, anyL_int, anyL_bool, and_true, true_and]; trivial)
    · have hki := hkj i hi
      have ht : (nth nodes j).kids.take (i + 1) = (nth nodes j).kids.take i ++ [nth (nth nodes j).kids i] := by rw [nth_eq hi, List.take_succ_eq_append_getElem hi]
      rw [ht, ← List.append_assoc]
      have hlen : (nmd (nodes.take j) leaf ++ (nth nodes j).kids.take i).length ≤ 9000000 := by rw [List.length_append, List.length_take]; omega
      generalize nmd (nodes.take j) leaf ++ (nth nodes j).kids.take i = l at hlen ⊢
      generalize hkk : nth (nth nodes j).kids i = k at hki ⊢
      rcases Int.lt_or_le k 0 with hneg | hpos
      · rw [ctl_neg hneg]
        simp only [TT, RS, flagOf, gslot, aop, ev, cv, putA, pickAV, if_false, if_true, Nat.reduceAdd, Nat.reduceSub, true_implies, reduceCtorEq, false_implies, implies_true, retAll, retOne, oneOf, cond_true, cond_false, rd, wr, joinT, splice, lay, layRows, abuiltin, abPure, abMem, szv, asNat, loOf, aslice, kindOf, szOf, Nat.reduceLeDiff, Nat.reduceLT, Nat.reduceMul, Nat.reduceEqDiff, ne_eq, Int.reduceLT, Int.reduceLE, Int.reduceEq, hns.get, hns.app, hns.len, hns.szk, List.length_map, getD_nth hj, getD_nth hi, hkk, eNode, eInt]
        repeat' (first | (with_reducible refine wk_any rfl ?_) | (with_reducible refine wk_same ?_) | ((with_reducible refine wk_drop ?_ ?_); rotate_left; rfl) | (with_reducible refine And.intro ?_ ?_) | (with_reducible intro _) | ((with_reducible first | refine br_of ?_ ?_ | refine guB_ofT ?_ ?_ | refine guB_ofF ?_ ?_ | refine guD_ofT ?_ ?_ | refine guD_ofF ?_ ?_) <;> intro hb_ <;> (try simp only [decide_eq_true_eq, decide_eq_false_iff_not, Bool.not_true, Bool.not_false, Bool.not_eq_eq_eq_not, cond_true, cond_false] at hb_) <;> (try (exact absurd hb_ (by omega))) <;> (try simp only [TT, RS, flagOf, gslot, aop, ev, cv, putA, pickAV, if_false, if_true, Nat.reduceAdd, Nat.reduceSub, true_implies, reduceCtorEq, false_implies, implies_true, retAll, retOne, oneOf, cond_true, cond_false, rd, wr, joinT, splice, lay, layRows, abuiltin, abPure, abMem, szv, asNat, loOf, aslice, kindOf, szOf, Nat.reduceLeDiff, Nat.reduceLT, Nat.reduceMul, Nat.reduceEqDiff, ne_eq, Int.reduceLT, Int.reduceLE, Int.reduceEq, hns.get, hns.app, hns.len, hns.szk, List.length_map, getD_nth hj, getD_nth hi, hkk, eNode, eInt])))
        all_goals first | omega | (simp only [anyL_nil, anyL_any, anyL_same, anyL_int, anyL_bool, and_true, true_and]; exact wrap_succ (by omega))
      · obtain ⟨m, rfl⟩ := Int.eq_ofNat_of_zero_le hpos
        have hm' : m < many := by omega
        have hv : nth (ctl many l) m ≤ 9000000 ∧ 0 ≤ nth (ctl many l) m := by rw [ctl_nth hm']; have := cntI_le (k := (m : Int)) (xs := l); omega
        have hw : IntKind.i64.wrap (nth (ctl many l) m + 1) = nth (ctl many l) m + 1 := wrap_in (by omega) (by omega)
        simp only [TT, RS, flagOf, gslot, aop, ev, cv, putA, pickAV, if_false, if_true, Nat.reduceAdd, Nat.reduceSub, true_implies, reduceCtorEq, false_implies, implies_true, retAll, retOne, oneOf, cond_true, cond_false, rd, wr, joinT, splice, lay, layRows, abuiltin, abPure, abMem, szv, asNat, loOf, aslice, kindOf, szOf, Nat.reduceLeDiff, Nat.reduceLT, Nat.reduceMul, Nat.reduceEqDiff, ne_eq, Int.reduceLT, Int.reduceLE, Int.reduceEq, hns.get, hns.app, hns.len, hns.szk, List.length_map, getD_nth hj, getD_nth hi, hkk, eNode, eInt, ctl_len, Nat.le_refl, getD_take hm', getD_nth (xs := ctl many l) (j := m) (by rw [ctl_len]; exact hm'), hw]
        repeat' (first | (with_reducible refine wk_same ?_) | ((with_reducible refine wk_drop ?_ ?_); rotate_left; rfl) | (with_reducible refine And.intro ?_ ?_) | (with_reducible intro _) | ((with_reducible first | refine br_of ?_ ?_ | refine guB_ofT ?_ ?_ | refine guB_ofF ?_ ?_ | refine guD_ofT ?_ ?_ | refine guD_ofF ?_ ?_) <;> intro hb_ <;> (try simp only [decide_eq_true_eq, decide_eq_false_iff_not, Bool.not_true, Bool.not_false, Bool.not_eq_eq_eq_not, cond_true, cond_false] at hb_) <;> (try (exact absurd hb_ (by omega))) <;> (try simp only [TT, RS, flagOf, gslot, aop, ev, cv, putA, pickAV, if_false, if_true, Nat.reduceAdd, Nat.reduceSub, true_implies, reduceCtorEq, false_implies, implies_true, retAll, retOne, oneOf, cond_true, cond_false, rd, wr, joinT, splice, lay, layRows, abuiltin, abPure, abMem, szv, asNat, loOf, aslice, kindOf, szOf, Nat.reduceLeDiff, Nat.reduceLT, Nat.reduceMul, Nat.reduceEqDiff, ne_eq, Int.reduceLT, Int.reduceLE, Int.reduceEq, hns.get, hns.app, hns.len, hns.szk, List.length_map, getD_nth hj, getD_nth hi, hkk, eNode, eInt, ctl_len, Nat.le_refl, getD_take hm', getD_nth (xs := ctl many l) (j := m) (by rw [ctl_len]; exact hm'), hw])))
        all_goals first | omega | skip
        refine wk_any (congrArg (fun r => H ++ [some (Blk.box [ns, bs]), some (Blk.arr 1 r), some (Blk.box [.int .i64 (nth nodes j).refs, .bool (nth nodes j).leaf, .fro 1 ((nth nodes j).kids.map eInt)])]) ?_) (by simp only [anyL_nil, anyL_any, anyL_same, anyL_int, anyL_bool, and_true, true_and]; exact wrap_succ (by omega))
        rw [← ctl_set hm', List.map_set]
    · rw [List.take_length]
      simp only [TT, RS, flagOf, gslot, aop, ev, cv, putA, pickAV, if_false, if_true, Nat.reduceAdd, Nat.reduceSub, true_implies, reduceCtorEq, false_implies, implies_true, retAll, retOne, oneOf, cond_true, cond_false, rd, wr, joinT, splice, lay, layRows, abuiltin, abPure, abMem, szv, asNat, loOf, aslice, kindOf, szOf, Nat.reduceLeDiff, Nat.reduceLT, Nat.reduceMul, Nat.reduceEqDiff, ne_eq, Int.reduceLT, Int.reduceLE, Int.reduceEq, List.length_map]
      repeat' (first | (with_reducible refine wk_same ?_) | ((with_reducible refine wk_drop ?_ ?_); rotate_left; rfl) | (with_reducible refine And.intro ?_ ?_) | (with_reducible intro _) | ((with_reducible first | refine br_of ?_ ?_ | refine guB_ofT ?_ ?_ | refine guB_ofF ?_ ?_ | refine guD_ofT ?_ ?_ | refine guD_ofF ?_ ?_) <;> intro hb_ <;> (try simp only [decide_eq_true_eq, decide_eq_false_iff_not, Bool.not_true, Bool.not_false, Bool.not_eq_eq_eq_not, cond_true, cond_false] at hb_) <;> (try (exact absurd hb_ (by omega))) <;> (try simp only [TT, RS, flagOf, gslot, aop, ev, cv, putA, pickAV, if_false, if_true, Nat.reduceAdd, Nat.reduceSub, true_implies, reduceCtorEq, false_implies, implies_true, retAll, retOne, oneOf, cond_true, cond_false, rd, wr, joinT, splice, lay, layRows, abuiltin, abPure, abMem, szv, asNat, loOf, aslice, kindOf, szOf, Nat.reduceLeDiff, Nat.reduceLT, Nat.reduceMul, Nat.reduceEqDiff, ne_eq, Int.reduceLT, Int.reduceLE, Int.reduceEq, List.length_map])))
      refine wkb_0a (hbase _) ?_
      have hjb : j ≤ 9223372036854775806 := by omega
      simp only [slKs_cons, slKs_nil, slK_any, slK_int, slK_bool, slK_old, lt_ptr, lt_own, lt_new0, (hns.flt flat_node).app _, and_true, true_and, wrap_succ hjb, List.length_append, List.length_cons, List.length_nil, Nat.zero_add, Nat.reduceAdd, Nat.lt_add_left_iff_pos, Nat.lt_add_right_iff_pos, Nat.add_lt_add_iff_left, Nat.reduceLT]
      exact .inr (.inl ⟨rfl, (hns.flt flat_node).le (by omega)⟩)
  · simp only [TT, RS, flagOf, gslot, aop, ev, cv, putA, pickAV, if_false, if_true, Nat.reduceAdd, Nat.reduceSub, true_implies, reduceCtorEq, false_implies, implies_true, retAll, retOne, oneOf, cond_true, cond_false, rd, wr, joinT, splice, lay, layRows, abuiltin, abPure, abMem, szv, asNat, loOf, aslice, kindOf, szOf, Nat.reduceLeDiff, Nat.reduceLT, Nat.reduceMul, Nat.reduceEqDiff, ne_eq, Int.reduceLT, Int.reduceLE, Int.reduceEq, List.take_length]
    repeat' (first | (with_reducible refine wk_same ?_) | ((with_reducible refine wk_drop ?_ ?_); rotate_left; rfl) | (with_reducible refine And.intro ?_ ?_) | (with_reducible intro _) | ((with_reducible first | refine br_of ?_ ?_ | refine guB_ofT ?_ ?_ | refine guB_ofF ?_ ?_ | refine guD_ofT ?_ ?_ | refine guD_ofF ?_ ?_) <;> intro hb_ <;> (try simp only [decide_eq_true_eq, decide_eq_false_iff_not, Bool.not_true, Bool.not_false, Bool.not_eq_eq_eq_not, cond_true, cond_false] at hb_) <;> (try (exact absurd hb_ (by omega))) <;> (try simp only [TT, RS, flagOf, gslot, aop, ev, cv, putA, pickAV, if_false, if_true, Nat.reduceAdd, Nat.reduceSub, true_implies, reduceCtorEq, false_implies, implies_true, retAll, retOne, oneOf, cond_true, cond_false, rd, wr, joinT, splice, lay, layRows, abuiltin, abPure, abMem, szv, asNat, loOf, aslice, kindOf, szOf, Nat.reduceLeDiff, Nat.reduceLT, Nat.reduceMul, Nat.reduceEqDiff, ne_eq, Int.reduceLT, Int.reduceLE, Int.reduceEq])))
    refine wk_fz ⟨?_, trivial⟩
    have := flat_int.fz (H := H) (L := [some (.box [ns, bs]), some (.arr 1 ((ctl many (nmd nodes leaf)).map eInt))]) (k := 1) (lc := many) (xs := ctl many (nmd nodes leaf)) rfl
    rwa [ctl_len] at this
end Go.Proofs.Ytkecenijjdpfdaa.AL
