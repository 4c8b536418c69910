/-
  Kids and blocks of a tree's places in a right forest; its walk's data.
-/
import Derived.Test.YtkecenijjdpfdaaALF8
namespace Go.Proofs.Ytkecenijjdpfdaa.AL
open Go Go.Proofs.Ytkecenijjdpfdaa
set_option linter.unusedVariables false
set_option linter.unusedSimpArgs false
set_option maxRecDepth 100000
set_option maxHeartbeats 2000000

structure FOk (f : GForest) : Prop where
  nl : f.nodes.length ≤ 60
  bl : f.blocks.length ≤ 24
  node : ∀ i, i < f.nodes.length → nodeF f (nth f.nodes i) = 0
theorem fok {f : GForest} (h : forestF f = 0) : FOk f := by
  unfold forestF at h
  split at h
  · contradiction
  split at h
  · cases h
  split at h
  · contradiction
  rename_i h1 h2 h3
  refine ⟨by omega, ?_, fnz_zero (Decidable.not_not.1 h3)⟩
  have h4 := Decidable.not_not.1 h1
  unfold blocksF at h4
  split at h4
  · cases h4
  · omega
/-- A place's kid, or -1. -/
def kidAt (f : GForest) (n : Int) (c : Nat) : Int := if n = -1 then -1 else nth (nth f.nodes n.toNat).kids c
def blkAt (f : GForest) (r : Int) (a : Nat) : Int := kidAt f (kidAt f r (a / 4)) (a % 4)
def walkB (f : GForest) (r : Int) (a : Nat) : List Int := if blkAt f r a = -1 then [] else [(a : Int), (nth f.blocks (blkAt f r a).toNat).data]
def walkA (f : GForest) (r : Int) (n : Nat) : List Int := (List.range n).flatMap (walkB f r)
def walkL (f : GForest) (r : Int) : List Int := walkA f r 16
theorem walkA_succ {f : GForest} {r : Int} {n : Nat} : walkA f r (n + 1) = walkA f r n ++ walkB f r n := by simp [walkA, List.range_succ]
theorem walkB_len {f : GForest} {r : Int} {a : Nat} : (walkB f r a).length = if blkAt f r a = -1 then 0 else 2 := by unfold walkB; split <;> rfl
theorem walkA_len {f : GForest} {r : Int} {n : Nat} : (walkA f r n).length ≤ 2 * n := by
  induction n with
  | zero => simp [walkA]
  | succ n ih => rw [walkA_succ, List.length_append, walkB_len]; split <;> omega
/-- A node of a tree: -1, or a place that names four. -/
def NdOk (f : GForest) (n : Int) : Prop := n = -1 ∨ (0 ≤ n ∧ n < f.nodes.length ∧ (nth f.nodes n.toNat).kids.length = 4 ∧ (nth f.nodes n.toNat).refs > 0)
theorem node_kids {f : GForest} (h : FOk f) {i : Nat} (hi : i < f.nodes.length) (hr : (nth f.nodes i).refs ≠ 0) : (nth f.nodes i).kids.length = 4 ∧ ∀ c, c < 4 → kidOk f (nth f.nodes i).leaf (nth (nth f.nodes i).kids c) = true := by
  rcases nodeF_ok (h.node i hi) with h1 | h1
  · exact absurd h1.1 hr
  · refine ⟨h1.2.1, fun c hc => ?_⟩
    have h2 := List.any_eq_false.1 h1.2.2 (nth (nth f.nodes i).kids c) (by rw [nth_eq (xs := (nth f.nodes i).kids) (by omega)]; exact List.getElem_mem (by omega))
    simpa using h2
theorem root_nd {f : GForest} {r : Int} (h : FOk f) (hr : rootOk f r = true) : NdOk f r ∧ (r ≠ -1 → (nth f.nodes r.toNat).leaf = false) := by
  unfold rootOk at hr
  split at hr
  · rename_i e; exact ⟨.inl e, fun h => absurd e h⟩
  · rename_i e
    simp only [Bool.and_eq_true, decide_eq_true_eq, Bool.not_eq_true'] at hr
    obtain ⟨h1, h2, h3⟩ := hr
    have h1' := inR_iff.1 h1
    refine ⟨.inr ⟨h1'.1, by omega, (node_kids h (i := r.toNat) (by omega) (by omega)).1, h2⟩, fun _ => h3⟩
theorem leaf_nd {f : GForest} {r : Int} (h : FOk f) (hr : rootOk f r = true) {c : Nat} (hc : c < 4) : NdOk f (kidAt f r c) ∧ (kidAt f r c ≠ -1 → (nth f.nodes (kidAt f r c).toNat).leaf = true) := by
  obtain ⟨h1, h2⟩ := root_nd h hr
  unfold kidAt
  split
  · exact ⟨.inl rfl, fun h => absurd rfl h⟩
  · rename_i e
    rcases h1 with h1 | ⟨h3, h4, h5, h6⟩
    · exact absurd h1 e
    have hk := (node_kids h (i := r.toNat) (by omega) (by omega)).2 c hc
    rw [h2 e] at hk
    generalize nth (nth f.nodes r.toNat).kids c = k at hk ⊢
    unfold kidOk at hk
    split at hk
    · rename_i e2; exact ⟨.inl e2, fun h => absurd e2 h⟩
    · simp only [Bool.false_eq_true, if_false, Bool.and_eq_true, decide_eq_true_eq] at hk
      obtain ⟨h7, h8, h9⟩ := hk
      have h7' := inR_iff.1 h7
      exact ⟨.inr ⟨h7'.1, by omega, (node_kids h (i := k.toNat) (by omega) (by omega)).1, h8⟩, fun _ => h9⟩
theorem blk_in {f : GForest} {r : Int} (h : FOk f) (hr : rootOk f r = true) {a : Nat} (ha : a < 16) : blkAt f r a = -1 ∨ (0 ≤ blkAt f r a ∧ blkAt f r a < f.blocks.length ∧ (nth f.blocks (blkAt f r a).toNat).refs > 0) := by
  obtain ⟨h1, h2⟩ := leaf_nd h hr (c := a / 4) (by omega)
  unfold blkAt
  generalize kidAt f r (a / 4) = n at h1 h2 ⊢
  unfold kidAt
  split
  · exact .inl rfl
  · rename_i e
    rcases h1 with h1 | ⟨h3, h4, h5, h6⟩
    · exact absurd h1 e
    have hk := (node_kids h (i := n.toNat) (by omega) (by omega)).2 (a % 4) (by omega)
    rw [h2 e] at hk
    generalize nth (nth f.nodes n.toNat).kids (a % 4) = k at hk ⊢
    unfold kidOk at hk
    split at hk
    · rename_i e2; exact .inl e2
    · simp only [if_true, Bool.and_eq_true, decide_eq_true_eq] at hk
      obtain ⟨h7, h8⟩ := hk
      have h7' := inR_iff.1 h7
      exact .inr ⟨h7'.1, by omega, h8⟩
theorem quo4 {a : Nat} (ha : a < 16) : IntKind.i64.wrap ((a : Int).tdiv 4) = ((a / 4 : Nat) : Int) ∧ (a : Int).tmod 4 = ((a % 4 : Nat) : Int) := by
  have h1 : (a : Int).tdiv 4 = ((a / 4 : Nat) : Int) := (Int.ofNat_tdiv a 4).symm
  exact ⟨by rw [h1]; exact wrap_in (by omega) (by omega), (Int.ofNat_tmod a 4).symm⟩
theorem I_kid (id : Nat) (ns : AV) (rest : List AV) (f : GForest) (n : Int) (c : Nat) (H : Heap) (hb : Bx H id (ns :: rest)) (hns : Sl H ns 3 (f.nodes.map eNode)) (hn : NdOk f n) (hc : c < 4) :
    ADet Try.prog 353 [.ptr id 0, .int .i64 n, .int .i64 (c : Int)] H (.int .i64 (kidAt f n c)) H := by
  rcases hn with rfl | ⟨h3, h4, h5, h6⟩
  · refine adet_run hT (fun _ => false) Try.func353 rfl (by kernel_rfl) (by kernel_rfl) ?_
    simp only [TT, RS, flagOf, gslot, aop, ev, cv, putA, pickAV, if_false, if_true, Nat.reduceAdd, Nat.reduceSub, true_implies, reduceCtorEq, false_implies, implies_true, retAll, retOne, oneOf, cond_true, cond_false, rd, wr, joinT, splice, lay, layRows, abuiltin, abPure, abMem, szv, asNat, loOf, aslice, kindOf, szOf, Nat.reduceLeDiff, Nat.reduceLT, Nat.reduceMul, Nat.reduceEqDiff, ne_eq, Int.reduceLT, Int.reduceLE, Int.reduceEq, Try.ntmps353, Try.results353]
    repeat' (first | (with_reducible refine wk_same ?_) | ((with_reducible refine wk_drop ?_ ?_); rotate_left; rfl) | (with_reducible refine And.intro ?_ ?_) | (with_reducible intro _) | ((with_reducible first | refine br_of ?_ ?_ | refine guB_ofT ?_ ?_ | refine guB_ofF ?_ ?_ | refine guD_ofT ?_ ?_ | refine guD_ofF ?_ ?_) <;> intro hb_ <;> (try simp only [decide_eq_true_eq, decide_eq_false_iff_not, Bool.not_true, Bool.not_false, Bool.not_eq_eq_eq_not, cond_true, cond_false] at hb_) <;> (try (exact absurd hb_ (by omega))) <;> (try simp only [TT, RS, flagOf, gslot, aop, ev, cv, putA, pickAV, if_false, if_true, Nat.reduceAdd, Nat.reduceSub, true_implies, reduceCtorEq, false_implies, implies_true, retAll, retOne, oneOf, cond_true, cond_false, rd, wr, joinT, splice, lay, layRows, abuiltin, abPure, abMem, szv, asNat, loOf, aslice, kindOf, szOf, Nat.reduceLeDiff, Nat.reduceLT, Nat.reduceMul, Nat.reduceEqDiff, ne_eq, Int.reduceLT, Int.reduceLE, Int.reduceEq])))
    rfl
  · have hne : n ≠ -1 := by omega
    obtain ⟨m, rfl⟩ := Int.eq_ofNat_of_zero_le h3
    rw [Int.toNat_natCast] at h5 h6
    refine adet_run hT (fun _ => false) Try.func353 rfl (by kernel_rfl) (by kernel_rfl) ?_
    simp only [TT, RS, flagOf, gslot, aop, ev, cv, putA, pickAV, if_false, if_true, Nat.reduceAdd, Nat.reduceSub, true_implies, reduceCtorEq, false_implies, implies_true, retAll, retOne, oneOf, cond_true, cond_false, rd, wr, joinT, splice, lay, layRows, abuiltin, abPure, abMem, szv, asNat, loOf, aslice, kindOf, szOf, Nat.reduceLeDiff, Nat.reduceLT, Nat.reduceMul, Nat.reduceEqDiff, ne_eq, Int.reduceLT, Int.reduceLE, Int.reduceEq, Try.ntmps353, Try.results353, hb.get, hns.get, hns.len, hns.szk, List.length_map, getD_nth (xs := f.nodes) (j := m) (by omega), getD_nth (xs := (nth f.nodes m).kids) (j := c) (by omega), eNode, hne, h5]
    repeat' (first | (with_reducible refine wk_same ?_) | ((with_reducible refine wk_drop ?_ ?_); rotate_left; rfl) | (with_reducible refine And.intro ?_ ?_) | (with_reducible intro _) | ((with_reducible first | refine br_of ?_ ?_ | refine guB_ofT ?_ ?_ | refine guB_ofF ?_ ?_ | refine guD_ofT ?_ ?_ | refine guD_ofF ?_ ?_) <;> intro hb_ <;> (try simp only [decide_eq_true_eq, decide_eq_false_iff_not, Bool.not_true, Bool.not_false, Bool.not_eq_eq_eq_not, cond_true, cond_false] at hb_) <;> (try (exact absurd hb_ (by omega))) <;> (try simp only [TT, RS, flagOf, gslot, aop, ev, cv, putA, pickAV, if_false, if_true, Nat.reduceAdd, Nat.reduceSub, true_implies, reduceCtorEq, false_implies, implies_true, retAll, retOne, oneOf, cond_true, cond_false, rd, wr, joinT, splice, lay, layRows, abuiltin, abPure, abMem, szv, asNat, loOf, aslice, kindOf, szOf, Nat.reduceLeDiff, Nat.reduceLT, Nat.reduceMul, Nat.reduceEqDiff, ne_eq, Int.reduceLT, Int.reduceLE, Int.reduceEq, hb.get, hns.get, hns.len, hns.szk, List.length_map, getD_nth (xs := f.nodes) (j := m) (by omega), getD_nth (xs := (nth f.nodes m).kids) (j := c) (by omega), eNode, hne, h5])))
    all_goals first | omega | (simp only [kidAt, if_neg hne, Int.toNat_natCast]; done)
theorem I_block (id : Nat) (ns : AV) (rest : List AV) (f : GForest) (r : Int) (a : Nat) (H : Heap) (hb : Bx H id (ns :: rest)) (hns : Sl H ns 3 (f.nodes.map eNode)) (h : FOk f) (hr : rootOk f r = true) (ha : a < 16) :
    ADet Try.prog 325 [.ptr id 0, .int .i64 r, .int .i64 (a : Int)] H (.int .i64 (blkAt f r a)) H := by
  obtain ⟨q1, q2⟩ := quo4 ha
  refine adet_run hT (fun _ => false) Try.func325 rfl (by kernel_rfl) (by kernel_rfl) ?_
  simp only [TT, RS, flagOf, gslot, aop, ev, cv, putA, pickAV, if_false, if_true, Nat.reduceAdd, Nat.reduceSub, true_implies, reduceCtorEq, false_implies, implies_true, retAll, retOne, oneOf, cond_true, cond_false, rd, wr, joinT, splice, lay, layRows, abuiltin, abPure, abMem, szv, asNat, loOf, aslice, kindOf, szOf, Nat.reduceLeDiff, Nat.reduceLT, Nat.reduceMul, Nat.reduceEqDiff, ne_eq, Int.reduceLT, Int.reduceLE, Int.reduceEq, Try.ntmps325, Try.results325, q1, q2]
  repeat' (first | (with_reducible refine wk_same ?_) | ((with_reducible refine wk_drop ?_ ?_); rotate_left; rfl) | (with_reducible refine And.intro ?_ ?_) | (with_reducible intro _) | ((with_reducible first | refine br_of ?_ ?_ | refine guB_ofT ?_ ?_ | refine guB_ofF ?_ ?_ | refine guD_ofT ?_ ?_ | refine guD_ofF ?_ ?_) <;> intro hb_ <;> (try simp only [decide_eq_true_eq, decide_eq_false_iff_not, Bool.not_true, Bool.not_false, Bool.not_eq_eq_eq_not, cond_true, cond_false] at hb_) <;> (try (exact absurd hb_ (by omega))) <;> (try simp only [TT, RS, flagOf, gslot, aop, ev, cv, putA, pickAV, if_false, if_true, Nat.reduceAdd, Nat.reduceSub, true_implies, reduceCtorEq, false_implies, implies_true, retAll, retOne, oneOf, cond_true, cond_false, rd, wr, joinT, splice, lay, layRows, abuiltin, abPure, abMem, szv, asNat, loOf, aslice, kindOf, szOf, Nat.reduceLeDiff, Nat.reduceLT, Nat.reduceMul, Nat.reduceEqDiff, ne_eq, Int.reduceLT, Int.reduceLE, Int.reduceEq, q1, q2])) | ((with_reducible first | refine callA_of0 (I_kid id ns rest f r (a / 4) _ hb hns (root_nd h hr).1 (by omega)) ?_ | refine callD_of0 (I_kid id ns rest f r (a / 4) _ hb hns (root_nd h hr).1 (by omega)) ?_); simp only [TT, RS, flagOf, gslot, aop, ev, cv, putA, pickAV, if_false, if_true, Nat.reduceAdd, Nat.reduceSub, true_implies, reduceCtorEq, false_implies, implies_true, retAll, retOne, oneOf, cond_true, cond_false, rd, wr, joinT, splice, lay, layRows, abuiltin, abPure, abMem, szv, asNat, loOf, aslice, kindOf, szOf, Nat.reduceLeDiff, Nat.reduceLT, Nat.reduceMul, Nat.reduceEqDiff, ne_eq, Int.reduceLT, Int.reduceLE, Int.reduceEq, q1, q2]) | ((with_reducible first | refine callA_of0 (I_kid id ns rest f _ (a % 4) _ hb hns (leaf_nd h hr (by omega)).1 (by omega)) ?_ | refine callD_of0 (I_kid id ns rest f _ (a % 4) _ hb hns (leaf_nd h hr (by omega)).1 (by omega)) ?_); simp only [TT, RS, flagOf, gslot, aop, ev, cv, putA, pickAV, if_false, if_true, Nat.reduceAdd, Nat.reduceSub, true_implies, reduceCtorEq, false_implies, implies_true, retAll, retOne, oneOf, cond_true, cond_false, rd, wr, joinT, splice, lay, layRows, abuiltin, abPure, abMem, szv, asNat, loOf, aslice, kindOf, szOf, Nat.reduceLeDiff, Nat.reduceLT, Nat.reduceMul, Nat.reduceEqDiff, ne_eq, Int.reduceLT, Int.reduceLE, Int.reduceEq, q1, q2]))
  all_goals first | omega | rfl | decide
theorem S_l4Leaf (id : Nat) (ns : AV) (rest : List AV) (f : GForest) (r : Int) (a : Nat) (H : Heap) (hb : Bx H id (ns :: rest)) (hns : Sl H ns 3 (f.nodes.map eNode)) (hn : NdOk f r) (ha : a < 16) :
    ADet Try.prog 365 [.ptr id 0, .int .i64 r, .int .i64 (a : Int)] H (.int .i64 (kidAt f r (a / 4))) H := by
  obtain ⟨q1, q2⟩ := quo4 ha
  rcases hn with rfl | ⟨h3, h4, h5, h6⟩
  · refine adet_run hT (fun _ => false) Try.func365 rfl (by kernel_rfl) (by kernel_rfl) ?_
    simp only [TT, RS, flagOf, gslot, aop, ev, cv, putA, pickAV, if_false, if_true, Nat.reduceAdd, Nat.reduceSub, true_implies, reduceCtorEq, false_implies, implies_true, retAll, retOne, oneOf, cond_true, cond_false, rd, wr, joinT, splice, lay, layRows, abuiltin, abPure, abMem, szv, asNat, loOf, aslice, kindOf, szOf, Nat.reduceLeDiff, Nat.reduceLT, Nat.reduceMul, Nat.reduceEqDiff, ne_eq, Int.reduceLT, Int.reduceLE, Int.reduceEq, Try.ntmps365, Try.results365]
    repeat' (first | (with_reducible refine wk_same ?_) | ((with_reducible refine wk_drop ?_ ?_); rotate_left; rfl) | (with_reducible refine And.intro ?_ ?_) | (with_reducible intro _) | ((with_reducible first | refine br_of ?_ ?_ | refine guB_ofT ?_ ?_ | refine guB_ofF ?_ ?_ | refine guD_ofT ?_ ?_ | refine guD_ofF ?_ ?_) <;> intro hb_ <;> (try simp only [decide_eq_true_eq, decide_eq_false_iff_not, Bool.not_true, Bool.not_false, Bool.not_eq_eq_eq_not, cond_true, cond_false] at hb_) <;> (try (exact absurd hb_ (by omega))) <;> (try simp only [TT, RS, flagOf, gslot, aop, ev, cv, putA, pickAV, if_false, if_true, Nat.reduceAdd, Nat.reduceSub, true_implies, reduceCtorEq, false_implies, implies_true, retAll, retOne, oneOf, cond_true, cond_false, rd, wr, joinT, splice, lay, layRows, abuiltin, abPure, abMem, szv, asNat, loOf, aslice, kindOf, szOf, Nat.reduceLeDiff, Nat.reduceLT, Nat.reduceMul, Nat.reduceEqDiff, ne_eq, Int.reduceLT, Int.reduceLE, Int.reduceEq])))
    rfl
  · have hne : r ≠ -1 := by omega
    obtain ⟨m, rfl⟩ := Int.eq_ofNat_of_zero_le h3
    rw [Int.toNat_natCast] at h5 h6
    refine adet_run hT (fun _ => false) Try.func365 rfl (by kernel_rfl) (by kernel_rfl) ?_
    simp only [TT, RS, flagOf, gslot, aop, ev, cv, putA, pickAV, if_false, if_true, Nat.reduceAdd, Nat.reduceSub, true_implies, reduceCtorEq, false_implies, implies_true, retAll, retOne, oneOf, cond_true, cond_false, rd, wr, joinT, splice, lay, layRows, abuiltin, abPure, abMem, szv, asNat, loOf, aslice, kindOf, szOf, Nat.reduceLeDiff, Nat.reduceLT, Nat.reduceMul, Nat.reduceEqDiff, ne_eq, Int.reduceLT, Int.reduceLE, Int.reduceEq, Try.ntmps365, Try.results365, hb.get, hns.get, hns.len, hns.szk, List.length_map, getD_nth (xs := f.nodes) (j := m) (by omega), q1, getD_nth (xs := (nth f.nodes m).kids) (j := a / 4) (by omega), eNode, hne, h5]
    repeat' (first | (with_reducible refine wk_same ?_) | ((with_reducible refine wk_drop ?_ ?_); rotate_left; rfl) | (with_reducible refine And.intro ?_ ?_) | (with_reducible intro _) | ((with_reducible first | refine br_of ?_ ?_ | refine guB_ofT ?_ ?_ | refine guB_ofF ?_ ?_ | refine guD_ofT ?_ ?_ | refine guD_ofF ?_ ?_) <;> intro hb_ <;> (try simp only [decide_eq_true_eq, decide_eq_false_iff_not, Bool.not_true, Bool.not_false, Bool.not_eq_eq_eq_not, cond_true, cond_false] at hb_) <;> (try (exact absurd hb_ (by omega))) <;> (try simp only [TT, RS, flagOf, gslot, aop, ev, cv, putA, pickAV, if_false, if_true, Nat.reduceAdd, Nat.reduceSub, true_implies, reduceCtorEq, false_implies, implies_true, retAll, retOne, oneOf, cond_true, cond_false, rd, wr, joinT, splice, lay, layRows, abuiltin, abPure, abMem, szv, asNat, loOf, aslice, kindOf, szOf, Nat.reduceLeDiff, Nat.reduceLT, Nat.reduceMul, Nat.reduceEqDiff, ne_eq, Int.reduceLT, Int.reduceLE, Int.reduceEq, hb.get, hns.get, hns.len, hns.szk, List.length_map, getD_nth (xs := f.nodes) (j := m) (by omega), q1, getD_nth (xs := (nth f.nodes m).kids) (j := a / 4) (by omega), eNode, hne, h5])))
    all_goals first | omega | decide | (simp only [kidAt, if_neg hne, Int.toNat_natCast]; done)
theorem S_l4Block (id : Nat) (ns : AV) (rest : List AV) (f : GForest) (r : Int) (a : Nat) (H : Heap) (hb : Bx H id (ns :: rest)) (hns : Sl H ns 3 (f.nodes.map eNode)) (h : FOk f) (hr : rootOk f r = true) (ha : a < 16) :
    ADet Try.prog 352 [.ptr id 0, .int .i64 r, .int .i64 (a : Int)] H (.int .i64 (blkAt f r a)) H := by
  obtain ⟨q1, q2⟩ := quo4 ha
  have hl := (leaf_nd h hr (c := a / 4) (by omega)).1
  unfold blkAt
  rcases hl with hl | ⟨h3, h4, h5, h6⟩
  · refine adet_run hT (fun _ => false) Try.func352 rfl (by kernel_rfl) (by kernel_rfl) ?_
    simp only [TT, RS, flagOf, gslot, aop, ev, cv, putA, pickAV, if_false, if_true, Nat.reduceAdd, Nat.reduceSub, true_implies, reduceCtorEq, false_implies, implies_true, retAll, retOne, oneOf, cond_true, cond_false, rd, wr, joinT, splice, lay, layRows, abuiltin, abPure, abMem, szv, asNat, loOf, aslice, kindOf, szOf, Nat.reduceLeDiff, Nat.reduceLT, Nat.reduceMul, Nat.reduceEqDiff, ne_eq, Int.reduceLT, Int.reduceLE, Int.reduceEq, Try.ntmps352, Try.results352]
    refine callA_of0 (S_l4Leaf id ns rest f r a _ hb hns (root_nd h hr).1 ha) ?_
    rw [hl]
    simp only [TT, RS, flagOf, gslot, aop, ev, cv, putA, pickAV, if_false, if_true, Nat.reduceAdd, Nat.reduceSub, true_implies, reduceCtorEq, false_implies, implies_true, retAll, retOne, oneOf, cond_true, cond_false, rd, wr, joinT, splice, lay, layRows, abuiltin, abPure, abMem, szv, asNat, loOf, aslice, kindOf, szOf, Nat.reduceLeDiff, Nat.reduceLT, Nat.reduceMul, Nat.reduceEqDiff, ne_eq, Int.reduceLT, Int.reduceLE, Int.reduceEq]
    repeat' (first | (with_reducible refine wk_same ?_) | ((with_reducible refine wk_drop ?_ ?_); rotate_left; rfl) | (with_reducible refine And.intro ?_ ?_) | (with_reducible intro _) | ((with_reducible first | refine br_of ?_ ?_ | refine guB_ofT ?_ ?_ | refine guB_ofF ?_ ?_ | refine guD_ofT ?_ ?_ | refine guD_ofF ?_ ?_) <;> intro hb_ <;> (try simp only [decide_eq_true_eq, decide_eq_false_iff_not, Bool.not_true, Bool.not_false, Bool.not_eq_eq_eq_not, cond_true, cond_false] at hb_) <;> (try (exact absurd hb_ (by omega))) <;> (try simp only [TT, RS, flagOf, gslot, aop, ev, cv, putA, pickAV, if_false, if_true, Nat.reduceAdd, Nat.reduceSub, true_implies, reduceCtorEq, false_implies, implies_true, retAll, retOne, oneOf, cond_true, cond_false, rd, wr, joinT, splice, lay, layRows, abuiltin, abPure, abMem, szv, asNat, loOf, aslice, kindOf, szOf, Nat.reduceLeDiff, Nat.reduceLT, Nat.reduceMul, Nat.reduceEqDiff, ne_eq, Int.reduceLT, Int.reduceLE, Int.reduceEq])))
    rfl
  · have hne : kidAt f r (a / 4) ≠ -1 := by omega
    obtain ⟨m, hm⟩ := Int.eq_ofNat_of_zero_le h3
    rw [hm] at h4 h5 h6 hne ⊢
    rw [Int.toNat_natCast] at h5 h6
    refine adet_run hT (fun _ => false) Try.func352 rfl (by kernel_rfl) (by kernel_rfl) ?_
    simp only [TT, RS, flagOf, gslot, aop, ev, cv, putA, pickAV, if_false, if_true, Nat.reduceAdd, Nat.reduceSub, true_implies, reduceCtorEq, false_implies, implies_true, retAll, retOne, oneOf, cond_true, cond_false, rd, wr, joinT, splice, lay, layRows, abuiltin, abPure, abMem, szv, asNat, loOf, aslice, kindOf, szOf, Nat.reduceLeDiff, Nat.reduceLT, Nat.reduceMul, Nat.reduceEqDiff, ne_eq, Int.reduceLT, Int.reduceLE, Int.reduceEq, Try.ntmps352, Try.results352]
    refine callA_of0 (S_l4Leaf id ns rest f r a _ hb hns (root_nd h hr).1 ha) ?_
    rw [hm]
    simp only [TT, RS, flagOf, gslot, aop, ev, cv, putA, pickAV, if_false, if_true, Nat.reduceAdd, Nat.reduceSub, true_implies, reduceCtorEq, false_implies, implies_true, retAll, retOne, oneOf, cond_true, cond_false, rd, wr, joinT, splice, lay, layRows, abuiltin, abPure, abMem, szv, asNat, loOf, aslice, kindOf, szOf, Nat.reduceLeDiff, Nat.reduceLT, Nat.reduceMul, Nat.reduceEqDiff, ne_eq, Int.reduceLT, Int.reduceLE, Int.reduceEq, hb.get, hns.get, hns.len, hns.szk, List.length_map, getD_nth (xs := f.nodes) (j := m) (by omega), q2, getD_nth (xs := (nth f.nodes m).kids) (j := a % 4) (by omega), eNode, h5]
    repeat' (first | (with_reducible refine wk_same ?_) | ((with_reducible refine wk_drop ?_ ?_); rotate_left; rfl) | (with_reducible refine And.intro ?_ ?_) | (with_reducible intro _) | ((with_reducible first | refine br_of ?_ ?_ | refine guB_ofT ?_ ?_ | refine guB_ofF ?_ ?_ | refine guD_ofT ?_ ?_ | refine guD_ofF ?_ ?_) <;> intro hb_ <;> (try simp only [decide_eq_true_eq, decide_eq_false_iff_not, Bool.not_true, Bool.not_false, Bool.not_eq_eq_eq_not, cond_true, cond_false] at hb_) <;> (try (exact absurd hb_ (by omega))) <;> (try simp only [TT, RS, flagOf, gslot, aop, ev, cv, putA, pickAV, if_false, if_true, Nat.reduceAdd, Nat.reduceSub, true_implies, reduceCtorEq, false_implies, implies_true, retAll, retOne, oneOf, cond_true, cond_false, rd, wr, joinT, splice, lay, layRows, abuiltin, abPure, abMem, szv, asNat, loOf, aslice, kindOf, szOf, Nat.reduceLeDiff, Nat.reduceLT, Nat.reduceMul, Nat.reduceEqDiff, ne_eq, Int.reduceLT, Int.reduceLE, Int.reduceEq, hb.get, hns.get, hns.len, hns.szk, List.length_map, getD_nth (xs := f.nodes) (j := m) (by omega), q2, getD_nth (xs := (nth f.nodes m).kids) (j := a % 4) (by omega), eNode, h5])))
    all_goals first | omega | decide | (simp only [kidAt, if_neg hne, Int.toNat_natCast]; done)
end Go.Proofs.Ytkecenijjdpfdaa.AL
