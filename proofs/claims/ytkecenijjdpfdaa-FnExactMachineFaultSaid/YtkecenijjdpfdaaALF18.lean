/-
  The law of MachineFault.
-/
import Derived.Test.YtkecenijjdpfdaaALF17
import Derived.Test.YtkecenijjdpfdaaALOFnExactMachineFault
namespace Go.Proofs.Ytkecenijjdpfdaa.AL
open Go Go.Proofs.Ytkecenijjdpfdaa
set_option linter.unusedVariables false
set_option linter.unusedSimpArgs false
set_option maxRecDepth 100000
set_option maxHeartbeats 2000000

theorem szM_le {m : GMachine} (h : 0 ≤ szs 1048576 (szM m)) (hb : ∀ n ∈ szM m, n ≤ 9223372036854775807) : m.pool.forest.nodes.length ≤ 1048576 ∧ m.pool.forest.blocks.length ≤ 1048576 ∧ m.pool.vols.length ≤ 1048576 ∧ m.sessions.length ≤ 1048576 ∧ ∀ x ∈ m.pool.forest.nodes, x.kids.length ≤ 1048576 := by
  have h1 := szs_le (by omega) (by omega) hb h
  refine ⟨?_, ?_, ?_, ?_, fun x hx => ?_⟩
  · have := h1 m.pool.forest.nodes.length (by simp [szM, szP, szF]); omega
  · have := h1 m.pool.forest.blocks.length (by simp [szM, szP, szF]); omega
  · have := h1 m.pool.vols.length (by simp [szM, szP, szF]); omega
  · have := h1 m.sessions.length (by simp [szM, szP, szF]); omega
  · have := h1 x.kids.length (by simp [szM, szP, szF]; exact .inr (.inl ⟨x, hx, rfl⟩)); omega
theorem law_MachineFault (m : GMachine) (hG : good77 m) (H : Heap) : ADet Try.prog 7 [.agg (eMachine m)] H (.bool true) H := by
  have hb : ∀ n ∈ szM m, n ≤ 9223372036854775807 := by
    obtain ⟨⟨⟨⟨h1, h1'⟩, ⟨h2, _⟩⟩, ⟨h3, _⟩⟩, ⟨h4, _⟩⟩ := hG
    intro n hn
    simp only [szM, szP, szF, List.mem_append, List.mem_cons, List.mem_map, List.not_mem_nil, or_false] at hn
    rcases hn with (((rfl | ⟨x, hx, rfl⟩) | rfl) | rfl) | rfl
    · exact h1
    · exact (h1' x hx).2.2.1
    · exact h2
    · exact h3
    · exact h4
  have hle := fun h => szM_le (m := m) h hb
  refine adet_run hT (fun _ => false) Try.func7 rfl (by kernel_rfl) (by kernel_rfl) ?_
  simp only [TT, RS, flagOf, gslot, aop, ev, cv, putA, pickAV, if_false, if_true, Nat.reduceAdd, Nat.reduceSub, true_implies, reduceCtorEq, false_implies, implies_true, retAll, retOne, oneOf, cond_true, cond_false, rd, wr, joinT, splice, lay, layRows, abuiltin, abPure, abMem, szv, asNat, loOf, aslice, kindOf, szOf, Nat.reduceLeDiff, Nat.reduceLT, Nat.reduceMul, Nat.reduceEqDiff, ne_eq, Int.reduceLT, Int.reduceLE, Int.reduceEq, Try.ntmps7, Try.results7, eMachine, ePool, List.cons_append, List.nil_append]
  refine callA_of0 (L_szMachine _ _ _ _ m _ _ (by omega) (sl_fro row_node) (by rw [len_fro, List.length_map]) (by rw [len_fro, List.length_map]) (by rw [len_fro, List.length_map]) hG.1.1.1.1) ?_
  simp only [TT, RS, flagOf, gslot, aop, ev, cv, putA, pickAV, if_false, if_true, Nat.reduceAdd, Nat.reduceSub, true_implies, reduceCtorEq, false_implies, implies_true, retAll, retOne, oneOf, cond_true, cond_false, rd, wr, joinT, splice, lay, layRows, abuiltin, abPure, abMem, szv, asNat, loOf, aslice, kindOf, szOf, Nat.reduceLeDiff, Nat.reduceLT, Nat.reduceMul, Nat.reduceEqDiff, ne_eq, Int.reduceLT, Int.reduceLE, Int.reduceEq, eMachine, ePool, List.cons_append, List.nil_append]
  repeat' (first | (with_reducible refine wk_same ?_) | ((with_reducible refine wk_drop ?_ ?_); rotate_left; rfl) | (with_reducible refine And.intro ?_ ?_) | (with_reducible intro _) | ((with_reducible first | refine br_of ?_ ?_ | refine guB_ofT ?_ ?_ | refine guB_ofF ?_ ?_ | refine guD_ofT ?_ ?_ | refine guD_ofF ?_ ?_) <;> intro hb_ <;> (try simp only [decide_eq_true_eq, decide_eq_false_iff_not, Bool.not_true, Bool.not_false, Bool.not_eq_eq_eq_not, cond_true, cond_false] at hb_) <;> (try (exact absurd hb_ (by omega))) <;> (try simp only [TT, RS, flagOf, gslot, aop, ev, cv, putA, pickAV, if_false, if_true, Nat.reduceAdd, Nat.reduceSub, true_implies, reduceCtorEq, false_implies, implies_true, retAll, retOne, oneOf, cond_true, cond_false, rd, wr, joinT, splice, lay, layRows, abuiltin, abPure, abMem, szv, asNat, loOf, aslice, kindOf, szOf, Nat.reduceLeDiff, Nat.reduceLT, Nat.reduceMul, Nat.reduceEqDiff, ne_eq, Int.reduceLT, Int.reduceLE, Int.reduceEq, eMachine, ePool, List.cons_append, List.nil_append])))
  · rfl
  obtain ⟨h1, h2, h3, h4, h5⟩ := hle (by omega)
  have hkl : ∀ i, i < m.pool.forest.nodes.length → (nth m.pool.forest.nodes i).kids.length ≤ 1048576 := fun i hi => by rw [nth_eq hi]; exact h5 _ (List.getElem_mem hi)
  refine callA_of0 (L_toMachineF _ _ _ _ m _ (sl_fro row_node) (sl_fro row_block) (sl_fro row_vol) (sl_fro row_session) h1 h2 h5 h3 h4) ?_
  simp only [TT, RS, flagOf, gslot, aop, ev, cv, putA, pickAV, if_false, if_true, Nat.reduceAdd, Nat.reduceSub, true_implies, reduceCtorEq, false_implies, implies_true, retAll, retOne, oneOf, cond_true, cond_false, rd, wr, joinT, splice, lay, layRows, abuiltin, abPure, abMem, szv, asNat, loOf, aslice, kindOf, szOf, Nat.reduceLeDiff, Nat.reduceLT, Nat.reduceMul, Nat.reduceEqDiff, ne_eq, Int.reduceLT, Int.reduceLE, Int.reduceEq, eMachine, ePool, List.cons_append, List.nil_append]
  refine callA_of0 (S_MachineFault _ _ _ _ m _ (sl_fro row_node) (sl_fro row_block) (sl_fro row_vol) (sl_fro row_session) h1 h2 h3 h4) ?_
  simp only [TT, RS, flagOf, gslot, aop, ev, cv, putA, pickAV, if_false, if_true, Nat.reduceAdd, Nat.reduceSub, true_implies, reduceCtorEq, false_implies, implies_true, retAll, retOne, oneOf, cond_true, cond_false, rd, wr, joinT, splice, lay, layRows, abuiltin, abPure, abMem, szv, asNat, loOf, aslice, kindOf, szOf, Nat.reduceLeDiff, Nat.reduceLT, Nat.reduceMul, Nat.reduceEqDiff, ne_eq, Int.reduceLT, Int.reduceLE, Int.reduceEq, eMachine, ePool, List.cons_append, List.nil_append]
  refine callA_of0 (L_toMachineF _ _ _ _ m _ (sl_fro row_node) (sl_fro row_block) (sl_fro row_vol) (sl_fro row_session) h1 h2 h5 h3 h4) ?_
  simp only [TT, RS, flagOf, gslot, aop, ev, cv, putA, pickAV, if_false, if_true, Nat.reduceAdd, Nat.reduceSub, true_implies, reduceCtorEq, false_implies, implies_true, retAll, retOne, oneOf, cond_true, cond_false, rd, wr, joinT, splice, lay, layRows, abuiltin, abPure, abMem, szv, asNat, loOf, aslice, kindOf, szOf, Nat.reduceLeDiff, Nat.reduceLT, Nat.reduceMul, Nat.reduceEqDiff, ne_eq, Int.reduceLT, Int.reduceLE, Int.reduceEq, eMachine, ePool, List.cons_append, List.nil_append]
  refine callA_of0 (I_MachineFault _ _ _ _ m _ (sl_fro row_node) (sl_fro row_block) (sl_fro row_vol) (sl_fro row_session) h1 h2 h3 h4 hkl) ?_
  simp only [TT, RS, flagOf, gslot, aop, ev, cv, putA, pickAV, if_false, if_true, Nat.reduceAdd, Nat.reduceSub, true_implies, reduceCtorEq, false_implies, implies_true, retAll, retOne, oneOf, cond_true, cond_false, rd, wr, joinT, splice, lay, layRows, abuiltin, abPure, abMem, szv, asNat, loOf, aslice, kindOf, szOf, Nat.reduceLeDiff, Nat.reduceLT, Nat.reduceMul, Nat.reduceEqDiff, ne_eq, Int.reduceLT, Int.reduceLE, Int.reduceEq, eMachine, ePool, List.cons_append, List.nil_append]
  repeat' (first | (with_reducible refine wk_same ?_) | ((with_reducible refine wk_drop ?_ ?_); rotate_left; rfl) | (with_reducible refine And.intro ?_ ?_) | (with_reducible intro _) | ((with_reducible first | refine br_of ?_ ?_ | refine guB_ofT ?_ ?_ | refine guB_ofF ?_ ?_ | refine guD_ofT ?_ ?_ | refine guD_ofF ?_ ?_) <;> intro hb_ <;> (try simp only [decide_eq_true_eq, decide_eq_false_iff_not, Bool.not_true, Bool.not_false, Bool.not_eq_eq_eq_not, cond_true, cond_false] at hb_) <;> (try (exact absurd hb_ (by omega))) <;> (try simp only [TT, RS, flagOf, gslot, aop, ev, cv, putA, pickAV, if_false, if_true, Nat.reduceAdd, Nat.reduceSub, true_implies, reduceCtorEq, false_implies, implies_true, retAll, retOne, oneOf, cond_true, cond_false, rd, wr, joinT, splice, lay, layRows, abuiltin, abPure, abMem, szv, asNat, loOf, aslice, kindOf, szOf, Nat.reduceLeDiff, Nat.reduceLT, Nat.reduceMul, Nat.reduceEqDiff, ne_eq, Int.reduceLT, Int.reduceLE, Int.reduceEq, eMachine, ePool, List.cons_append, List.nil_append])))
  refine callD_of0 (L_toMachineF _ _ _ _ m _ (sl_fro row_node) (sl_fro row_block) (sl_fro row_vol) (sl_fro row_session) h1 h2 h5 h3 h4) ?_
  simp only [TT, RS, flagOf, gslot, aop, ev, cv, putA, pickAV, if_false, if_true, Nat.reduceAdd, Nat.reduceSub, true_implies, reduceCtorEq, false_implies, implies_true, retAll, retOne, oneOf, cond_true, cond_false, rd, wr, joinT, splice, lay, layRows, abuiltin, abPure, abMem, szv, asNat, loOf, aslice, kindOf, szOf, Nat.reduceLeDiff, Nat.reduceLT, Nat.reduceMul, Nat.reduceEqDiff, ne_eq, Int.reduceLT, Int.reduceLE, Int.reduceEq, eMachine, ePool, List.cons_append, List.nil_append]
  refine callD_of0 (L_eqMachine _ _ _ _ _ _ _ _ m m _ (sl_fro row_node) (sl_fro row_block) (sl_fro row_vol) (sl_fro row_session) (sl_fro row_node) (sl_fro row_block) (sl_fro row_vol) (sl_fro row_session) h1 h2 h5 h3 h4) ?_
  simp only [TT, RS, flagOf, gslot, aop, ev, cv, putA, pickAV, if_false, if_true, Nat.reduceAdd, Nat.reduceSub, true_implies, reduceCtorEq, false_implies, implies_true, retAll, retOne, oneOf, cond_true, cond_false, rd, wr, joinT, splice, lay, layRows, abuiltin, abPure, abMem, szv, asNat, loOf, aslice, kindOf, szOf, Nat.reduceLeDiff, Nat.reduceLT, Nat.reduceMul, Nat.reduceEqDiff, ne_eq, Int.reduceLT, Int.reduceLE, Int.reduceEq, eMachine, ePool, List.cons_append, List.nil_append, decide_true]
  repeat' (first | (with_reducible refine wk_same ?_) | ((with_reducible refine wk_drop ?_ ?_); rotate_left; rfl) | (with_reducible refine And.intro ?_ ?_) | (with_reducible intro _) | ((with_reducible first | refine br_of ?_ ?_ | refine guB_ofT ?_ ?_ | refine guB_ofF ?_ ?_ | refine guD_ofT ?_ ?_ | refine guD_ofF ?_ ?_) <;> intro hb_ <;> (try simp only [decide_eq_true_eq, decide_eq_false_iff_not, Bool.not_true, Bool.not_false, Bool.not_eq_eq_eq_not, cond_true, cond_false] at hb_) <;> (try (exact absurd hb_ (by omega))) <;> (try simp only [TT, RS, flagOf, gslot, aop, ev, cv, putA, pickAV, if_false, if_true, Nat.reduceAdd, Nat.reduceSub, true_implies, reduceCtorEq, false_implies, implies_true, retAll, retOne, oneOf, cond_true, cond_false, rd, wr, joinT, splice, lay, layRows, abuiltin, abPure, abMem, szv, asNat, loOf, aslice, kindOf, szOf, Nat.reduceLeDiff, Nat.reduceLT, Nat.reduceMul, Nat.reduceEqDiff, ne_eq, Int.reduceLT, Int.reduceLE, Int.reduceEq, eMachine, ePool, List.cons_append, List.nil_append])))
  all_goals rfl
theorem lawFnExactMachineFault (m : GMachine) (hG : good77 m) : ADet Try.prog 7 [.agg (eMachine m)] [] (.bool true) [] := law_MachineFault m hG []
end Go.Proofs.Ytkecenijjdpfdaa.AL
