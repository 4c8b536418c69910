/-
  What is wrong with a pool: the specification's look.
-/
import Derived.Test.YtkecenijjdpfdaaALF12
namespace Go.Proofs.Ytkecenijjdpfdaa.AL
open Go Go.Proofs.Ytkecenijjdpfdaa
set_option linter.unusedVariables false
set_option linter.unusedSimpArgs false
set_option maxRecDepth 100000
set_option maxHeartbeats 2000000

def volT (p : GPool) (i : Nat) : Int :=
  if !inR (nth p.vols i).id 1 99 || !inR (nth p.vols i).quota 1 16 || !rootOk p.forest (nth p.vols i).root then 3
  else if decide (0 < i) && decide ((nth p.vols i).id ≤ (nth p.vols (i - 1)).id) then 1
  else if usedOf p.forest (nth p.vols i).root > (nth p.vols i).quota then 9 else 0
def poolF (p : GPool) : Int :=
  if forestF p.forest ≠ 0 then forestF p.forest
  else if (p.vols.length : Int) > 6 then 2
  else if fnz (volT p) p.vols.length ≠ 0 then fnz (volT p) p.vols.length
  else fnz (exF p) p.forest.nodes.length
theorem exF_01 {p : GPool} : ∀ n, fnz (exF p) n = 0 ∨ fnz (exF p) n = 1
  | 0 => .inl rfl
  | n + 1 => by
    unfold fnz
    split
    · unfold exF; split
      · exact .inl rfl
      · exact .inr rfl
    · exact exF_01 n
theorem volT_root {p : GPool} {i : Nat} (h : volT p i = 0) : rootOk p.forest (nth p.vols i).root = true := by
  unfold volT at h
  split at h
  · cases h
  · rename_i h1
    simp only [Bool.or_eq_true, Bool.not_eq_true', not_or, Bool.not_eq_false] at h1
    exact h1.2
theorem S_l5Fault (id : Nat) (ns bs vs : AV) (rest : List AV) (p : GPool) (H : Heap) (hb : Bx H id (ns :: bs :: vs :: rest)) (hns : Sl H ns 3 (p.forest.nodes.map eNode)) (hbs : Sl H bs 2 (p.forest.blocks.map eBlock)) (hvs : Sl H vs 3 (p.vols.map eVol))
    (hm : p.forest.nodes.length ≤ 1048576) (hn : p.forest.blocks.length ≤ 1048576) (hk : p.vols.length ≤ 1048576) :
    ADet Try.prog 226 [.ptr id 0] H (.int .i64 (poolF p)) H := by
  have hid := hb.lt
  refine adet_run hT (fun _ => false) Try.func226 rfl (by kernel_rfl) (by kernel_rfl) ?_
  simp only [TT, RS, flagOf, gslot, aop, ev, cv, putA, pickAV, if_false, if_true, Nat.reduceAdd, Nat.reduceSub, true_implies, reduceCtorEq, false_implies, implies_true, retAll, retOne, oneOf, cond_true, cond_false, rd, wr, joinT, splice, lay, layRows, abuiltin, abPure, abMem, szv, asNat, loOf, aslice, kindOf, szOf, Nat.reduceLeDiff, Nat.reduceLT, Nat.reduceMul, Nat.reduceEqDiff, ne_eq, Int.reduceLT, Int.reduceLE, Int.reduceEq, Try.ntmps226, Try.results226]
  refine callA_of0 (S_l4Fault id ns bs (vs :: rest) p.forest _ hb hns hbs hm hn) ?_
  simp only [TT, RS, flagOf, gslot, aop, ev, cv, putA, pickAV, if_false, if_true, Nat.reduceAdd, Nat.reduceSub, true_implies, reduceCtorEq, false_implies, implies_true, retAll, retOne, oneOf, cond_true, cond_false, rd, wr, joinT, splice, lay, layRows, abuiltin, abPure, abMem, szv, asNat, loOf, aslice, kindOf, szOf, Nat.reduceLeDiff, Nat.reduceLT, Nat.reduceMul, Nat.reduceEqDiff, ne_eq, Int.reduceLT, Int.reduceLE, Int.reduceEq, hb.get, hvs.len, List.length_map]
  repeat' (first | (with_reducible refine wk_same ?_) | ((with_reducible refine wk_drop ?_ ?_); rotate_left; rfl) | (with_reducible refine And.intro ?_ ?_) | (with_reducible intro _) | ((with_reducible first | refine br_of ?_ ?_ | refine guB_ofT ?_ ?_ | refine guB_ofF ?_ ?_ | refine guD_ofT ?_ ?_ | refine guD_ofF ?_ ?_) <;> intro hb_ <;> (try simp only [decide_eq_true_eq, decide_eq_false_iff_not, Bool.not_true, Bool.not_false, Bool.not_eq_eq_eq_not, cond_true, cond_false] at hb_) <;> (try (exact absurd hb_ (by omega))) <;> (try simp only [TT, RS, flagOf, gslot, aop, ev, cv, putA, pickAV, if_false, if_true, Nat.reduceAdd, Nat.reduceSub, true_implies, reduceCtorEq, false_implies, implies_true, retAll, retOne, oneOf, cond_true, cond_false, rd, wr, joinT, splice, lay, layRows, abuiltin, abPure, abMem, szv, asNat, loOf, aslice, kindOf, szOf, Nat.reduceLeDiff, Nat.reduceLT, Nat.reduceMul, Nat.reduceEqDiff, ne_eq, Int.reduceLT, Int.reduceLE, Int.reduceEq, hb.get, hvs.len, List.length_map])))
  all_goals first | (simp only [ne_eq, *, if_true, if_false, not_true_eq_false, not_false_eq_true, Bool.not_true, Bool.not_false, Bool.false_eq_true, Bool.or_true, Bool.true_or, Bool.or_false, Bool.false_or, Bool.and_true, Bool.true_and, Bool.and_false, Bool.false_and, decide_true, decide_false, Int.reduceGT, Int.reduceLT, Int.reduceEq, poolF]; done) | skip
  have hf0 : forestF p.forest = 0 := Decidable.byContradiction (by assumption)
  have hF := fok hf0
  have hpv : ∀ v, fnz (volT p) p.vols.length = v → v ≠ 0 → poolF p = v := fun v e hne => by subst e; simp only [ne_eq, *, if_true, if_false, not_true_eq_false, not_false_eq_true, Bool.not_true, Bool.not_false, Bool.false_eq_true, Bool.or_true, Bool.true_or, Bool.or_false, Bool.false_or, Bool.and_true, Bool.true_and, Bool.and_false, Bool.false_and, decide_true, decide_false, Int.reduceGT, Int.reduceLT, Int.reduceEq, poolF]
  have hpe : ∀ v, fnz (volT p) p.vols.length = 0 → fnz (exF p) p.forest.nodes.length = v → poolF p = v := fun v e0 e => by subst e; simp only [ne_eq, *, if_true, if_false, not_true_eq_false, not_false_eq_true, Bool.not_true, Bool.not_false, Bool.false_eq_true, Bool.or_true, Bool.true_or, Bool.or_false, Bool.false_or, Bool.and_true, Bool.true_and, Bool.and_false, Bool.false_and, decide_true, decide_false, Int.reduceGT, Int.reduceLT, Int.reduceEq, poolF]
  refine lp_up hT p.vols.length (fun j => [.ptr id 0, .any, .any, .any, .int .i64 (j : Int), .any, .any, .any, .any, .any, .any, .any, .any, .any, .any, .any, .any, .any, .any, .any, .any, .any, .any, .any, .any, .any, .any, .any, .any, .any, .any, .any, .any, .any, .any, .any, .any, .any, .any, .any, .any, .any, .any, .any, .any, .any, .any, .any, .any, .any, .any, .any, .any, .any, .any, .any, .any, .any, .any, .any, .any, .any, .any, .any, .any, .any, .any, .any, .any, .any, .any, .any, .any, .any, .any, .any, .any, .any, .any, .any, .any, .any]) (fun j => H) (fun j => ∀ i, i < j → volT p i = 0) (by kernel_rfl) (fun i h => by omega) ?_ (fun j hj hV => ?_) (fun hV => ?_)
  · exact wk_any rfl (by simp only [anyL_nil, anyL_any, anyL_same, anyL_int, anyL_bool, and_true, true_and]; trivial)
  · have hj1 : j - 1 < p.vols.length := by omega
    have hbad : ∀ v, volT p j = v → v ≠ 0 → poolF p = v := fun v e hne => hpv v (fnz_is hV hj e hne) hne
    have hT1 : volT p j = if !inR (nth p.vols j).id 1 99 || !inR (nth p.vols j).quota 1 16 || !rootOk p.forest (nth p.vols j).root then 3
      else if decide (0 < j) && decide ((nth p.vols j).id ≤ (nth p.vols (j - 1)).id) then 1
      else if usedOf p.forest (nth p.vols j).root > (nth p.vols j).quota then 9 else 0 := rfl
    simp only [TT, RS, flagOf, gslot, aop, ev, cv, putA, pickAV, if_false, if_true, Nat.reduceAdd, Nat.reduceSub, true_implies, reduceCtorEq, false_implies, implies_true, retAll, retOne, oneOf, cond_true, cond_false, rd, wr, joinT, splice, lay, layRows, abuiltin, abPure, abMem, szv, asNat, loOf, aslice, kindOf, szOf, Nat.reduceLeDiff, Nat.reduceLT, Nat.reduceMul, Nat.reduceEqDiff, ne_eq, Int.reduceLT, Int.reduceLE, Int.reduceEq, hb.get, hb.app, hvs.get, hvs.app, hvs.len, hvs.szk, List.length_map, getD_nth hj, getD_nth hj1, eVol, wrap_pred (Nat.le_trans (Nat.le_of_lt (Nat.lt_of_lt_of_le hj hk)) (by omega)), toNat_pred]
    repeat' (first | (with_reducible refine And.intro (up_succ hV ?_) (wk_0 ?_)) | (with_reducible refine wk_same ?_) | ((with_reducible refine wk_drop ?_ ?_); rotate_left; rfl) | (with_reducible refine And.intro ?_ ?_) | (with_reducible intro _) | ((with_reducible first | refine br_of ?_ ?_ | refine guB_ofT ?_ ?_ | refine guB_ofF ?_ ?_ | refine guD_ofT ?_ ?_ | refine guD_ofF ?_ ?_) <;> intro hb_ <;> (try simp only [decide_eq_true_eq, decide_eq_false_iff_not, Bool.not_true, Bool.not_false, Bool.not_eq_eq_eq_not, cond_true, cond_false] at hb_) <;> (try (exact absurd hb_ (by omega))) <;> (try simp only [TT, RS, flagOf, gslot, aop, ev, cv, putA, pickAV, if_false, if_true, Nat.reduceAdd, Nat.reduceSub, true_implies, reduceCtorEq, false_implies, implies_true, retAll, retOne, oneOf, cond_true, cond_false, rd, wr, joinT, splice, lay, layRows, abuiltin, abPure, abMem, szv, asNat, loOf, aslice, kindOf, szOf, Nat.reduceLeDiff, Nat.reduceLT, Nat.reduceMul, Nat.reduceEqDiff, ne_eq, Int.reduceLT, Int.reduceLE, Int.reduceEq, hb.get, hb.app, hvs.get, hvs.app, hvs.len, hvs.szk, List.length_map, getD_nth hj, getD_nth hj1, eVol, wrap_pred (Nat.le_trans (Nat.le_of_lt (Nat.lt_of_lt_of_le hj hk)) (by omega)), toNat_pred])) | ((with_reducible first | refine callA_of0 (S_l5Id _ _) ?_ | refine callD_of0 (S_l5Id _ _) ?_); simp only [TT, RS, flagOf, gslot, aop, ev, cv, putA, pickAV, if_false, if_true, Nat.reduceAdd, Nat.reduceSub, true_implies, reduceCtorEq, false_implies, implies_true, retAll, retOne, oneOf, cond_true, cond_false, rd, wr, joinT, splice, lay, layRows, abuiltin, abPure, abMem, szv, asNat, loOf, aslice, kindOf, szOf, Nat.reduceLeDiff, Nat.reduceLT, Nat.reduceMul, Nat.reduceEqDiff, ne_eq, Int.reduceLT, Int.reduceLE, Int.reduceEq, hb.get, hb.app, hvs.get, hvs.app, hvs.len, hvs.szk, List.length_map, getD_nth hj, getD_nth hj1, eVol, wrap_pred (Nat.le_trans (Nat.le_of_lt (Nat.lt_of_lt_of_le hj hk)) (by omega)), toNat_pred]) | ((with_reducible first | refine callA_of0 (S_l1In _ _ _ _) ?_ | refine callD_of0 (S_l1In _ _ _ _) ?_); simp only [TT, RS, flagOf, gslot, aop, ev, cv, putA, pickAV, if_false, if_true, Nat.reduceAdd, Nat.reduceSub, true_implies, reduceCtorEq, false_implies, implies_true, retAll, retOne, oneOf, cond_true, cond_false, rd, wr, joinT, splice, lay, layRows, abuiltin, abPure, abMem, szv, asNat, loOf, aslice, kindOf, szOf, Nat.reduceLeDiff, Nat.reduceLT, Nat.reduceMul, Nat.reduceEqDiff, ne_eq, Int.reduceLT, Int.reduceLE, Int.reduceEq, hb.get, hb.app, hvs.get, hvs.app, hvs.len, hvs.szk, List.length_map, getD_nth hj, getD_nth hj1, eVol, wrap_pred (Nat.le_trans (Nat.le_of_lt (Nat.lt_of_lt_of_le hj hk)) (by omega)), toNat_pred]) | ((with_reducible first | refine callA_of0 (S_l4Root id ns bs (vs :: rest) p.forest _ _ (hb.more _) (hns.more _) hm) ?_ | refine callD_of0 (S_l4Root id ns bs (vs :: rest) p.forest _ _ (hb.more _) (hns.more _) hm) ?_); simp only [TT, RS, flagOf, gslot, aop, ev, cv, putA, pickAV, if_false, if_true, Nat.reduceAdd, Nat.reduceSub, true_implies, reduceCtorEq, false_implies, implies_true, retAll, retOne, oneOf, cond_true, cond_false, rd, wr, joinT, splice, lay, layRows, abuiltin, abPure, abMem, szv, asNat, loOf, aslice, kindOf, szOf, Nat.reduceLeDiff, Nat.reduceLT, Nat.reduceMul, Nat.reduceEqDiff, ne_eq, Int.reduceLT, Int.reduceLE, Int.reduceEq, hb.get, hb.app, hvs.get, hvs.app, hvs.len, hvs.szk, List.length_map, getD_nth hj, getD_nth hj1, eVol, wrap_pred (Nat.le_trans (Nat.le_of_lt (Nat.lt_of_lt_of_le hj hk)) (by omega)), toNat_pred]))
    all_goals clear hpv hpe
    all_goals first
      | omega
      | (simp only [slKs_cons, slKs_nil, slK_any, slK_int, slK_bool, slK_old, lt_ptr, lt_snil, lt_emp, and_true, true_and, lt_ptr, hid]; rw [wrap_succ (by omega)]; done)
      | (refine congrArg (AV.int .i64) (Eq.symm (hbad _ ?_ (by decide))); rw [hT1]; clear hbad hT1 hV; simp_all; done)
      | skip
    all_goals
      have hr : rootOk p.forest (nth p.vols j).root = true := by assumption
      refine callD_of0 (S_l5Used id ns bs (vs :: rest) p.forest _ _ (hb.more _) (hns.more _) (hbs.more _) hF hr) ?_
      simp only [TT, RS, flagOf, gslot, aop, ev, cv, putA, pickAV, if_false, if_true, Nat.reduceAdd, Nat.reduceSub, true_implies, reduceCtorEq, false_implies, implies_true, retAll, retOne, oneOf, cond_true, cond_false, rd, wr, joinT, splice, lay, layRows, abuiltin, abPure, abMem, szv, asNat, loOf, aslice, kindOf, szOf, Nat.reduceLeDiff, Nat.reduceLT, Nat.reduceMul, Nat.reduceEqDiff, ne_eq, Int.reduceLT, Int.reduceLE, Int.reduceEq, hb.get, hb.app, hvs.get, hvs.app, hvs.len, hvs.szk, List.length_map, getD_nth hj, getD_nth hj1, eVol, wrap_pred (Nat.le_trans (Nat.le_of_lt (Nat.lt_of_lt_of_le hj hk)) (by omega)), toNat_pred]
      repeat' (first | (with_reducible refine And.intro (up_succ hV ?_) (wk_0 ?_)) | (with_reducible refine wk_same ?_) | ((with_reducible refine wk_drop ?_ ?_); rotate_left; rfl) | (with_reducible refine And.intro ?_ ?_) | (with_reducible intro _) | ((with_reducible first | refine br_of ?_ ?_ | refine guB_ofT ?_ ?_ | refine guB_ofF ?_ ?_ | refine guD_ofT ?_ ?_ | refine guD_ofF ?_ ?_) <;> intro hb_ <;> (try simp only [decide_eq_true_eq, decide_eq_false_iff_not, Bool.not_true, Bool.not_false, Bool.not_eq_eq_eq_not, cond_true, cond_false] at hb_) <;> (try (exact absurd hb_ (by omega))) <;> (try simp only [TT, RS, flagOf, gslot, aop, ev, cv, putA, pickAV, if_false, if_true, Nat.reduceAdd, Nat.reduceSub, true_implies, reduceCtorEq, false_implies, implies_true, retAll, retOne, oneOf, cond_true, cond_false, rd, wr, joinT, splice, lay, layRows, abuiltin, abPure, abMem, szv, asNat, loOf, aslice, kindOf, szOf, Nat.reduceLeDiff, Nat.reduceLT, Nat.reduceMul, Nat.reduceEqDiff, ne_eq, Int.reduceLT, Int.reduceLE, Int.reduceEq, hb.get, hb.app, hvs.get, hvs.app, hvs.len, hvs.szk, List.length_map, getD_nth hj, getD_nth hj1, eVol, wrap_pred (Nat.le_trans (Nat.le_of_lt (Nat.lt_of_lt_of_le hj hk)) (by omega)), toNat_pred])))
    all_goals first
      | omega
      | (simp only [slKs_cons, slKs_nil, slK_any, slK_int, slK_bool, slK_old, lt_ptr, lt_snil, lt_emp, and_true, true_and, lt_ptr, hid]; rw [wrap_succ (by omega)]; done)
      | (refine congrArg (AV.int .i64) (Eq.symm (hbad _ ?_ (by decide))); rw [hT1]; clear hbad hT1 hV; simp_all; done)
      | (rw [hT1]; clear hbad hT1 hV; simp_all; done)
      | (rw [hT1]; clear hbad hT1 hV; have hj0 : 0 < j := by omega
         simp only [ne_eq, *, if_true, if_false, not_true_eq_false, not_false_eq_true, Bool.not_true, Bool.not_false, Bool.false_eq_true, Bool.or_true, Bool.true_or, Bool.or_false, Bool.false_or, Bool.and_true, Bool.true_and, Bool.and_false, Bool.false_and, decide_true, decide_false, Int.reduceGT, Int.reduceLT, Int.reduceEq, hj0])
      | skip
  · have hv : ∀ k, k < p.vols.length → rootOk p.forest (nth p.vols k).root = true := fun k hk => volT_root (hV k hk)
    simp only [TT, RS, flagOf, gslot, aop, ev, cv, putA, pickAV, if_false, if_true, Nat.reduceAdd, Nat.reduceSub, true_implies, reduceCtorEq, false_implies, implies_true, retAll, retOne, oneOf, cond_true, cond_false, rd, wr, joinT, splice, lay, layRows, abuiltin, abPure, abMem, szv, asNat, loOf, aslice, kindOf, szOf, Nat.reduceLeDiff, Nat.reduceLT, Nat.reduceMul, Nat.reduceEqDiff, ne_eq, Int.reduceLT, Int.reduceLE, Int.reduceEq, hb.get, hb.app, hvs.get, hvs.app, hvs.len, hvs.szk, List.length_map]
    repeat' (first | (with_reducible refine wk_same ?_) | ((with_reducible refine wk_drop ?_ ?_); rotate_left; rfl) | (with_reducible refine And.intro ?_ ?_) | (with_reducible intro _) | ((with_reducible first | refine br_of ?_ ?_ | refine guB_ofT ?_ ?_ | refine guB_ofF ?_ ?_ | refine guD_ofT ?_ ?_ | refine guD_ofF ?_ ?_) <;> intro hb_ <;> (try simp only [decide_eq_true_eq, decide_eq_false_iff_not, Bool.not_true, Bool.not_false, Bool.not_eq_eq_eq_not, cond_true, cond_false] at hb_) <;> (try (exact absurd hb_ (by omega))) <;> (try simp only [TT, RS, flagOf, gslot, aop, ev, cv, putA, pickAV, if_false, if_true, Nat.reduceAdd, Nat.reduceSub, true_implies, reduceCtorEq, false_implies, implies_true, retAll, retOne, oneOf, cond_true, cond_false, rd, wr, joinT, splice, lay, layRows, abuiltin, abPure, abMem, szv, asNat, loOf, aslice, kindOf, szOf, Nat.reduceLeDiff, Nat.reduceLT, Nat.reduceMul, Nat.reduceEqDiff, ne_eq, Int.reduceLT, Int.reduceLE, Int.reduceEq, hb.get, hb.app, hvs.get, hvs.app, hvs.len, hvs.szk, List.length_map])) | ((with_reducible first | refine callA_of0 (S_l5Exact id ns bs vs rest p _ hb hns hvs hF hv hk) ?_ | refine callD_of0 (S_l5Exact id ns bs vs rest p _ hb hns hvs hF hv hk) ?_); simp only [TT, RS, flagOf, gslot, aop, ev, cv, putA, pickAV, if_false, if_true, Nat.reduceAdd, Nat.reduceSub, true_implies, reduceCtorEq, false_implies, implies_true, retAll, retOne, oneOf, cond_true, cond_false, rd, wr, joinT, splice, lay, layRows, abuiltin, abPure, abMem, szv, asNat, loOf, aslice, kindOf, szOf, Nat.reduceLeDiff, Nat.reduceLT, Nat.reduceMul, Nat.reduceEqDiff, ne_eq, Int.reduceLT, Int.reduceLE, Int.reduceEq, hb.get, hb.app, hvs.get, hvs.app, hvs.len, hvs.szk, List.length_map]))
    all_goals first | omega | skip
    all_goals first
      | (rw [hpe 1 (fnz_0 hV) ((exF_01 _).resolve_left hb_)]; done)
      | (rw [hpe 0 (fnz_0 hV) hb_]; done)
      | skip
end Go.Proofs.Ytkecenijjdpfdaa.AL
