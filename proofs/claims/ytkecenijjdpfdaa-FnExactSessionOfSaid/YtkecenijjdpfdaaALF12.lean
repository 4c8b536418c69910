/-
  Whether each node has as many references as name it: the specification's look.
-/
import Derived.Test.YtkecenijjdpfdaaALF11
namespace Go.Proofs.Ytkecenijjdpfdaa.AL
open Go Go.Proofs.Ytkecenijjdpfdaa
set_option linter.unusedVariables false
set_option linter.unusedSimpArgs false
set_option maxRecDepth 100000
set_option maxHeartbeats 2000000

def rts (p : GPool) : List Int := p.vols.map GVol.root
def wantN (p : GPool) (i : Nat) : Int := if (nth p.forest.nodes i).leaf then (cntI (i : Int) (nmd p.forest.nodes false) : Int) else (cntI (i : Int) (rts p) : Int)
def exF (p : GPool) (i : Nat) : Int := if (nth p.forest.nodes i).refs = wantN p i then 0 else 1
theorem rts_nth {p : GPool} {k : Nat} (h : k < p.vols.length) : nth (rts p) k = (nth p.vols k).root := by
  rw [nth_eq (by simp [rts]; exact h), nth_eq h]; simp [rts]
theorem rts_0 {p : GPool} (hv : ∀ k, k < p.vols.length → rootOk p.forest (nth p.vols k).root = true) {i : Nat} (h0 : (nth p.forest.nodes i).refs = 0) : cntI (i : Int) (rts p) = 0 := by
  unfold cntI cnt
  rw [List.length_eq_zero_iff, List.filter_eq_nil_iff]
  intro r hr
  unfold rts at hr
  rw [List.mem_map] at hr
  obtain ⟨v, hv1, rfl⟩ := hr
  obtain ⟨k, hk, rfl⟩ := List.getElem_of_mem hv1
  have h1 := hv k hk
  rw [nth_eq hk] at h1
  unfold rootOk at h1
  simp only [decide_eq_true_eq]
  intro e
  rw [e] at h1
  split at h1
  · omega
  · simp only [Int.toNat_natCast, Bool.and_eq_true, decide_eq_true_eq] at h1
    omega
theorem exF_0 {p : GPool} (h : FOk p.forest) (hv : ∀ k, k < p.vols.length → rootOk p.forest (nth p.vols k).root = true) {i : Nat} (hi : i < p.forest.nodes.length) (h0 : (nth p.forest.nodes i).refs = 0) : exF p i = 0 := by
  have hl : (nth p.forest.nodes i).leaf = false := by
    rcases nodeF_ok (h.node i hi) with h1 | h1
    · exact h1.2.2
    · exact absurd h0 h1.1
  rw [exF, wantN, hl, h0, rts_0 hv h0]
  simp
theorem fok4 {f : GForest} (h : FOk f) : (∀ i, i < f.nodes.length → (nth f.nodes i).refs = 0 ∨ (nth f.nodes i).kids.length = 4) ∧ ∀ n ∈ f.nodes, n.kids.length ≤ 4 := by
  refine ⟨fun i hi => ?_, fun n hn => ?_⟩
  · rcases nodeF_ok (h.node i hi) with h | h
    · exact .inl h.1
    · exact .inr h.2.1
  · obtain ⟨i, hi, rfl⟩ := List.getElem_of_mem hn
    have := nodeF_ok (h.node i hi)
    rw [nth_eq hi] at this
    omega
theorem S_l5Exact (id : Nat) (ns bs vs : AV) (rest : List AV) (p : GPool) (H : Heap) (hb : Bx H id (ns :: bs :: vs :: rest)) (hns : Sl H ns 3 (p.forest.nodes.map eNode)) (hvs : Sl H vs 3 (p.vols.map eVol)) (h : FOk p.forest) (hv : ∀ k, k < p.vols.length → rootOk p.forest (nth p.vols k).root = true) (hn : p.vols.length ≤ 1048576) :
    ADet Try.prog 291 [.ptr id 0] H (.bool (decide (fnz (exF p) p.forest.nodes.length = 0))) H := by
  have hnl := h.nl
  obtain ⟨h4, h4'⟩ := fok4 h
  refine adet_run hT (fun _ => false) Try.func291 rfl (by kernel_rfl) (by kernel_rfl) ?_
  simp only [TT, RS, flagOf, gslot, aop, ev, cv, putA, pickAV, if_false, if_true, Nat.reduceAdd, Nat.reduceSub, true_implies, reduceCtorEq, false_implies, implies_true, retAll, retOne, oneOf, cond_true, cond_false, rd, wr, joinT, splice, lay, layRows, abuiltin, abPure, abMem, szv, asNat, loOf, aslice, kindOf, szOf, Nat.reduceLeDiff, Nat.reduceLT, Nat.reduceMul, Nat.reduceEqDiff, ne_eq, Int.reduceLT, Int.reduceLE, Int.reduceEq, Try.ntmps291, Try.results291]
  refine lp_up hT p.forest.nodes.length (fun j => [.ptr id 0, .any, .any, .int .i64 (j : Int), .any, .any, .any, .any, .any, .any, .any, .any, .any, .any, .any, .any, .any, .any, .any, .any, .any, .any, .any, .any, .any, .any, .any, .any, .any, .any, .any, .any, .any, .any, .any, .any, .any, .any, .any, .any, .any, .any, .any, .any, .any, .any, .any, .any, .any, .any, .any, .any, .any, .any, .any, .any, .any, .any, .any, .any, .any, .any, .any, .any, .any, .any]) (fun j => H) (fun j => ∀ i, i < j → exF p i = 0) (by kernel_rfl) (fun i h => by omega) ?_ (fun j hj hV => ?_) (fun hV => ?_)
  · exact wk_any rfl (by simp only [anyL_nil, anyL_any, anyL_same, anyL_int, anyL_bool, and_true, true_and]; trivial)
  · have hex := fun h0 => exF_0 h hv hj h0
    have hbad : exF p j = 1 → decide (fnz (exF p) p.forest.nodes.length = 0) = false := fun e => by rw [fnz_is hV hj e (by decide)]; rfl
    have hexd : exF p j = if (nth p.forest.nodes j).refs = wantN p j then 0 else 1 := rfl
    cases hl : (nth p.forest.nodes j).leaf with
    | true =>
      have hw : wantN p j = (cntI (j : Int) (nmd p.forest.nodes false) : Int) := by rw [wantN, hl, if_pos rfl]
      rw [hw] at hexd
      simp only [TT, RS, flagOf, gslot, aop, ev, cv, putA, pickAV, if_false, if_true, Nat.reduceAdd, Nat.reduceSub, true_implies, reduceCtorEq, false_implies, implies_true, retAll, retOne, oneOf, cond_true, cond_false, rd, wr, joinT, splice, lay, layRows, abuiltin, abPure, abMem, szv, asNat, loOf, aslice, kindOf, szOf, Nat.reduceLeDiff, Nat.reduceLT, Nat.reduceMul, Nat.reduceEqDiff, ne_eq, Int.reduceLT, Int.reduceLE, Int.reduceEq, hb.get, hns.get, hns.len, hns.szk, List.length_map, getD_nth hj, eNode, hl]
      repeat' (first | (with_reducible refine And.intro (up_succ hV ?_) (wk_any rfl ?_)) | (with_reducible refine wk_same ?_) | ((with_reducible refine wk_drop ?_ ?_); rotate_left; rfl) | (with_reducible refine And.intro ?_ ?_) | (with_reducible intro _) | ((with_reducible first | refine br_of ?_ ?_ | refine guB_ofT ?_ ?_ | refine guB_ofF ?_ ?_ | refine guD_ofT ?_ ?_ | refine guD_ofF ?_ ?_) <;> intro hb_ <;> (try simp only [decide_eq_true_eq, decide_eq_false_iff_not, Bool.not_true, Bool.not_false, Bool.not_eq_eq_eq_not, cond_true, cond_false] at hb_) <;> (try (exact absurd hb_ (by omega))) <;> (try simp only [TT, RS, flagOf, gslot, aop, ev, cv, putA, pickAV, if_false, if_true, Nat.reduceAdd, Nat.reduceSub, true_implies, reduceCtorEq, false_implies, implies_true, retAll, retOne, oneOf, cond_true, cond_false, rd, wr, joinT, splice, lay, layRows, abuiltin, abPure, abMem, szv, asNat, loOf, aslice, kindOf, szOf, Nat.reduceLeDiff, Nat.reduceLT, Nat.reduceMul, Nat.reduceEqDiff, ne_eq, Int.reduceLT, Int.reduceLE, Int.reduceEq, hb.get, hns.get, hns.len, hns.szk, List.length_map, getD_nth hj, eNode, hl])) | ((with_reducible first | refine callA_of0 (S_l4Named id ns (bs :: vs :: rest) p.forest.nodes false _ H hb hns (by omega) h4 h4') ?_ | refine callD_of0 (S_l4Named id ns (bs :: vs :: rest) p.forest.nodes false _ H hb hns (by omega) h4 h4') ?_); simp only [TT, RS, flagOf, gslot, aop, ev, cv, putA, pickAV, if_false, if_true, Nat.reduceAdd, Nat.reduceSub, true_implies, reduceCtorEq, false_implies, implies_true, retAll, retOne, oneOf, cond_true, cond_false, rd, wr, joinT, splice, lay, layRows, abuiltin, abPure, abMem, szv, asNat, loOf, aslice, kindOf, szOf, Nat.reduceLeDiff, Nat.reduceLT, Nat.reduceMul, Nat.reduceEqDiff, ne_eq, Int.reduceLT, Int.reduceLE, Int.reduceEq, hb.get, hns.get, hns.len, hns.szk, List.length_map, getD_nth hj, eNode, hl]))
      all_goals first | omega | (simp only [anyL_nil, anyL_any, anyL_same, anyL_int, anyL_bool, and_true, true_and]; rw [wrap_succ (by omega)]; done) | exact hex hb_ | (rw [hbad (by rw [hexd, if_neg hb_])]; done) | (rw [hexd, if_pos (Decidable.not_not.1 hb_)]; done)
    | false =>
      have hw : wantN p j = (cntI (j : Int) (rts p) : Int) := by rw [wantN, hl]; rfl
      rw [hw] at hexd
      simp only [TT, RS, flagOf, gslot, aop, ev, cv, putA, pickAV, if_false, if_true, Nat.reduceAdd, Nat.reduceSub, true_implies, reduceCtorEq, false_implies, implies_true, retAll, retOne, oneOf, cond_true, cond_false, rd, wr, joinT, splice, lay, layRows, abuiltin, abPure, abMem, szv, asNat, loOf, aslice, kindOf, szOf, Nat.reduceLeDiff, Nat.reduceLT, Nat.reduceMul, Nat.reduceEqDiff, ne_eq, Int.reduceLT, Int.reduceLE, Int.reduceEq, hb.get, hns.get, hns.len, hns.szk, List.length_map, getD_nth hj, eNode, hl]
      repeat' (first | (with_reducible refine And.intro (up_succ hV ?_) (wk_any rfl ?_)) | (with_reducible refine wk_same ?_) | ((with_reducible refine wk_drop ?_ ?_); rotate_left; rfl) | (with_reducible refine And.intro ?_ ?_) | (with_reducible intro _) | ((with_reducible first | refine br_of ?_ ?_ | refine guB_ofT ?_ ?_ | refine guB_ofF ?_ ?_ | refine guD_ofT ?_ ?_ | refine guD_ofF ?_ ?_) <;> intro hb_ <;> (try simp only [decide_eq_true_eq, decide_eq_false_iff_not, Bool.not_true, Bool.not_false, Bool.not_eq_eq_eq_not, cond_true, cond_false] at hb_) <;> (try (exact absurd hb_ (by omega))) <;> (try simp only [TT, RS, flagOf, gslot, aop, ev, cv, putA, pickAV, if_false, if_true, Nat.reduceAdd, Nat.reduceSub, true_implies, reduceCtorEq, false_implies, implies_true, retAll, retOne, oneOf, cond_true, cond_false, rd, wr, joinT, splice, lay, layRows, abuiltin, abPure, abMem, szv, asNat, loOf, aslice, kindOf, szOf, Nat.reduceLeDiff, Nat.reduceLT, Nat.reduceMul, Nat.reduceEqDiff, ne_eq, Int.reduceLT, Int.reduceLE, Int.reduceEq, hb.get, hns.get, hns.len, hns.szk, List.length_map, getD_nth hj, eNode, hl])) | ((with_reducible first | refine callA_of0 (S_l4Named id ns (bs :: vs :: rest) p.forest.nodes false _ H hb hns (by omega) h4 h4') ?_ | refine callD_of0 (S_l4Named id ns (bs :: vs :: rest) p.forest.nodes false _ H hb hns (by omega) h4 h4') ?_); simp only [TT, RS, flagOf, gslot, aop, ev, cv, putA, pickAV, if_false, if_true, Nat.reduceAdd, Nat.reduceSub, true_implies, reduceCtorEq, false_implies, implies_true, retAll, retOne, oneOf, cond_true, cond_false, rd, wr, joinT, splice, lay, layRows, abuiltin, abPure, abMem, szv, asNat, loOf, aslice, kindOf, szOf, Nat.reduceLeDiff, Nat.reduceLT, Nat.reduceMul, Nat.reduceEqDiff, ne_eq, Int.reduceLT, Int.reduceLE, Int.reduceEq, hb.get, hns.get, hns.len, hns.szk, List.length_map, getD_nth hj, eNode, hl]))
      all_goals first | omega | (simp only [anyL_nil, anyL_any, anyL_same, anyL_int, anyL_bool, and_true, true_and]; rw [wrap_succ (by omega)]; done) | exact hex hb_ | skip
      refine lp_up hT p.vols.length (fun k => [.ptr id 0, .any, .any, .int .i64 (j : Int), .eptr ns j 0, .int .i64 (cntI (j : Int) ((rts p).take k) : Int), .int .i64 (k : Int), .any, .any, .any, .any, .any, .any, .any, .any, .any, .any, .any, .any, .any, .any, .any, .any, .any, .any, .any, .any, .any, .any, .any, .any, .any, .any, .any, .any, .any, .any, .any, .any, .any, .any, .any, .any, .any, .any, .any, .any, .any, .any, .any, .any, .any, .any, .any, .any, .any, .any, .any, .any, .any, .any, .any, .any, .any, .any, .any]) (fun k => H) (fun k => True) (by kernel_rfl) trivial ?_ (fun k hk _ => ?_) (fun _ => ?_)
      · exact wk_any rfl (by simp only [anyL_nil, anyL_any, anyL_same, anyL_int, anyL_bool, and_true, true_and]; simp [cntI, cnt, anyL_nil])
      · have hc := cntI_succ (k := (j : Int)) (xs := rts p) (j := k) (by simp [rts]; exact hk)
        have hle := cntI_le (k := (j : Int)) (xs := (rts p).take k)
        rw [List.length_take] at hle
        rw [rts_nth hk] at hc
        simp only [TT, RS, flagOf, gslot, aop, ev, cv, putA, pickAV, if_false, if_true, Nat.reduceAdd, Nat.reduceSub, true_implies, reduceCtorEq, false_implies, implies_true, retAll, retOne, oneOf, cond_true, cond_false, rd, wr, joinT, splice, lay, layRows, abuiltin, abPure, abMem, szv, asNat, loOf, aslice, kindOf, szOf, Nat.reduceLeDiff, Nat.reduceLT, Nat.reduceMul, Nat.reduceEqDiff, ne_eq, Int.reduceLT, Int.reduceLE, Int.reduceEq, hb.get, hvs.get, hvs.len, hvs.szk, List.length_map, getD_nth hk, eVol]
        repeat' (first | (with_reducible refine wk_any rfl ?_) | (with_reducible refine wk_same ?_) | ((with_reducible refine wk_drop ?_ ?_); rotate_left; rfl) | (with_reducible refine And.intro ?_ ?_) | (with_reducible intro _) | ((with_reducible first | refine br_of ?_ ?_ | refine guB_ofT ?_ ?_ | refine guB_ofF ?_ ?_ | refine guD_ofT ?_ ?_ | refine guD_ofF ?_ ?_) <;> intro hb_ <;> (try simp only [decide_eq_true_eq, decide_eq_false_iff_not, Bool.not_true, Bool.not_false, Bool.not_eq_eq_eq_not, cond_true, cond_false] at hb_) <;> (try (exact absurd hb_ (by omega))) <;> (try simp only [TT, RS, flagOf, gslot, aop, ev, cv, putA, pickAV, if_false, if_true, Nat.reduceAdd, Nat.reduceSub, true_implies, reduceCtorEq, false_implies, implies_true, retAll, retOne, oneOf, cond_true, cond_false, rd, wr, joinT, splice, lay, layRows, abuiltin, abPure, abMem, szv, asNat, loOf, aslice, kindOf, szOf, Nat.reduceLeDiff, Nat.reduceLT, Nat.reduceMul, Nat.reduceEqDiff, ne_eq, Int.reduceLT, Int.reduceLE, Int.reduceEq, hb.get, hvs.get, hvs.len, hvs.szk, List.length_map, getD_nth hk, eVol])))
        all_goals first | omega | (simp only [anyL_nil, anyL_any, anyL_same, anyL_int, anyL_bool, and_true, true_and]; rw [hc, wrap_succ (by omega)]; simp only [*, if_true, if_false, Nat.add_zero, and_true, true_and]; try rw [wrap_succ (by omega)]; done) | skip
      · simp only [TT, RS, flagOf, gslot, aop, ev, cv, putA, pickAV, if_false, if_true, Nat.reduceAdd, Nat.reduceSub, true_implies, reduceCtorEq, false_implies, implies_true, retAll, retOne, oneOf, cond_true, cond_false, rd, wr, joinT, splice, lay, layRows, abuiltin, abPure, abMem, szv, asNat, loOf, aslice, kindOf, szOf, Nat.reduceLeDiff, Nat.reduceLT, Nat.reduceMul, Nat.reduceEqDiff, ne_eq, Int.reduceLT, Int.reduceLE, Int.reduceEq, hb.get, hvs.len, hns.get, hns.len, hns.szk, List.length_map, getD_nth hj, eNode]
        repeat' (first | (with_reducible refine And.intro (up_succ hV ?_) (wk_any rfl ?_)) | (with_reducible refine wk_same ?_) | ((with_reducible refine wk_drop ?_ ?_); rotate_left; rfl) | (with_reducible refine And.intro ?_ ?_) | (with_reducible intro _) | ((with_reducible first | refine br_of ?_ ?_ | refine guB_ofT ?_ ?_ | refine guB_ofF ?_ ?_ | refine guD_ofT ?_ ?_ | refine guD_ofF ?_ ?_) <;> intro hb_ <;> (try simp only [decide_eq_true_eq, decide_eq_false_iff_not, Bool.not_true, Bool.not_false, Bool.not_eq_eq_eq_not, cond_true, cond_false] at hb_) <;> (try (exact absurd hb_ (by omega))) <;> (try simp only [TT, RS, flagOf, gslot, aop, ev, cv, putA, pickAV, if_false, if_true, Nat.reduceAdd, Nat.reduceSub, true_implies, reduceCtorEq, false_implies, implies_true, retAll, retOne, oneOf, cond_true, cond_false, rd, wr, joinT, splice, lay, layRows, abuiltin, abPure, abMem, szv, asNat, loOf, aslice, kindOf, szOf, Nat.reduceLeDiff, Nat.reduceLT, Nat.reduceMul, Nat.reduceEqDiff, ne_eq, Int.reduceLT, Int.reduceLE, Int.reduceEq, hb.get, hvs.len, hns.get, hns.len, hns.szk, List.length_map, getD_nth hj, eNode])))
        all_goals first | omega | (simp only [anyL_nil, anyL_any, anyL_same, anyL_int, anyL_bool, and_true, true_and]; rw [wrap_succ (by omega)]; done) | skip
        all_goals rw [List.take_of_length_le (by simp [rts])] at hb_
        all_goals first | (rw [hbad (by rw [hexd, if_neg hb_])]; done) | (rw [hexd, if_pos (Decidable.not_not.1 hb_)]; done) | skip
  · simp only [TT, RS, flagOf, gslot, aop, ev, cv, putA, pickAV, if_false, if_true, Nat.reduceAdd, Nat.reduceSub, true_implies, reduceCtorEq, false_implies, implies_true, retAll, retOne, oneOf, cond_true, cond_false, rd, wr, joinT, splice, lay, layRows, abuiltin, abPure, abMem, szv, asNat, loOf, aslice, kindOf, szOf, Nat.reduceLeDiff, Nat.reduceLT, Nat.reduceMul, Nat.reduceEqDiff, ne_eq, Int.reduceLT, Int.reduceLE, Int.reduceEq, hb.get, hns.len, List.length_map]
    repeat' (first | (with_reducible refine wk_same ?_) | ((with_reducible refine wk_drop ?_ ?_); rotate_left; rfl) | (with_reducible refine And.intro ?_ ?_) | (with_reducible intro _) | ((with_reducible first | refine br_of ?_ ?_ | refine guB_ofT ?_ ?_ | refine guB_ofF ?_ ?_ | refine guD_ofT ?_ ?_ | refine guD_ofF ?_ ?_) <;> intro hb_ <;> (try simp only [decide_eq_true_eq, decide_eq_false_iff_not, Bool.not_true, Bool.not_false, Bool.not_eq_eq_eq_not, cond_true, cond_false] at hb_) <;> (try (exact absurd hb_ (by omega))) <;> (try simp only [TT, RS, flagOf, gslot, aop, ev, cv, putA, pickAV, if_false, if_true, Nat.reduceAdd, Nat.reduceSub, true_implies, reduceCtorEq, false_implies, implies_true, retAll, retOne, oneOf, cond_true, cond_false, rd, wr, joinT, splice, lay, layRows, abuiltin, abPure, abMem, szv, asNat, loOf, aslice, kindOf, szOf, Nat.reduceLeDiff, Nat.reduceLT, Nat.reduceMul, Nat.reduceEqDiff, ne_eq, Int.reduceLT, Int.reduceLE, Int.reduceEq, hb.get, hns.len, List.length_map])))
    all_goals first | omega | (rw [fnz_0 hV]; rfl) | skip
end Go.Proofs.Ytkecenijjdpfdaa.AL
