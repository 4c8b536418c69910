/-
  The words of a difference.
-/
import Derived.Test.YtompkmjpikabkaaALD1
namespace Go.Proofs.Ytompkmjpikabkaa.AL
open Go Go.Proofs.Ytompkmjpikabkaa
set_option linter.unusedVariables false
set_option linter.unusedSimpArgs false
set_option maxRecDepth 100000
set_option maxHeartbeats 2000000

theorem stepsF_ok {xs : List GStep} (h : stepsF xs = 0) {j : Nat} (hj : j < xs.length) : (1 ≤ (nth xs j).vol ∧ (nth xs j).vol ≤ 99) ∧ (0 ≤ (nth xs j).pos ∧ (nth xs j).pos ≤ 15) ∧ (0 ≤ (nth xs j).val ∧ (nth xs j).val ≤ 255) := by
  have h1 := fnz_zero h j hj
  unfold stepF at h1
  split at h1
  · cases h1
  · rename_i h2
    simp only [Bool.or_eq_true, Bool.not_eq_true', not_or, Bool.not_eq_false] at h2
    exact ⟨inR_iff.1 h2.1.1, inR_iff.1 h2.1.2, inR_iff.1 h2.2⟩
theorem delta_ok {d : GDelta} (h : deltaF d = 0) : (d.vols.length : Int) ≤ 6 ∧ (d.steps.length : Int) ≤ 120 ∧ volsF d.vols = 0 ∧ stepsF d.steps = 0 := by
  unfold deltaF at h
  split at h
  · cases h
  split at h
  · cases h
  rename_i h2
  split at h
  · contradiction
  rename_i h3
  simp only [Bool.or_eq_true, decide_eq_true_eq, not_or] at h2
  exact ⟨by omega, by omega, Decidable.not_not.1 h3, h⟩
def pkV (v : GVol) : List Int := [v.id * 256 + v.quota]
def pkS (s : GStep) : List Int := [(s.vol * 256 + s.pos) * 2 + (if s.has then 1 else 0), s.val]
def pkA (d : GDelta) (j : Nat) : List Int := [d.fr, d.to, (d.vols.length : Int)] ++ (d.vols.take j).flatMap pkV
def pkB (d : GDelta) (j : Nat) : List Int := pkA d d.vols.length ++ [(d.steps.length : Int)] ++ (d.steps.take j).flatMap pkS
def pkW (d : GDelta) : List Int := pkB d d.steps.length
theorem pkA_succ {d : GDelta} {j : Nat} (h : j < d.vols.length) : pkA d (j + 1) = pkA d j ++ pkV (nth d.vols j) := by simp only [pkA, flat_app h, List.append_assoc]
theorem pkB_succ {d : GDelta} {j : Nat} (h : j < d.steps.length) : pkB d (j + 1) = pkB d j ++ pkS (nth d.steps j) := by simp only [pkB, flat_app h, List.append_assoc]
theorem pkA_len {d : GDelta} {j : Nat} (h : j ≤ d.vols.length) : (pkA d j).length = 3 + j := by
  induction j with
  | zero => rfl
  | succ j ih => rw [pkA_succ (by omega), List.length_append, ih (by omega)]; simp [pkV]; omega
theorem pkB_len {d : GDelta} {j : Nat} (h : j ≤ d.steps.length) : (pkB d j).length = 4 + d.vols.length + 2 * j := by
  induction j with
  | zero => simp [pkB, pkA_len]; omega
  | succ j ih => rw [pkB_succ (by omega), List.length_append, ih (by omega)]; simp [pkS]; omega
theorem I_pack (vs ss : AV) (d : GDelta) (H : Heap) (hv : Sl H vs 3 (d.vols.map eVol)) (hs : Sl H ss 4 (d.steps.map eStep)) (hd : deltaF d = 0) :
    ADet Try.prog 51 [.agg [.int .i64 d.fr, .int .i64 d.to, vs, ss]] H (.own H.length 1 0 (pkW d).length (pkW d).length) (H ++ [some (.arr 1 ((pkW d).map eInt))]) := by
  obtain ⟨hm, hn, hvo, hso⟩ := delta_ok hd
  refine adet_run hT (fun _ => false) Try.func51 rfl (by kernel_rfl) (by kernel_rfl) ?_
  simp only [TT, RS, flagOf, gslot, aop, ev, cv, putA, pickAV, if_false, if_true, Nat.reduceAdd, Nat.reduceSub, true_implies, reduceCtorEq, false_implies, implies_true, retAll, retOne, oneOf, cond_true, cond_false, rd, wr, joinT, splice, lay, layRows, abuiltin, abPure, abMem, szv, asNat, loOf, aslice, kindOf, szOf, Nat.reduceLeDiff, Nat.reduceLT, Nat.reduceMul, Nat.reduceEqDiff, ne_eq, Int.reduceLT, Int.reduceLE, Int.reduceEq, Try.ntmps51, Try.results51, hv.isc, hv.cel, hv.nan, hs.isc, hs.cel, hs.nan, hv.get, hv.app, hv.len, hv.szk, hs.get, hs.app, hs.len, hs.szk, List.length_map]
  repeat' (first | (with_reducible refine wk_same ?_) | ((with_reducible refine wk_drop ?_ ?_); rotate_left; rfl) | (with_reducible refine And.intro ?_ ?_) | (with_reducible intro _) | ((with_reducible first | refine br_of ?_ ?_ | refine guB_ofT ?_ ?_ | refine guB_ofF ?_ ?_ | refine guD_ofT ?_ ?_ | refine guD_ofF ?_ ?_) <;> intro hb_ <;> (try simp only [decide_eq_true_eq, decide_eq_false_iff_not, Bool.not_true, Bool.not_false, Bool.not_eq_eq_eq_not, cond_true, cond_false] at hb_) <;> (try (exact absurd hb_ (by omega))) <;> (try simp only [TT, RS, flagOf, gslot, aop, ev, cv, putA, pickAV, if_false, if_true, Nat.reduceAdd, Nat.reduceSub, true_implies, reduceCtorEq, false_implies, implies_true, retAll, retOne, oneOf, cond_true, cond_false, rd, wr, joinT, splice, lay, layRows, abuiltin, abPure, abMem, szv, asNat, loOf, aslice, kindOf, szOf, Nat.reduceLeDiff, Nat.reduceLT, Nat.reduceMul, Nat.reduceEqDiff, ne_eq, Int.reduceLT, Int.reduceLE, Int.reduceEq, hv.isc, hv.cel, hv.nan, hs.isc, hs.cel, hs.nan, hv.get, hv.app, hv.len, hv.szk, hs.get, hs.app, hs.len, hs.szk, List.length_map])))
  all_goals first | exact ⟨rfl, rfl⟩ | skip
  refine lp_up hT d.vols.length (fun j => [.any, .ptr H.length 0, .any, .own (H.length + 2) 1 0 (3 + j) (3 + j), .any, .any, .any, .any, .any, .any, .any, .any, .any, .any, .any, .any, .any, .any, vs, .int .i64 (d.vols.length : Int), .int .i64 (j : Int), .any, .any, .any, .any, .any, .any, .any, .any, .any, .any, .any, .any, .any, .any, .any, .any, .any, .any, .any, .any, .any, .any, .any, .any, .any, .any, .any, .any, .any, .any, .any, .any, .any, .any, .any, .any, .any, .any, .any, .any, .any, .any, .any, .any, .any]) (fun j => H ++ [some (.box [.int .i64 d.fr, .int .i64 d.to, vs, ss]), none, some (.arr 1 ((pkA d j).map eInt))]) (fun _ => True) (by kernel_rfl) trivial ?_ (fun j hj _ => ?_) (fun hV => ?_)
  · exact wk_name 1 rfl (by
      simp only [slMs_cons, slMs_nil, slM_any, slM_same, and_true, true_and]
      exact ⟨.inr (.inr ⟨_, _, _, _, rfl, by simp⟩), slM_int.mpr rfl⟩)
  · have hl := pkA_len (Nat.le_of_lt hj)
    have hok := volsF_ok hvo hj
    have e1 : IntKind.i64.wrap ((nth d.vols j).id * 256) = (nth d.vols j).id * 256 := wrap_in (by omega) (by omega)
    have e2 : IntKind.i64.wrap ((nth d.vols j).id * 256 + (nth d.vols j).quota) = (nth d.vols j).id * 256 + (nth d.vols j).quota := wrap_in (by omega) (by omega)
    simp only [TT, RS, flagOf, gslot, aop, ev, cv, putA, pickAV, if_false, if_true, Nat.reduceAdd, Nat.reduceSub, true_implies, reduceCtorEq, false_implies, implies_true, retAll, retOne, oneOf, cond_true, cond_false, rd, wr, joinT, splice, lay, layRows, abuiltin, abPure, abMem, szv, asNat, loOf, aslice, kindOf, szOf, Nat.reduceLeDiff, Nat.reduceLT, Nat.reduceMul, Nat.reduceEqDiff, ne_eq, Int.reduceLT, Int.reduceLE, Int.reduceEq, hv.get, hv.app, hv.len, hv.szk, List.length_map, getD_nth hj, eVol, hl, Nat.le_refl, take_all (l := (pkA d j).map eInt) (n := 3 + j) (by rw [List.length_map, hl]), e1, e2]
    repeat' (first | (with_reducible refine wk_same ?_) | ((with_reducible refine wk_drop ?_ ?_); rotate_left; rfl) | (with_reducible refine And.intro ?_ ?_) | (with_reducible intro _) | ((with_reducible first | refine br_of ?_ ?_ | refine guB_ofT ?_ ?_ | refine guB_ofF ?_ ?_ | refine guD_ofT ?_ ?_ | refine guD_ofF ?_ ?_) <;> intro hb_ <;> (try simp only [decide_eq_true_eq, decide_eq_false_iff_not, Bool.not_true, Bool.not_false, Bool.not_eq_eq_eq_not, cond_true, cond_false] at hb_) <;> (try (exact absurd hb_ (by omega))) <;> (try simp only [TT, RS, flagOf, gslot, aop, ev, cv, putA, pickAV, if_false, if_true, Nat.reduceAdd, Nat.reduceSub, true_implies, reduceCtorEq, false_implies, implies_true, retAll, retOne, oneOf, cond_true, cond_false, rd, wr, joinT, splice, lay, layRows, abuiltin, abPure, abMem, szv, asNat, loOf, aslice, kindOf, szOf, Nat.reduceLeDiff, Nat.reduceLT, Nat.reduceMul, Nat.reduceEqDiff, ne_eq, Int.reduceLT, Int.reduceLE, Int.reduceEq, hv.get, hv.app, hv.len, hv.szk, List.length_map, getD_nth hj, eVol, hl, Nat.le_refl, take_all (l := (pkA d j).map eInt) (n := 3 + j) (by rw [List.length_map, hl]), e1, e2])))
    all_goals first
      | omega
      | exact ⟨rfl, rfl⟩
      | (rename_i hr; simp only [List.mem_cons, List.not_mem_nil, or_false] at hr; subst hr; exact ⟨rfl, rfl⟩)
      | skip
    refine wk_grow 3 (sub_name 1) ?_ ?_ ?_
    · simp only [slKs_cons, slKs_nil, slK_any, slK_int, slK_old, and_true, true_and, lt_ptr, lt_new0, (hv.flt flat_vol).app _]
      exact ⟨slK_at 0 (by simp) (by simp) (by simp) (by omega) (by omega), wrap_succ (by omega)⟩
    · rw [pkA_succ hj, List.map_append]; rfl
    · exact flat_int.ids
  · have hl := pkA_len (Nat.le_refl d.vols.length)
    simp only [TT, RS, flagOf, gslot, aop, ev, cv, putA, pickAV, if_false, if_true, Nat.reduceAdd, Nat.reduceSub, true_implies, reduceCtorEq, false_implies, implies_true, retAll, retOne, oneOf, cond_true, cond_false, rd, wr, joinT, splice, lay, layRows, abuiltin, abPure, abMem, szv, asNat, loOf, aslice, kindOf, szOf, Nat.reduceLeDiff, Nat.reduceLT, Nat.reduceMul, Nat.reduceEqDiff, ne_eq, Int.reduceLT, Int.reduceLE, Int.reduceEq, hv.get, hv.app, hv.len, hv.szk, hs.get, hs.app, hs.len, hs.szk, List.length_map, hl, Nat.le_refl, take_all (l := (pkA d d.vols.length).map eInt) (n := 3 + d.vols.length) (by rw [List.length_map, hl])]
    repeat' (first | (with_reducible refine wk_same ?_) | ((with_reducible refine wk_drop ?_ ?_); rotate_left; rfl) | (with_reducible refine And.intro ?_ ?_) | (with_reducible intro _) | ((with_reducible first | refine br_of ?_ ?_ | refine guB_ofT ?_ ?_ | refine guB_ofF ?_ ?_ | refine guD_ofT ?_ ?_ | refine guD_ofF ?_ ?_) <;> intro hb_ <;> (try simp only [decide_eq_true_eq, decide_eq_false_iff_not, Bool.not_true, Bool.not_false, Bool.not_eq_eq_eq_not, cond_true, cond_false] at hb_) <;> (try (exact absurd hb_ (by omega))) <;> (try simp only [TT, RS, flagOf, gslot, aop, ev, cv, putA, pickAV, if_false, if_true, Nat.reduceAdd, Nat.reduceSub, true_implies, reduceCtorEq, false_implies, implies_true, retAll, retOne, oneOf, cond_true, cond_false, rd, wr, joinT, splice, lay, layRows, abuiltin, abPure, abMem, szv, asNat, loOf, aslice, kindOf, szOf, Nat.reduceLeDiff, Nat.reduceLT, Nat.reduceMul, Nat.reduceEqDiff, ne_eq, Int.reduceLT, Int.reduceLE, Int.reduceEq, hv.get, hv.app, hv.len, hv.szk, hs.get, hs.app, hs.len, hs.szk, List.length_map, hl, Nat.le_refl, take_all (l := (pkA d d.vols.length).map eInt) (n := 3 + d.vols.length) (by rw [List.length_map, hl])])))
    all_goals first
      | omega
      | exact ⟨rfl, rfl⟩
      | (rename_i hr; simp only [List.mem_cons, List.not_mem_nil, or_false] at hr; subst hr; exact ⟨rfl, rfl⟩)
      | skip
    refine lp_up hT d.steps.length (fun j => [.any, .ptr H.length 0, .any, .own (H.length + 5) 1 0 (4 + d.vols.length + 2 * j) (4 + d.vols.length + 2 * j), .any, .any, .any, .any, .any, .any, .any, .any, .any, .any, .any, .any, .any, .any, .any, .any, .any, .any, .any, .any, .any, .any, .any, .any, .any, .any, .any, .any, .any, .any, .any, .any, .any, .any, .any, .any, .any, ss, .int .i64 (d.steps.length : Int), .int .i64 (j : Int), .any, .any, .any, .any, .any, .any, .any, .any, .any, .any, .any, .any, .any, .any, .any, .any, .any, .any, .any, .any, .any, .any]) (fun j => H ++ [some (.box [.int .i64 d.fr, .int .i64 d.to, vs, ss]), none, none, some (.arr 1 [[.int .i64 (d.steps.length : Int)]]), none, some (.arr 1 ((pkB d j).map eInt))]) (fun _ => True) (by kernel_rfl) trivial ?_ (fun j hj _ => ?_) (fun hV => ?_)
    · have h0 : (pkA d d.vols.length).map eInt ++ [[.int .i64 (d.steps.length : Int)]] = (pkB d 0).map eInt := by simp [pkB]
      rw [h0]
      exact wk_name 4 rfl (by
        simp only [slMs_cons, slMs_nil, slM_any, slM_same, and_true, true_and]
        exact ⟨.inr (.inr ⟨_, _, _, _, rfl, by simp; omega⟩), slM_int.mpr rfl⟩)
    · have hl := pkB_len (Nat.le_of_lt hj)
      have hok := stepsF_ok hso hj
      have e1 : IntKind.i64.wrap ((nth d.steps j).vol * 256) = (nth d.steps j).vol * 256 := wrap_in (by omega) (by omega)
      have e2 : IntKind.i64.wrap ((nth d.steps j).vol * 256 + (nth d.steps j).pos) = (nth d.steps j).vol * 256 + (nth d.steps j).pos := wrap_in (by omega) (by omega)
      have e3 : IntKind.i64.wrap (2 * ((nth d.steps j).vol * 256 + (nth d.steps j).pos)) = ((nth d.steps j).vol * 256 + (nth d.steps j).pos) * 2 := by rw [wrap_in (by omega) (by omega)]; omega
      have e4 : IntKind.i64.wrap (((nth d.steps j).vol * 256 + (nth d.steps j).pos) * 2 + 1) = ((nth d.steps j).vol * 256 + (nth d.steps j).pos) * 2 + 1 := wrap_in (by omega) (by omega)
      simp only [TT, RS, flagOf, gslot, aop, ev, cv, putA, pickAV, if_false, if_true, Nat.reduceAdd, Nat.reduceSub, true_implies, reduceCtorEq, false_implies, implies_true, retAll, retOne, oneOf, cond_true, cond_false, rd, wr, joinT, splice, lay, layRows, abuiltin, abPure, abMem, szv, asNat, loOf, aslice, kindOf, szOf, Nat.reduceLeDiff, Nat.reduceLT, Nat.reduceMul, Nat.reduceEqDiff, ne_eq, Int.reduceLT, Int.reduceLE, Int.reduceEq, hs.get, hs.app, hs.len, hs.szk, List.length_map, getD_nth hj, eStep, hl, Nat.le_refl, take_all (l := (pkB d j).map eInt) (n := 4 + d.vols.length + 2 * j) (by rw [List.length_map, hl]), take_all (l := (pkB d j).map eInt) (n := 4 + (d.vols.length + 2 * j)) (by rw [List.length_map, hl]; omega), e1, e2, e3, e4]
      repeat' (first | (with_reducible refine wk_same ?_) | ((with_reducible refine wk_drop ?_ ?_); rotate_left; rfl) | (with_reducible refine And.intro ?_ ?_) | (with_reducible intro _) | ((with_reducible first | refine br_of ?_ ?_ | refine guB_ofT ?_ ?_ | refine guB_ofF ?_ ?_ | refine guD_ofT ?_ ?_ | refine guD_ofF ?_ ?_) <;> intro hb_ <;> (try simp only [decide_eq_true_eq, decide_eq_false_iff_not, Bool.not_true, Bool.not_false, Bool.not_eq_eq_eq_not, cond_true, cond_false] at hb_) <;> (try (exact absurd hb_ (by omega))) <;> (try simp only [TT, RS, flagOf, gslot, aop, ev, cv, putA, pickAV, if_false, if_true, Nat.reduceAdd, Nat.reduceSub, true_implies, reduceCtorEq, false_implies, implies_true, retAll, retOne, oneOf, cond_true, cond_false, rd, wr, joinT, splice, lay, layRows, abuiltin, abPure, abMem, szv, asNat, loOf, aslice, kindOf, szOf, Nat.reduceLeDiff, Nat.reduceLT, Nat.reduceMul, Nat.reduceEqDiff, ne_eq, Int.reduceLT, Int.reduceLE, Int.reduceEq, hs.get, hs.app, hs.len, hs.szk, List.length_map, getD_nth hj, eStep, hl, Nat.le_refl, take_all (l := (pkB d j).map eInt) (n := 4 + d.vols.length + 2 * j) (by rw [List.length_map, hl]), take_all (l := (pkB d j).map eInt) (n := 4 + (d.vols.length + 2 * j)) (by rw [List.length_map, hl]; omega), e1, e2, e3, e4])))
      all_goals first
        | omega
        | exact ⟨rfl, rfl⟩
        | (rename_i hr; simp only [List.mem_cons, List.not_mem_nil, or_false] at hr; rcases hr with rfl | rfl <;> exact ⟨rfl, rfl⟩)
        | skip
      all_goals refine wk_grow 3 (sub_name 4) ?_ ?_ flat_int.ids
      all_goals first
        | (rw [pkB_succ hj, List.map_append]; simp only [pkS, hb_, if_true, if_false, Bool.false_eq_true, Int.add_zero]; rfl)
        | (simp only [slKs_cons, slKs_nil, slK_any, slK_int, slK_old, and_true, true_and, lt_ptr, lt_new0, (hs.flt flat_step).app _]
           exact ⟨slK_at 0 (by simp) (by simp) (by simp) (by omega) (by omega), wrap_succ (by omega)⟩)
    · have hl := pkB_len (Nat.le_refl d.steps.length)
      simp only [TT, RS, flagOf, gslot, aop, ev, cv, putA, pickAV, if_false, if_true, Nat.reduceAdd, Nat.reduceSub, true_implies, reduceCtorEq, false_implies, implies_true, retAll, retOne, oneOf, cond_true, cond_false, rd, wr, joinT, splice, lay, layRows, abuiltin, abPure, abMem, szv, asNat, loOf, aslice, kindOf, szOf, Nat.reduceLeDiff, Nat.reduceLT, Nat.reduceMul, Nat.reduceEqDiff, ne_eq, Int.reduceLT, Int.reduceLE, Int.reduceEq, hs.app, hs.len, hs.szk, List.length_map]
      repeat' (first | (with_reducible refine wk_same ?_) | ((with_reducible refine wk_drop ?_ ?_); rotate_left; rfl) | (with_reducible refine And.intro ?_ ?_) | (with_reducible intro _) | ((with_reducible first | refine br_of ?_ ?_ | refine guB_ofT ?_ ?_ | refine guB_ofF ?_ ?_ | refine guD_ofT ?_ ?_ | refine guD_ofF ?_ ?_) <;> intro hb_ <;> (try simp only [decide_eq_true_eq, decide_eq_false_iff_not, Bool.not_true, Bool.not_false, Bool.not_eq_eq_eq_not, cond_true, cond_false] at hb_) <;> (try (exact absurd hb_ (by omega))) <;> (try simp only [TT, RS, flagOf, gslot, aop, ev, cv, putA, pickAV, if_false, if_true, Nat.reduceAdd, Nat.reduceSub, true_implies, reduceCtorEq, false_implies, implies_true, retAll, retOne, oneOf, cond_true, cond_false, rd, wr, joinT, splice, lay, layRows, abuiltin, abPure, abMem, szv, asNat, loOf, aslice, kindOf, szOf, Nat.reduceLeDiff, Nat.reduceLT, Nat.reduceMul, Nat.reduceEqDiff, ne_eq, Int.reduceLT, Int.reduceLE, Int.reduceEq, hs.app, hs.len, hs.szk, List.length_map])))
      have e : (pkW d).length = 4 + (d.vols.length + 2 * d.steps.length) := by rw [pkW, hl]; omega
      rw [e]
      exact wk_ownS rfl flat_int.ids
theorem S_pack (vs ss : AV) (d : GDelta) (H : Heap) (hv : Sl H vs 3 (d.vols.map eVol)) (hs : Sl H ss 4 (d.steps.map eStep)) (hd : deltaF d = 0) :
    ADet Try.prog 47 [.agg [.int .i64 d.fr, .int .i64 d.to, vs, ss]] H (.own H.length 1 0 (pkW d).length (pkW d).length) (H ++ [some (.arr 1 ((pkW d).map eInt))]) := by
  obtain ⟨hm, hn, hvo, hso⟩ := delta_ok hd
  refine adet_run hT (fun _ => false) Try.func47 rfl (by kernel_rfl) (by kernel_rfl) ?_
  simp only [TT, RS, flagOf, gslot, aop, ev, cv, putA, pickAV, if_false, if_true, Nat.reduceAdd, Nat.reduceSub, true_implies, reduceCtorEq, false_implies, implies_true, retAll, retOne, oneOf, cond_true, cond_false, rd, wr, joinT, splice, lay, layRows, abuiltin, abPure, abMem, szv, asNat, loOf, aslice, kindOf, szOf, Nat.reduceLeDiff, Nat.reduceLT, Nat.reduceMul, Nat.reduceEqDiff, ne_eq, Int.reduceLT, Int.reduceLE, Int.reduceEq, Try.ntmps47, Try.results47, hv.isc, hv.cel, hv.nan, hs.isc, hs.cel, hs.nan, hv.get, hv.app, hv.len, hv.szk, hs.get, hs.app, hs.len, hs.szk, List.length_map]
  repeat' (first | (with_reducible refine wk_same ?_) | ((with_reducible refine wk_drop ?_ ?_); rotate_left; rfl) | (with_reducible refine And.intro ?_ ?_) | (with_reducible intro _) | ((with_reducible first | refine br_of ?_ ?_ | refine guB_ofT ?_ ?_ | refine guB_ofF ?_ ?_ | refine guD_ofT ?_ ?_ | refine guD_ofF ?_ ?_) <;> intro hb_ <;> (try simp only [decide_eq_true_eq, decide_eq_false_iff_not, Bool.not_true, Bool.not_false, Bool.not_eq_eq_eq_not, cond_true, cond_false] at hb_) <;> (try (exact absurd hb_ (by omega))) <;> (try simp only [TT, RS, flagOf, gslot, aop, ev, cv, putA, pickAV, if_false, if_true, Nat.reduceAdd, Nat.reduceSub, true_implies, reduceCtorEq, false_implies, implies_true, retAll, retOne, oneOf, cond_true, cond_false, rd, wr, joinT, splice, lay, layRows, abuiltin, abPure, abMem, szv, asNat, loOf, aslice, kindOf, szOf, Nat.reduceLeDiff, Nat.reduceLT, Nat.reduceMul, Nat.reduceEqDiff, ne_eq, Int.reduceLT, Int.reduceLE, Int.reduceEq, hv.isc, hv.cel, hv.nan, hs.isc, hs.cel, hs.nan, hv.get, hv.app, hv.len, hv.szk, hs.get, hs.app, hs.len, hs.szk, List.length_map])))
  all_goals first | exact ⟨rfl, rfl⟩ | skip
  refine lp_up hT d.vols.length (fun j => [.any, .ptr H.length 0, .any, .own (H.length + 2) 1 0 (3 + j) (3 + j), .int .i64 (j : Int), .any, .any, .any, .any, .any, .any, .any, .any, .any, .any, .any, .any, .any, .any, .any, .any, .any, .any, .any, .any, .any, .any, .any, .any, .any, .any, .any, .any, .any, .any, .any, .any, .any, .any, .any, .any, .any, .any, .any, .any, .any, .any, .any, .any, .any, .any, .any, .any, .any, .any, .any, .any, .any, .any, .any, .any, .any, .any, .any, .any, .any, .any, .any, .any, .any, .any, .any, .any, .any, .any]) (fun j => H ++ [some (.box [.int .i64 d.fr, .int .i64 d.to, vs, ss]), none, some (.arr 1 ((pkA d j).map eInt))]) (fun _ => True) (by kernel_rfl) trivial ?_ (fun j hj _ => ?_) (fun hV => ?_)
  · exact wk_name 1 rfl (by
      simp only [slMs_cons, slMs_nil, slM_any, slM_same, and_true, true_and]
      exact ⟨.inr (.inr ⟨_, _, _, _, rfl, by simp⟩), slM_int.mpr rfl⟩)
  · have hl := pkA_len (Nat.le_of_lt hj)
    have hok := volsF_ok hvo hj
    have e1 : IntKind.i64.wrap ((nth d.vols j).id * 256) = (nth d.vols j).id * 256 := wrap_in (by omega) (by omega)
    have e2 : IntKind.i64.wrap ((nth d.vols j).id * 256 + (nth d.vols j).quota) = (nth d.vols j).id * 256 + (nth d.vols j).quota := wrap_in (by omega) (by omega)
    simp only [TT, RS, flagOf, gslot, aop, ev, cv, putA, pickAV, if_false, if_true, Nat.reduceAdd, Nat.reduceSub, true_implies, reduceCtorEq, false_implies, implies_true, retAll, retOne, oneOf, cond_true, cond_false, rd, wr, joinT, splice, lay, layRows, abuiltin, abPure, abMem, szv, asNat, loOf, aslice, kindOf, szOf, Nat.reduceLeDiff, Nat.reduceLT, Nat.reduceMul, Nat.reduceEqDiff, ne_eq, Int.reduceLT, Int.reduceLE, Int.reduceEq, hv.get, hv.app, hv.len, hv.szk, List.length_map, getD_nth hj, eVol, hl, Nat.le_refl, take_all (l := (pkA d j).map eInt) (n := 3 + j) (by rw [List.length_map, hl]), e1, e2]
    repeat' (first | (with_reducible refine wk_same ?_) | ((with_reducible refine wk_drop ?_ ?_); rotate_left; rfl) | (with_reducible refine And.intro ?_ ?_) | (with_reducible intro _) | ((with_reducible first | refine br_of ?_ ?_ | refine guB_ofT ?_ ?_ | refine guB_ofF ?_ ?_ | refine guD_ofT ?_ ?_ | refine guD_ofF ?_ ?_) <;> intro hb_ <;> (try simp only [decide_eq_true_eq, decide_eq_false_iff_not, Bool.not_true, Bool.not_false, Bool.not_eq_eq_eq_not, cond_true, cond_false] at hb_) <;> (try (exact absurd hb_ (by omega))) <;> (try simp only [TT, RS, flagOf, gslot, aop, ev, cv, putA, pickAV, if_false, if_true, Nat.reduceAdd, Nat.reduceSub, true_implies, reduceCtorEq, false_implies, implies_true, retAll, retOne, oneOf, cond_true, cond_false, rd, wr, joinT, splice, lay, layRows, abuiltin, abPure, abMem, szv, asNat, loOf, aslice, kindOf, szOf, Nat.reduceLeDiff, Nat.reduceLT, Nat.reduceMul, Nat.reduceEqDiff, ne_eq, Int.reduceLT, Int.reduceLE, Int.reduceEq, hv.get, hv.app, hv.len, hv.szk, List.length_map, getD_nth hj, eVol, hl, Nat.le_refl, take_all (l := (pkA d j).map eInt) (n := 3 + j) (by rw [List.length_map, hl]), e1, e2])))
    all_goals first
      | omega
      | exact ⟨rfl, rfl⟩
      | (rename_i hr; simp only [List.mem_cons, List.not_mem_nil, or_false] at hr; subst hr; exact ⟨rfl, rfl⟩)
      | skip
    refine wk_grow 2 (sub_name 1) ?_ ?_ ?_
    · simp only [slKs_cons, slKs_nil, slK_any, slK_int, slK_old, and_true, true_and, lt_ptr, lt_new0]
      exact ⟨slK_at 0 (by simp) (by simp) (by simp) (by omega) (by omega), wrap_succ (by omega)⟩
    · rw [pkA_succ hj, List.map_append]; rfl
    · exact flat_int.ids
  · have hl := pkA_len (Nat.le_refl d.vols.length)
    simp only [TT, RS, flagOf, gslot, aop, ev, cv, putA, pickAV, if_false, if_true, Nat.reduceAdd, Nat.reduceSub, true_implies, reduceCtorEq, false_implies, implies_true, retAll, retOne, oneOf, cond_true, cond_false, rd, wr, joinT, splice, lay, layRows, abuiltin, abPure, abMem, szv, asNat, loOf, aslice, kindOf, szOf, Nat.reduceLeDiff, Nat.reduceLT, Nat.reduceMul, Nat.reduceEqDiff, ne_eq, Int.reduceLT, Int.reduceLE, Int.reduceEq, hv.get, hv.app, hv.len, hv.szk, hs.get, hs.app, hs.len, hs.szk, List.length_map, hl, Nat.le_refl, take_all (l := (pkA d d.vols.length).map eInt) (n := 3 + d.vols.length) (by rw [List.length_map, hl])]
    repeat' (first | (with_reducible refine wk_same ?_) | ((with_reducible refine wk_drop ?_ ?_); rotate_left; rfl) | (with_reducible refine And.intro ?_ ?_) | (with_reducible intro _) | ((with_reducible first | refine br_of ?_ ?_ | refine guB_ofT ?_ ?_ | refine guB_ofF ?_ ?_ | refine guD_ofT ?_ ?_ | refine guD_ofF ?_ ?_) <;> intro hb_ <;> (try simp only [decide_eq_true_eq, decide_eq_false_iff_not, Bool.not_true, Bool.not_false, Bool.not_eq_eq_eq_not, cond_true, cond_false] at hb_) <;> (try (exact absurd hb_ (by omega))) <;> (try simp only [TT, RS, flagOf, gslot, aop, ev, cv, putA, pickAV, if_false, if_true, Nat.reduceAdd, Nat.reduceSub, true_implies, reduceCtorEq, false_implies, implies_true, retAll, retOne, oneOf, cond_true, cond_false, rd, wr, joinT, splice, lay, layRows, abuiltin, abPure, abMem, szv, asNat, loOf, aslice, kindOf, szOf, Nat.reduceLeDiff, Nat.reduceLT, Nat.reduceMul, Nat.reduceEqDiff, ne_eq, Int.reduceLT, Int.reduceLE, Int.reduceEq, hv.get, hv.app, hv.len, hv.szk, hs.get, hs.app, hs.len, hs.szk, List.length_map, hl, Nat.le_refl, take_all (l := (pkA d d.vols.length).map eInt) (n := 3 + d.vols.length) (by rw [List.length_map, hl])])))
    all_goals first
      | omega
      | exact ⟨rfl, rfl⟩
      | (rename_i hr; simp only [List.mem_cons, List.not_mem_nil, or_false] at hr; subst hr; exact ⟨rfl, rfl⟩)
      | skip
    refine lp_up hT d.steps.length (fun j => [.any, .ptr H.length 0, .any, .own (H.length + 5) 1 0 (4 + d.vols.length + 2 * j) (4 + d.vols.length + 2 * j), .any, .int .i64 (j : Int), .any, .any, .any, .any, .any, .any, .any, .any, .any, .any, .any, .any, .any, .any, .any, .any, .any, .any, .any, .any, .any, .any, .any, .any, .any, .any, .any, .any, .any, .any, .any, .any, .any, .any, .any, .any, .any, .any, .any, .any, .any, .any, .any, .any, .any, .any, .any, .any, .any, .any, .any, .any, .any, .any, .any, .any, .any, .any, .any, .any, .any, .any, .any, .any, .any, .any, .any, .any, .any]) (fun j => H ++ [some (.box [.int .i64 d.fr, .int .i64 d.to, vs, ss]), none, none, some (.arr 1 [[.int .i64 (d.steps.length : Int)]]), none, some (.arr 1 ((pkB d j).map eInt))]) (fun _ => True) (by kernel_rfl) trivial ?_ (fun j hj _ => ?_) (fun hV => ?_)
    · have h0 : (pkA d d.vols.length).map eInt ++ [[.int .i64 (d.steps.length : Int)]] = (pkB d 0).map eInt := by simp [pkB]
      rw [h0]
      exact wk_name 4 rfl (by
        simp only [slMs_cons, slMs_nil, slM_any, slM_same, and_true, true_and]
        exact ⟨.inr (.inr ⟨_, _, _, _, rfl, by simp; omega⟩), slM_int.mpr rfl⟩)
    · have hl := pkB_len (Nat.le_of_lt hj)
      have hok := stepsF_ok hso hj
      have e1 : IntKind.i64.wrap ((nth d.steps j).vol * 256) = (nth d.steps j).vol * 256 := wrap_in (by omega) (by omega)
      have e2 : IntKind.i64.wrap ((nth d.steps j).vol * 256 + (nth d.steps j).pos) = (nth d.steps j).vol * 256 + (nth d.steps j).pos := wrap_in (by omega) (by omega)
      have e3 : IntKind.i64.wrap (((nth d.steps j).vol * 256 + (nth d.steps j).pos) * 2) = ((nth d.steps j).vol * 256 + (nth d.steps j).pos) * 2 := wrap_in (by omega) (by omega)
      have e4 : IntKind.i64.wrap (((nth d.steps j).vol * 256 + (nth d.steps j).pos) * 2 + 1) = ((nth d.steps j).vol * 256 + (nth d.steps j).pos) * 2 + 1 := wrap_in (by omega) (by omega)
      have e5 : IntKind.i64.wrap (((nth d.steps j).vol * 256 + (nth d.steps j).pos) * 2 + 0) = ((nth d.steps j).vol * 256 + (nth d.steps j).pos) * 2 := by rw [wrap_in (by omega) (by omega)]; omega
      simp only [TT, RS, flagOf, gslot, aop, ev, cv, putA, pickAV, if_false, if_true, Nat.reduceAdd, Nat.reduceSub, true_implies, reduceCtorEq, false_implies, implies_true, retAll, retOne, oneOf, cond_true, cond_false, rd, wr, joinT, splice, lay, layRows, abuiltin, abPure, abMem, szv, asNat, loOf, aslice, kindOf, szOf, Nat.reduceLeDiff, Nat.reduceLT, Nat.reduceMul, Nat.reduceEqDiff, ne_eq, Int.reduceLT, Int.reduceLE, Int.reduceEq, hs.get, hs.app, hs.len, hs.szk, List.length_map, getD_nth hj, eStep, hl, Nat.le_refl, take_all (l := (pkB d j).map eInt) (n := 4 + d.vols.length + 2 * j) (by rw [List.length_map, hl]), take_all (l := (pkB d j).map eInt) (n := 4 + (d.vols.length + 2 * j)) (by rw [List.length_map, hl]; omega), e1, e2, e3, e4, e5]
      repeat' (first | (with_reducible refine wk_same ?_) | ((with_reducible refine wk_drop ?_ ?_); rotate_left; rfl) | (with_reducible refine And.intro ?_ ?_) | (with_reducible intro _) | ((with_reducible first | refine br_of ?_ ?_ | refine guB_ofT ?_ ?_ | refine guB_ofF ?_ ?_ | refine guD_ofT ?_ ?_ | refine guD_ofF ?_ ?_) <;> intro hb_ <;> (try simp only [decide_eq_true_eq, decide_eq_false_iff_not, Bool.not_true, Bool.not_false, Bool.not_eq_eq_eq_not, cond_true, cond_false] at hb_) <;> (try (exact absurd hb_ (by omega))) <;> (try simp only [TT, RS, flagOf, gslot, aop, ev, cv, putA, pickAV, if_false, if_true, Nat.reduceAdd, Nat.reduceSub, true_implies, reduceCtorEq, false_implies, implies_true, retAll, retOne, oneOf, cond_true, cond_false, rd, wr, joinT, splice, lay, layRows, abuiltin, abPure, abMem, szv, asNat, loOf, aslice, kindOf, szOf, Nat.reduceLeDiff, Nat.reduceLT, Nat.reduceMul, Nat.reduceEqDiff, ne_eq, Int.reduceLT, Int.reduceLE, Int.reduceEq, hs.get, hs.app, hs.len, hs.szk, List.length_map, getD_nth hj, eStep, hl, Nat.le_refl, take_all (l := (pkB d j).map eInt) (n := 4 + d.vols.length + 2 * j) (by rw [List.length_map, hl]), take_all (l := (pkB d j).map eInt) (n := 4 + (d.vols.length + 2 * j)) (by rw [List.length_map, hl]; omega), e1, e2, e3, e4, e5])))
      all_goals first
        | omega
        | exact ⟨rfl, rfl⟩
        | (rename_i hr; simp only [List.mem_cons, List.not_mem_nil, or_false] at hr; rcases hr with rfl | rfl <;> exact ⟨rfl, rfl⟩)
        | skip
      all_goals refine wk_grow 3 (sub_name 4) ?_ ?_ flat_int.ids
      all_goals first
        | (rw [pkB_succ hj, List.map_append]; simp only [pkS, hb_, if_true, if_false, Bool.false_eq_true, Int.add_zero]; rfl)
        | (simp only [slKs_cons, slKs_nil, slK_any, slK_int, slK_old, and_true, true_and, lt_ptr, lt_new0]
           exact ⟨slK_at 0 (by simp) (by simp) (by simp) (by omega) (by omega), wrap_succ (by omega)⟩)
    · have hl := pkB_len (Nat.le_refl d.steps.length)
      simp only [TT, RS, flagOf, gslot, aop, ev, cv, putA, pickAV, if_false, if_true, Nat.reduceAdd, Nat.reduceSub, true_implies, reduceCtorEq, false_implies, implies_true, retAll, retOne, oneOf, cond_true, cond_false, rd, wr, joinT, splice, lay, layRows, abuiltin, abPure, abMem, szv, asNat, loOf, aslice, kindOf, szOf, Nat.reduceLeDiff, Nat.reduceLT, Nat.reduceMul, Nat.reduceEqDiff, ne_eq, Int.reduceLT, Int.reduceLE, Int.reduceEq, hs.app, hs.len, hs.szk, List.length_map]
      repeat' (first | (with_reducible refine wk_same ?_) | ((with_reducible refine wk_drop ?_ ?_); rotate_left; rfl) | (with_reducible refine And.intro ?_ ?_) | (with_reducible intro _) | ((with_reducible first | refine br_of ?_ ?_ | refine guB_ofT ?_ ?_ | refine guB_ofF ?_ ?_ | refine guD_ofT ?_ ?_ | refine guD_ofF ?_ ?_) <;> intro hb_ <;> (try simp only [decide_eq_true_eq, decide_eq_false_iff_not, Bool.not_true, Bool.not_false, Bool.not_eq_eq_eq_not, cond_true, cond_false] at hb_) <;> (try (exact absurd hb_ (by omega))) <;> (try simp only [TT, RS, flagOf, gslot, aop, ev, cv, putA, pickAV, if_false, if_true, Nat.reduceAdd, Nat.reduceSub, true_implies, reduceCtorEq, false_implies, implies_true, retAll, retOne, oneOf, cond_true, cond_false, rd, wr, joinT, splice, lay, layRows, abuiltin, abPure, abMem, szv, asNat, loOf, aslice, kindOf, szOf, Nat.reduceLeDiff, Nat.reduceLT, Nat.reduceMul, Nat.reduceEqDiff, ne_eq, Int.reduceLT, Int.reduceLE, Int.reduceEq, hs.app, hs.len, hs.szk, List.length_map])))
      have e : (pkW d).length = 4 + (d.vols.length + 2 * d.steps.length) := by rw [pkW, hl]; omega
      rw [e]
      exact wk_ownS rfl flat_int.ids
end Go.Proofs.Ytompkmjpikabkaa.AL
