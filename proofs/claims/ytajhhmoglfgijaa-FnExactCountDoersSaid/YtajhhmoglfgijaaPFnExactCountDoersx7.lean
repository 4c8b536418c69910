/- Functions of the law FnExactCountDoers as Lean functions, and proofs that the calls come to what they tell. -/
import Derived.Test.YtajhhmoglfgijaaPFnExactCountDoersx0
import Derived.Test.YtajhhmoglfgijaaPFnExactCountDoersx4
import Derived.Test.YtajhhmoglfgijaaPFnExactCountDoersx6
namespace Go.Proofs.Ytajhhmoglfgijaa.PFnExactCountDoers
open Go.RowKit Go.Proofs.YtajhhmoglfgijaaW.PrintWords Go.Proofs.YtajhhmoglfgijaaW.PrintLast Go.Proofs.YtajhhmoglfgijaaW.PrintMore
attribute [local go_sem] max2_int min2_int max_two min_two max_three min_three max_four min_four
set_option linter.unusedVariables false
set_option linter.unusedSimpArgs false

/-! ### impl_doerFault: function 47 -/
def impl_doerFault.j0 : Nat → Bool → Bool → Int → List (S95) → Int → Option (Int)
  | 0, _, _, _, _, _ => none
  | k + 1, x22, x229000, x229001, x229002, x229003 => if x22 = true then (some 1) else ((impl_within.f x229001 0 200).bind fun t229 => (if t229 = true then ((impl_LogFault.f x229002).bind fun t230 => (if t230 = 0 then ((impl_many.f x229002).bind fun t231 => ((impl_within.f x229003 0 t231).bind fun t232 => (if t232 = true then (some 0) else (some 3)))) else (some t230))) else (some 3)))
def impl_doerFault.f (k : Nat) (a0_0 : Bool) (a0_1 : Int) (l0_2 : List (S95)) (a0_3 : Int) : Option (Int) := if a0_0 = true then (impl_doerFault.j0 k false a0_0 a0_1 l0_2 a0_3) else (if a0_1 = 0 then (if (l0_2.length : Int) > 0 then (impl_doerFault.j0 k true a0_0 a0_1 l0_2 a0_3) else (impl_doerFault.j0 k (a0_3 != 0) a0_0 a0_1 l0_2 a0_3)) else (impl_doerFault.j0 k true a0_0 a0_1 l0_2 a0_3))
theorem impl_doerFault.mono_l : ∀ k, (∀ y0 y1 y2 y3 y4, LeO (impl_doerFault.j0 k y0 y1 y2 y3 y4) (impl_doerFault.j0 (k + 1) y0 y1 y2 y3 y4))
  | 0 => fun _ _ _ _ _ r h => by simp [impl_doerFault.j0] at h
  | k + 1 => by
    have ih0 := impl_doerFault.mono_l k
    · intro y0 y1 y2 y3 y4
      unfold impl_doerFault.j0
      repeat' first
      | (with_reducible exact ih0 _ _ _ _ _)
      | (with_reducible exact LeO.refl _)
      | (with_reducible exact LeO.none _)
      | (with_reducible refine LeO.ite ?_ ?_)
      | (with_reducible refine LeO.bind ?_ (fun _ => ?_))
      | exact ih0 _ _ _ _ _
      | exact LeO.none _
      | refine LeO.ite ?_ ?_
      | refine LeO.bind ?_ (fun _ => ?_)
theorem impl_doerFault.mono : ∀ a0 a1 a2 a3 k, LeO (impl_doerFault.f k a0 a1 a2 a3) (impl_doerFault.f (k + 1) a0 a1 a2 a3) := by
  intro a0 a1 a2 a3 k
  have ih0 := impl_doerFault.mono_l k
  unfold impl_doerFault.f
  repeat' first
      | (with_reducible exact ih0 _ _ _ _ _)
      | (with_reducible exact LeO.refl _)
      | (with_reducible exact LeO.none _)
      | (with_reducible refine LeO.ite ?_ ?_)
      | (with_reducible refine LeO.bind ?_ (fun _ => ?_))
      | exact ih0 _ _ _ _ _
      | exact LeO.none _
      | refine LeO.ite ?_ ?_
      | refine LeO.bind ?_ (fun _ => ?_)
set_option maxHeartbeats 8000000 in
set_option maxRecDepth 100000 in
theorem impl_doerFault.calls (k : Nat) (a0_0 : Bool) (a0_1 : Int) (A0_2 : Option Addr) (c0_2 : Nat) (l0_2 : List (S95)) (a0_3 : Int) (r : Int) (w : World) (hr0_2 : Kd.C k95 w A0_2 l0_2.length l0_2) (hc0_2 : l0_2.length ≤ c0_2) (h : impl_doerFault.f k a0_0 a0_1 l0_2 a0_3 = some r) :
    Calls Try.prog 47 #[.agg #[.bool a0_0, .int .i64 a0_1, .slice A0_2 l0_2.length c0_2, .int .i64 a0_3]] w fun e w' => e = .returned (.int .i64 r) ∧ Below w.heap.size w w' := by
  have hu70 := Try.underlying70
  have HR0_2 := Aside0.mk hr0_2
  have HC0_2 := Aside0.mk hc0_2
  clear hr0_2 hc0_2
  have HB := Aside0.mk (Below.refl w.heap.size w)
  have H : (if a0_0 = true then (impl_doerFault.j0 k false a0_0 a0_1 l0_2 a0_3) else (if a0_1 = 0 then (if (l0_2.length : Int) > 0 then (impl_doerFault.j0 k true a0_0 a0_1 l0_2 a0_3) else (impl_doerFault.j0 k (a0_3 != 0) a0_0 a0_1 l0_2 a0_3)) else (impl_doerFault.j0 k true a0_0 a0_1 l0_2 a0_3))) = some r := h
  clear h
  have HC2 := Aside0.mk H
  clear H
  go_enter Try.func47, Try.ntmps47
  go_upto_region 1 with (first | ((with_reducible refine gate_dst (N := 1) rfl ?_); (try (refine gate_guard (by rfl) ?_; dsimp only)); refine box_event ?hg (N := 1) ?hd (cs := #[.bool a0_0, .int .i64 a0_1, .slice A0_2 l0_2.length c0_2, .int .i64 a0_3]) (t := 70) ?hr ?_; (case hd => rfl); (case hg => rfl); (case hr => first | (go_simp; done) | (go_simp; rfl)); intro gb228 hg w3 hbox hb; have n0_ := Aside0.mk (below_step (by repeat (first | (with_reducible first | exact HB.out | apply below_alloc | apply pw_below_drewN | apply below_drew1) | exact HB.out)) hb); have n1_ := Aside0.mk (hbox); have n2_ := Aside0.mk ((by rw [hg]; exact (below_size (by repeat (first | (with_reducible first | exact HB.out | apply below_alloc | apply pw_below_drewN | apply below_drew1) | exact HB.out))) : w.heap.size ≤ gb228)); have n3_ := Aside0.mk ((by rw [hg]; exact (below_size (by repeat (first | (with_reducible first | exact HB.out | apply below_alloc | apply pw_below_drewN | apply below_drew1) | exact HB.out))) : w.heap.size ≤ gb228)); clear HB; have HB := n0_; have BK228 := n1_; have GW228 := n2_; have GE228 := n3_; clear n0_ n1_ n2_ n3_; clear hb hbox hg))
  repeat (go_quiet (first | ((with_reducible refine gate_dst (N := 1) rfl ?_); (try (refine gate_guard (by rfl) ?_; dsimp only)); refine box_event ?hg (N := 1) ?hd (cs := #[.bool a0_0, .int .i64 a0_1, .slice A0_2 l0_2.length c0_2, .int .i64 a0_3]) (t := 70) ?hr ?_; (case hd => rfl); (case hg => rfl); (case hr => first | (go_simp; done) | (go_simp; rfl)); intro gb228 hg w3 hbox hb; have n0_ := Aside0.mk (below_step (by repeat (first | (with_reducible first | exact HB.out | apply below_alloc | apply pw_below_drewN | apply below_drew1) | exact HB.out)) hb); have n1_ := Aside0.mk (hbox); have n2_ := Aside0.mk ((by rw [hg]; exact (below_size (by repeat (first | (with_reducible first | exact HB.out | apply below_alloc | apply pw_below_drewN | apply below_drew1) | exact HB.out))) : w.heap.size ≤ gb228)); have n3_ := Aside0.mk ((by rw [hg]; exact (below_size (by repeat (first | (with_reducible first | exact HB.out | apply below_alloc | apply pw_below_drewN | apply below_drew1) | exact HB.out))) : w.heap.size ≤ gb228)); clear HB; have HB := n0_; have BK228 := n1_; have GW228 := n2_; have GE228 := n3_; clear n0_ n1_ n2_ n3_; clear hb hbox hg)); go_upto_region 1 with (first | ((with_reducible refine gate_dst (N := 1) rfl ?_); (try (refine gate_guard (by rfl) ?_; dsimp only)); refine box_event ?hg (N := 1) ?hd (cs := #[.bool a0_0, .int .i64 a0_1, .slice A0_2 l0_2.length c0_2, .int .i64 a0_3]) (t := 70) ?hr ?_; (case hd => rfl); (case hg => rfl); (case hr => first | (go_simp; done) | (go_simp; rfl)); intro gb228 hg w3 hbox hb; have n0_ := Aside0.mk (below_step (by repeat (first | (with_reducible first | exact HB.out | apply below_alloc | apply pw_below_drewN | apply below_drew1) | exact HB.out)) hb); have n1_ := Aside0.mk (hbox); have n2_ := Aside0.mk ((by rw [hg]; exact (below_size (by repeat (first | (with_reducible first | exact HB.out | apply below_alloc | apply pw_below_drewN | apply below_drew1) | exact HB.out))) : w.heap.size ≤ gb228)); have n3_ := Aside0.mk ((by rw [hg]; exact (below_size (by repeat (first | (with_reducible first | exact HB.out | apply below_alloc | apply pw_below_drewN | apply below_drew1) | exact HB.out))) : w.heap.size ≤ gb228)); clear HB; have HB := n0_; have BK228 := n1_; have GW228 := n2_; have GE228 := n3_; clear n0_ n1_ n2_ n3_; clear hb hbox hg)))
  (try simp only [Act.put, List.setIfInBounds_toArray, List.set_cons_zero, List.set_cons_succ])
  go_cut [22] (fun v22 wc => ∃ (kq : Nat) (x22_1 : Bool), v22 = .bool x22_1 ∧ Aside0 (impl_doerFault.j0 kq x22_1 a0_0 a0_1 l0_2 a0_3 = some r) ∧ Aside0 (kq ≤ k) ∧ Aside0 (wc.heap[gb228]? = some (.cells #[.bool a0_0, .int .i64 a0_1, (.slice A0_2 l0_2.length c0_2), .int .i64 a0_3] 70 (0, 0))) ∧ Aside0 (Below w.heap.size w wc))
  case first =>
    have H := HC2.out
    clear HC2
    by_cases c4 : a0_0 = true
    · subst c4
      have H1 : (impl_doerFault.j0 k false true a0_1 l0_2 a0_3) = some r := by rw [if_pos rfl] at H; exact H
      clear H
      have H := H1
      clear H1
      have H' := Aside0.mk H
      clear H
      have hcz5_0 : w3.cell? ⟨gb228, 0, none⟩ = some (.bool true) := (blk_cell BK228.out 0).trans rfl
      have hcz5_1 : w3.cell? ⟨gb228, 1, none⟩ = some (.int .i64 a0_1) := (blk_cell BK228.out 1).trans rfl
      have hcz5_2 : w3.cell? ⟨gb228, 2, none⟩ = some (.slice A0_2 l0_2.length c0_2) := (blk_cell BK228.out 2).trans rfl
      have hcz5_3 : w3.cell? ⟨gb228, 3, none⟩ = some (.int .i64 a0_3) := (blk_cell BK228.out 3).trans rfl
      have hfz5_0 := blk_frozen BK228.out 0
      have hfz5_1 := blk_frozen BK228.out 1
      have hfz5_2 := blk_frozen BK228.out 2
      have hfz5_3 := blk_frozen BK228.out 3
      go_wp2
      repeat (go_quiet (fail); try go_wp2)
      go_meet
      case rel => exact ⟨_, (false), (by first | rfl | (simp; done) | (simp [*]; done)), H', ⟨by first | omega | exact Nat.le_refl _⟩, ⟨by (with_reducible repeat (first | refine blk_drewN ?_ _ | refine blk_drew ?_ | refine blk_alloc ?_ _)); exact BK228.out⟩, ⟨by repeat (first | (with_reducible first | exact HB.out | apply below_alloc | apply pw_below_drewN | apply below_drew1 | refine below_set ?_ GE228.out) | exact HB.out)⟩⟩
    · replace c4 := Bool.eq_false_iff.mpr c4
      subst c4
      have H1 : (if a0_1 = 0 then (if (l0_2.length : Int) > 0 then (impl_doerFault.j0 k true false a0_1 l0_2 a0_3) else (impl_doerFault.j0 k (a0_3 != 0) false a0_1 l0_2 a0_3)) else (impl_doerFault.j0 k true false a0_1 l0_2 a0_3)) = some r := by rw [if_neg (show ¬ (false = true) by decide)] at H; exact H
      clear H
      have H := H1
      clear H1
      by_cases c6 : a0_1 = 0
      · rw [if_pos c6] at H
        have c6b0 : (a0_1 == 0) = true := beq_iff_eq.mpr c6
        have c6b1 : (a0_1 != 0) = false := bne_eq_false_iff_eq.mpr c6
        clear c6
        (first | rw [c6b0] | (simp only [i64_w, i32_w]; rw [c6b0]) | skip)
        by_cases c7 : (l0_2.length : Int) > 0
        · rw [if_pos c7] at H
          have c7b0 : decide (0 < (l0_2.length : Int)) = true := decide_eq_true c7
          have c7b1 : decide (0 < l0_2.length) = true := decide_eq_true (by omega)
          clear c7
          have H' := Aside0.mk H
          clear H
          have hcz8_0 : w3.cell? ⟨gb228, 0, none⟩ = some (.bool false) := (blk_cell BK228.out 0).trans rfl
          have hcz8_1 : w3.cell? ⟨gb228, 1, none⟩ = some (.int .i64 a0_1) := (blk_cell BK228.out 1).trans rfl
          have hcz8_2 : w3.cell? ⟨gb228, 2, none⟩ = some (.slice A0_2 l0_2.length c0_2) := (blk_cell BK228.out 2).trans rfl
          have hcz8_3 : w3.cell? ⟨gb228, 3, none⟩ = some (.int .i64 a0_3) := (blk_cell BK228.out 3).trans rfl
          have hfz8_0 := blk_frozen BK228.out 0
          have hfz8_1 := blk_frozen BK228.out 1
          have hfz8_2 := blk_frozen BK228.out 2
          have hfz8_3 := blk_frozen BK228.out 3
          go_wp2
          repeat (go_quiet (fail); try go_wp2)
          go_meet
          case rel => exact ⟨_, (true), (by first | rfl | (simp; done) | (simp [*]; done)), H', ⟨by first | omega | exact Nat.le_refl _⟩, ⟨by (with_reducible repeat (first | refine blk_drewN ?_ _ | refine blk_drew ?_ | refine blk_alloc ?_ _)); exact BK228.out⟩, ⟨by repeat (first | (with_reducible first | exact HB.out | apply below_alloc | apply pw_below_drewN | apply below_drew1 | refine below_set ?_ GE228.out) | exact HB.out)⟩⟩
        · rw [if_neg c7] at H
          have c7b0 : decide (0 < (l0_2.length : Int)) = false := decide_eq_false c7
          have c7b1 : decide (0 < l0_2.length) = false := decide_eq_false (by omega)
          clear c7
          have H' := Aside0.mk H
          clear H
          have hcz9_0 : w3.cell? ⟨gb228, 0, none⟩ = some (.bool false) := (blk_cell BK228.out 0).trans rfl
          have hcz9_1 : w3.cell? ⟨gb228, 1, none⟩ = some (.int .i64 a0_1) := (blk_cell BK228.out 1).trans rfl
          have hcz9_2 : w3.cell? ⟨gb228, 2, none⟩ = some (.slice A0_2 l0_2.length c0_2) := (blk_cell BK228.out 2).trans rfl
          have hcz9_3 : w3.cell? ⟨gb228, 3, none⟩ = some (.int .i64 a0_3) := (blk_cell BK228.out 3).trans rfl
          have hfz9_0 := blk_frozen BK228.out 0
          have hfz9_1 := blk_frozen BK228.out 1
          have hfz9_2 := blk_frozen BK228.out 2
          have hfz9_3 := blk_frozen BK228.out 3
          go_wp2
          repeat (go_quiet (fail); try go_wp2)
          go_meet
          case rel => exact ⟨_, ((a0_3 != 0)), (by first | rfl | (simp; done) | (simp [*]; done)), H', ⟨by first | omega | exact Nat.le_refl _⟩, ⟨by (with_reducible repeat (first | refine blk_drewN ?_ _ | refine blk_drew ?_ | refine blk_alloc ?_ _)); exact BK228.out⟩, ⟨by repeat (first | (with_reducible first | exact HB.out | apply below_alloc | apply pw_below_drewN | apply below_drew1 | refine below_set ?_ GE228.out) | exact HB.out)⟩⟩
      · rw [if_neg c6] at H
        have c6b0 : (a0_1 == 0) = false := beq_eq_false_iff_ne.mpr c6
        have c6b1 : (a0_1 != 0) = true := bne_iff_ne.mpr c6
        (first | rw [c6b0] | (simp only [i64_w, i32_w]; rw [c6b0]) | skip)
        have H' := Aside0.mk H
        clear H
        have hcz10_0 : w3.cell? ⟨gb228, 0, none⟩ = some (.bool false) := (blk_cell BK228.out 0).trans rfl
        have hcz10_1 : w3.cell? ⟨gb228, 1, none⟩ = some (.int .i64 a0_1) := (blk_cell BK228.out 1).trans rfl
        have hcz10_2 : w3.cell? ⟨gb228, 2, none⟩ = some (.slice A0_2 l0_2.length c0_2) := (blk_cell BK228.out 2).trans rfl
        have hcz10_3 : w3.cell? ⟨gb228, 3, none⟩ = some (.int .i64 a0_3) := (blk_cell BK228.out 3).trans rfl
        have hfz10_0 := blk_frozen BK228.out 0
        have hfz10_1 := blk_frozen BK228.out 1
        have hfz10_2 := blk_frozen BK228.out 2
        have hfz10_3 := blk_frozen BK228.out 3
        go_wp2
        repeat (go_quiet (fail); try go_wp2)
        go_meet
        case rel => exact ⟨_, (true), (by first | rfl | (simp; done) | (simp [*]; done)), H', ⟨by first | omega | exact Nat.le_refl _⟩, ⟨by (with_reducible repeat (first | refine blk_drewN ?_ _ | refine blk_drew ?_ | refine blk_alloc ?_ _)); exact BK228.out⟩, ⟨by repeat (first | (with_reducible first | exact HB.out | apply below_alloc | apply pw_below_drewN | apply below_drew1 | refine below_set ?_ GE228.out) | exact HB.out)⟩⟩
  case rest =>
    clear HC2
    try clear p2
    try clear c4
    try clear c6
    try clear c6b0
    try clear c6b1
    try clear c7
    try clear c7b0
    try clear c7b1
    try clear hcz10_0
    try clear hcz10_1
    try clear hcz10_2
    try clear hcz10_3
    try clear hcz5_0
    try clear hcz5_1
    try clear hcz5_2
    try clear hcz5_3
    try clear hcz8_0
    try clear hcz8_1
    try clear hcz8_2
    try clear hcz8_3
    try clear hcz9_0
    try clear hcz9_1
    try clear hcz9_2
    try clear hcz9_3
    try clear hfz10_0
    try clear hfz10_1
    try clear hfz10_2
    try clear hfz10_3
    try clear hfz5_0
    try clear hfz5_1
    try clear hfz5_2
    try clear hfz5_3
    try clear hfz8_0
    try clear hfz8_1
    try clear hfz8_2
    try clear hfz8_3
    try clear hfz9_0
    try clear hfz9_1
    try clear hfz9_2
    try clear hfz9_3
    obtain ⟨kq, x22_1, rfl, HA, HJ1, BK228, HB⟩ := hcut
    cases kq with
    | zero => exact absurd HA.out (by simp [impl_doerFault.j0])
    | succ kj1 =>
      have H := HA.out
      clear HA
      simp only [impl_doerFault.j0] at H
      by_cases c11 : x22_1 = true
      · subst c11
        have H1 : (some 1) = some r := by rw [if_pos rfl] at H; exact H
        clear H
        have H := H1
        clear H1
        obtain rfl := Option.some.inj H
        go_wp2
        repeat (go_quiet (fail); try go_wp2)
        go_ret
        exact ⟨by first | rfl | (simp [errW_none, errW_some] <;> rfl) | (simp [*, errW_none, errW_some] <;> rfl), by repeat (first | (with_reducible first | exact HB.out | apply below_alloc | apply pw_below_drewN | apply below_drew1 | refine below_set ?_ GE228.out) | exact HB.out)⟩
      · replace c11 := Bool.eq_false_iff.mpr c11
        subst c11
        have H1 : ((impl_within.f a0_1 0 200).bind fun t229 => (if t229 = true then ((impl_LogFault.f l0_2).bind fun t230 => (if t230 = 0 then ((impl_many.f l0_2).bind fun t231 => ((impl_within.f a0_3 0 t231).bind fun t232 => (if t232 = true then (some 0) else (some 3)))) else (some t230))) else (some 3))) = some r := by rw [if_neg (show ¬ (false = true) by decide)] at H; exact H
        clear H
        have H := H1
        clear H1
        replace H := Option.bind_eq_some_iff.mp H
        obtain ⟨t229, A120, H⟩ := H
        replace H : (if t229 = true then ((impl_LogFault.f l0_2).bind fun t230 => (if t230 = 0 then ((impl_many.f l0_2).bind fun t231 => ((impl_within.f a0_3 0 t231).bind fun t232 => (if t232 = true then (some 0) else (some 3)))) else (some t230))) else (some 3)) = some r := H
        have A12 := Aside0.mk A120
        clear A120
        by_cases c13 : t229 = true
        · subst c13
          have H1 : ((impl_LogFault.f l0_2).bind fun t230 => (if t230 = 0 then ((impl_many.f l0_2).bind fun t231 => ((impl_within.f a0_3 0 t231).bind fun t232 => (if t232 = true then (some 0) else (some 3)))) else (some t230))) = some r := by rw [if_pos rfl] at H; exact H
          clear H
          have H := H1
          clear H1
          replace H := Option.bind_eq_some_iff.mp H
          obtain ⟨t230, A140, H⟩ := H
          replace H : (if t230 = 0 then ((impl_many.f l0_2).bind fun t231 => ((impl_within.f a0_3 0 t231).bind fun t232 => (if t232 = true then (some 0) else (some 3)))) else (some t230)) = some r := H
          have A14 := Aside0.mk A140
          clear A140
          by_cases c15 : t230 = 0
          · rw [if_pos c15] at H
            have c15b0 : (t230 == 0) = true := beq_iff_eq.mpr c15
            have c15b1 : (t230 != 0) = false := bne_eq_false_iff_eq.mpr c15
            clear c15
            replace H := Option.bind_eq_some_iff.mp H
            obtain ⟨t231, A160, H⟩ := H
            replace H : ((impl_within.f a0_3 0 t231).bind fun t232 => (if t232 = true then (some 0) else (some 3))) = some r := H
            have A16 := Aside0.mk A160
            clear A160
            replace H := Option.bind_eq_some_iff.mp H
            obtain ⟨t232, A170, H⟩ := H
            replace H : (if t232 = true then (some 0) else (some 3)) = some r := H
            have A17 := Aside0.mk A170
            clear A170
            by_cases c18 : t232 = true
            · subst c18
              have H1 : (some 0) = some r := by rw [if_pos rfl] at H; exact H
              clear H
              have H := H1
              clear H1
              obtain rfl := Option.some.inj H
              have hcz19_0 : wc.cell? ⟨gb228, 0, none⟩ = some (.bool a0_0) := (blk_cell BK228.out 0).trans rfl
              have hcz19_1 : wc.cell? ⟨gb228, 1, none⟩ = some (.int .i64 a0_1) := (blk_cell BK228.out 1).trans rfl
              have hcz19_2 : wc.cell? ⟨gb228, 2, none⟩ = some (.slice A0_2 l0_2.length c0_2) := (blk_cell BK228.out 2).trans rfl
              have hcz19_3 : wc.cell? ⟨gb228, 3, none⟩ = some (.int .i64 a0_3) := (blk_cell BK228.out 3).trans rfl
              have hfz19_0 := blk_frozen BK228.out 0
              have hfz19_1 := blk_frozen BK228.out 1
              have hfz19_2 := blk_frozen BK228.out 2
              have hfz19_3 := blk_frozen BK228.out 3
              go_wp2_with (first | (go_at_call 41; (with_reducible refine (impl_within.calls a0_1 0 200 true _ A12.out).mono ?_); rintro e w' ⟨rfl, ⟨nd, rfl⟩⟩; (try first | exact ⟨rfl, _, World.drewN_drewN _ _ _⟩ | exact ⟨rfl, _, Eq.trans (World.drewN_drewN _ _ _) (congrArg (World.drewN _) (Nat.add_assoc _ _ _))⟩)) | (go_at_call 42; (with_reducible refine (impl_LogFault.calls _ _ l0_2 t230 _ ?side1 ?side2 A14.out).mono ?_); (case side1 => repeat (first | exact (Kd.C_below HR0_2.out (by repeat (first | (with_reducible first | exact HB.out | apply below_alloc | apply pw_below_drewN | apply below_drew1 | refine below_set ?_ GE228.out) | exact HB.out))) | (with_reducible refine Kd.C_alloc ?_ _) | (with_reducible refine Kd.C_drewN ?_ _) | (with_reducible refine Kd.C_drew ?_))); (case side2 => exact HC0_2.out); rintro e w20 ⟨rfl, hb⟩; have n0_ := Aside0.mk (blk_below (g := gb228) (o := .cells #[.bool a0_0, .int .i64 a0_1, .slice A0_2 l0_2.length c0_2, .int .i64 a0_3] 70 (0, 0)) (by (with_reducible repeat (first | refine blk_drewN ?_ _ | refine blk_drew ?_ | refine blk_alloc ?_ _)); exact BK228.out) hb); have n1_ := Aside0.mk (below_step (by repeat (first | (with_reducible first | exact HB.out | apply below_alloc | apply pw_below_drewN | apply below_drew1 | refine below_set ?_ GE228.out) | exact HB.out)) hb); clear BK228; clear HB; have BK228 := n0_; have HB := n1_; clear n0_ n1_; (try clear hb); (try clear hb2); (try clear hk); (try clear hi); have hcz21_0 : w20.cell? ⟨gb228, 0, none⟩ = some (.bool a0_0) := (blk_cell BK228.out 0).trans rfl; have hcz21_1 : w20.cell? ⟨gb228, 1, none⟩ = some (.int .i64 a0_1) := (blk_cell BK228.out 1).trans rfl; have hcz21_2 : w20.cell? ⟨gb228, 2, none⟩ = some (.slice A0_2 l0_2.length c0_2) := (blk_cell BK228.out 2).trans rfl; have hcz21_3 : w20.cell? ⟨gb228, 3, none⟩ = some (.int .i64 a0_3) := (blk_cell BK228.out 3).trans rfl; have hfz21_0 := blk_frozen BK228.out 0; have hfz21_1 := blk_frozen BK228.out 1; have hfz21_2 := blk_frozen BK228.out 2; have hfz21_3 := blk_frozen BK228.out 3) | (go_at_call 43; (with_reducible refine (impl_many.calls _ _ l0_2 t231 _ ?side1 ?side2 A16.out).mono ?_); (case side1 => repeat (first | exact (Kd.C_below HR0_2.out HB.out) | (with_reducible refine Kd.C_alloc ?_ _) | (with_reducible refine Kd.C_drewN ?_ _) | (with_reducible refine Kd.C_drew ?_))); (case side2 => exact HC0_2.out); rintro e w' ⟨rfl, ⟨nd, rfl⟩⟩; (try first | exact ⟨rfl, _, World.drewN_drewN _ _ _⟩ | exact ⟨rfl, _, Eq.trans (World.drewN_drewN _ _ _) (congrArg (World.drewN _) (Nat.add_assoc _ _ _))⟩)) | (go_at_call 41; (with_reducible refine (impl_within.calls a0_3 0 t231 true _ A17.out).mono ?_); rintro e w' ⟨rfl, ⟨nd, rfl⟩⟩; (try first | exact ⟨rfl, _, World.drewN_drewN _ _ _⟩ | exact ⟨rfl, _, Eq.trans (World.drewN_drewN _ _ _) (congrArg (World.drewN _) (Nat.add_assoc _ _ _))⟩)))
              repeat (go_quiet (first | (go_at_call 41; (with_reducible refine (impl_within.calls a0_1 0 200 true _ A12.out).mono ?_); rintro e w' ⟨rfl, ⟨nd, rfl⟩⟩; (try first | exact ⟨rfl, _, World.drewN_drewN _ _ _⟩ | exact ⟨rfl, _, Eq.trans (World.drewN_drewN _ _ _) (congrArg (World.drewN _) (Nat.add_assoc _ _ _))⟩)) | (go_at_call 42; (with_reducible refine (impl_LogFault.calls _ _ l0_2 t230 _ ?side1 ?side2 A14.out).mono ?_); (case side1 => repeat (first | exact (Kd.C_below HR0_2.out (by repeat (first | (with_reducible first | exact HB.out | apply below_alloc | apply pw_below_drewN | apply below_drew1 | refine below_set ?_ GE228.out) | exact HB.out))) | (with_reducible refine Kd.C_alloc ?_ _) | (with_reducible refine Kd.C_drewN ?_ _) | (with_reducible refine Kd.C_drew ?_))); (case side2 => exact HC0_2.out); rintro e w20 ⟨rfl, hb⟩; have n0_ := Aside0.mk (blk_below (g := gb228) (o := .cells #[.bool a0_0, .int .i64 a0_1, .slice A0_2 l0_2.length c0_2, .int .i64 a0_3] 70 (0, 0)) (by (with_reducible repeat (first | refine blk_drewN ?_ _ | refine blk_drew ?_ | refine blk_alloc ?_ _)); exact BK228.out) hb); have n1_ := Aside0.mk (below_step (by repeat (first | (with_reducible first | exact HB.out | apply below_alloc | apply pw_below_drewN | apply below_drew1 | refine below_set ?_ GE228.out) | exact HB.out)) hb); clear BK228; clear HB; have BK228 := n0_; have HB := n1_; clear n0_ n1_; (try clear hb); (try clear hb2); (try clear hk); (try clear hi); have hcz21_0 : w20.cell? ⟨gb228, 0, none⟩ = some (.bool a0_0) := (blk_cell BK228.out 0).trans rfl; have hcz21_1 : w20.cell? ⟨gb228, 1, none⟩ = some (.int .i64 a0_1) := (blk_cell BK228.out 1).trans rfl; have hcz21_2 : w20.cell? ⟨gb228, 2, none⟩ = some (.slice A0_2 l0_2.length c0_2) := (blk_cell BK228.out 2).trans rfl; have hcz21_3 : w20.cell? ⟨gb228, 3, none⟩ = some (.int .i64 a0_3) := (blk_cell BK228.out 3).trans rfl; have hfz21_0 := blk_frozen BK228.out 0; have hfz21_1 := blk_frozen BK228.out 1; have hfz21_2 := blk_frozen BK228.out 2; have hfz21_3 := blk_frozen BK228.out 3) | (go_at_call 43; (with_reducible refine (impl_many.calls _ _ l0_2 t231 _ ?side1 ?side2 A16.out).mono ?_); (case side1 => repeat (first | exact (Kd.C_below HR0_2.out HB.out) | (with_reducible refine Kd.C_alloc ?_ _) | (with_reducible refine Kd.C_drewN ?_ _) | (with_reducible refine Kd.C_drew ?_))); (case side2 => exact HC0_2.out); rintro e w' ⟨rfl, ⟨nd, rfl⟩⟩; (try first | exact ⟨rfl, _, World.drewN_drewN _ _ _⟩ | exact ⟨rfl, _, Eq.trans (World.drewN_drewN _ _ _) (congrArg (World.drewN _) (Nat.add_assoc _ _ _))⟩)) | (go_at_call 41; (with_reducible refine (impl_within.calls a0_3 0 t231 true _ A17.out).mono ?_); rintro e w' ⟨rfl, ⟨nd, rfl⟩⟩; (try first | exact ⟨rfl, _, World.drewN_drewN _ _ _⟩ | exact ⟨rfl, _, Eq.trans (World.drewN_drewN _ _ _) (congrArg (World.drewN _) (Nat.add_assoc _ _ _))⟩))); try go_wp2_with (first | (go_at_call 41; (with_reducible refine (impl_within.calls a0_1 0 200 true _ A12.out).mono ?_); rintro e w' ⟨rfl, ⟨nd, rfl⟩⟩; (try first | exact ⟨rfl, _, World.drewN_drewN _ _ _⟩ | exact ⟨rfl, _, Eq.trans (World.drewN_drewN _ _ _) (congrArg (World.drewN _) (Nat.add_assoc _ _ _))⟩)) | (go_at_call 42; (with_reducible refine (impl_LogFault.calls _ _ l0_2 t230 _ ?side1 ?side2 A14.out).mono ?_); (case side1 => repeat (first | exact (Kd.C_below HR0_2.out (by repeat (first | (with_reducible first | exact HB.out | apply below_alloc | apply pw_below_drewN | apply below_drew1 | refine below_set ?_ GE228.out) | exact HB.out))) | (with_reducible refine Kd.C_alloc ?_ _) | (with_reducible refine Kd.C_drewN ?_ _) | (with_reducible refine Kd.C_drew ?_))); (case side2 => exact HC0_2.out); rintro e w20 ⟨rfl, hb⟩; have n0_ := Aside0.mk (blk_below (g := gb228) (o := .cells #[.bool a0_0, .int .i64 a0_1, .slice A0_2 l0_2.length c0_2, .int .i64 a0_3] 70 (0, 0)) (by (with_reducible repeat (first | refine blk_drewN ?_ _ | refine blk_drew ?_ | refine blk_alloc ?_ _)); exact BK228.out) hb); have n1_ := Aside0.mk (below_step (by repeat (first | (with_reducible first | exact HB.out | apply below_alloc | apply pw_below_drewN | apply below_drew1 | refine below_set ?_ GE228.out) | exact HB.out)) hb); clear BK228; clear HB; have BK228 := n0_; have HB := n1_; clear n0_ n1_; (try clear hb); (try clear hb2); (try clear hk); (try clear hi); have hcz21_0 : w20.cell? ⟨gb228, 0, none⟩ = some (.bool a0_0) := (blk_cell BK228.out 0).trans rfl; have hcz21_1 : w20.cell? ⟨gb228, 1, none⟩ = some (.int .i64 a0_1) := (blk_cell BK228.out 1).trans rfl; have hcz21_2 : w20.cell? ⟨gb228, 2, none⟩ = some (.slice A0_2 l0_2.length c0_2) := (blk_cell BK228.out 2).trans rfl; have hcz21_3 : w20.cell? ⟨gb228, 3, none⟩ = some (.int .i64 a0_3) := (blk_cell BK228.out 3).trans rfl; have hfz21_0 := blk_frozen BK228.out 0; have hfz21_1 := blk_frozen BK228.out 1; have hfz21_2 := blk_frozen BK228.out 2; have hfz21_3 := blk_frozen BK228.out 3) | (go_at_call 43; (with_reducible refine (impl_many.calls _ _ l0_2 t231 _ ?side1 ?side2 A16.out).mono ?_); (case side1 => repeat (first | exact (Kd.C_below HR0_2.out HB.out) | (with_reducible refine Kd.C_alloc ?_ _) | (with_reducible refine Kd.C_drewN ?_ _) | (with_reducible refine Kd.C_drew ?_))); (case side2 => exact HC0_2.out); rintro e w' ⟨rfl, ⟨nd, rfl⟩⟩; (try first | exact ⟨rfl, _, World.drewN_drewN _ _ _⟩ | exact ⟨rfl, _, Eq.trans (World.drewN_drewN _ _ _) (congrArg (World.drewN _) (Nat.add_assoc _ _ _))⟩)) | (go_at_call 41; (with_reducible refine (impl_within.calls a0_3 0 t231 true _ A17.out).mono ?_); rintro e w' ⟨rfl, ⟨nd, rfl⟩⟩; (try first | exact ⟨rfl, _, World.drewN_drewN _ _ _⟩ | exact ⟨rfl, _, Eq.trans (World.drewN_drewN _ _ _) (congrArg (World.drewN _) (Nat.add_assoc _ _ _))⟩))))
              go_ret
              exact ⟨by first | rfl | (simp [errW_none, errW_some] <;> rfl) | (simp [*, errW_none, errW_some] <;> rfl), by repeat (first | (with_reducible first | exact HB.out | apply below_alloc | apply pw_below_drewN | apply below_drew1 | refine below_set ?_ GE228.out) | exact HB.out)⟩
            · replace c18 := Bool.eq_false_iff.mpr c18
              subst c18
              have H1 : (some 3) = some r := by rw [if_neg (show ¬ (false = true) by decide)] at H; exact H
              clear H
              have H := H1
              clear H1
              obtain rfl := Option.some.inj H
              have hcz22_0 : wc.cell? ⟨gb228, 0, none⟩ = some (.bool a0_0) := (blk_cell BK228.out 0).trans rfl
              have hcz22_1 : wc.cell? ⟨gb228, 1, none⟩ = some (.int .i64 a0_1) := (blk_cell BK228.out 1).trans rfl
              have hcz22_2 : wc.cell? ⟨gb228, 2, none⟩ = some (.slice A0_2 l0_2.length c0_2) := (blk_cell BK228.out 2).trans rfl
              have hcz22_3 : wc.cell? ⟨gb228, 3, none⟩ = some (.int .i64 a0_3) := (blk_cell BK228.out 3).trans rfl
              have hfz22_0 := blk_frozen BK228.out 0
              have hfz22_1 := blk_frozen BK228.out 1
              have hfz22_2 := blk_frozen BK228.out 2
              have hfz22_3 := blk_frozen BK228.out 3
              go_wp2_with (first | (go_at_call 41; (with_reducible refine (impl_within.calls a0_1 0 200 true _ A12.out).mono ?_); rintro e w' ⟨rfl, ⟨nd, rfl⟩⟩; (try first | exact ⟨rfl, _, World.drewN_drewN _ _ _⟩ | exact ⟨rfl, _, Eq.trans (World.drewN_drewN _ _ _) (congrArg (World.drewN _) (Nat.add_assoc _ _ _))⟩)) | (go_at_call 42; (with_reducible refine (impl_LogFault.calls _ _ l0_2 t230 _ ?side1 ?side2 A14.out).mono ?_); (case side1 => repeat (first | exact (Kd.C_below HR0_2.out (by repeat (first | (with_reducible first | exact HB.out | apply below_alloc | apply pw_below_drewN | apply below_drew1 | refine below_set ?_ GE228.out) | exact HB.out))) | (with_reducible refine Kd.C_alloc ?_ _) | (with_reducible refine Kd.C_drewN ?_ _) | (with_reducible refine Kd.C_drew ?_))); (case side2 => exact HC0_2.out); rintro e w23 ⟨rfl, hb⟩; have n0_ := Aside0.mk (blk_below (g := gb228) (o := .cells #[.bool a0_0, .int .i64 a0_1, .slice A0_2 l0_2.length c0_2, .int .i64 a0_3] 70 (0, 0)) (by (with_reducible repeat (first | refine blk_drewN ?_ _ | refine blk_drew ?_ | refine blk_alloc ?_ _)); exact BK228.out) hb); have n1_ := Aside0.mk (below_step (by repeat (first | (with_reducible first | exact HB.out | apply below_alloc | apply pw_below_drewN | apply below_drew1 | refine below_set ?_ GE228.out) | exact HB.out)) hb); clear BK228; clear HB; have BK228 := n0_; have HB := n1_; clear n0_ n1_; (try clear hb); (try clear hb2); (try clear hk); (try clear hi); have hcz24_0 : w23.cell? ⟨gb228, 0, none⟩ = some (.bool a0_0) := (blk_cell BK228.out 0).trans rfl; have hcz24_1 : w23.cell? ⟨gb228, 1, none⟩ = some (.int .i64 a0_1) := (blk_cell BK228.out 1).trans rfl; have hcz24_2 : w23.cell? ⟨gb228, 2, none⟩ = some (.slice A0_2 l0_2.length c0_2) := (blk_cell BK228.out 2).trans rfl; have hcz24_3 : w23.cell? ⟨gb228, 3, none⟩ = some (.int .i64 a0_3) := (blk_cell BK228.out 3).trans rfl; have hfz24_0 := blk_frozen BK228.out 0; have hfz24_1 := blk_frozen BK228.out 1; have hfz24_2 := blk_frozen BK228.out 2; have hfz24_3 := blk_frozen BK228.out 3) | (go_at_call 43; (with_reducible refine (impl_many.calls _ _ l0_2 t231 _ ?side1 ?side2 A16.out).mono ?_); (case side1 => repeat (first | exact (Kd.C_below HR0_2.out HB.out) | (with_reducible refine Kd.C_alloc ?_ _) | (with_reducible refine Kd.C_drewN ?_ _) | (with_reducible refine Kd.C_drew ?_))); (case side2 => exact HC0_2.out); rintro e w' ⟨rfl, ⟨nd, rfl⟩⟩; (try first | exact ⟨rfl, _, World.drewN_drewN _ _ _⟩ | exact ⟨rfl, _, Eq.trans (World.drewN_drewN _ _ _) (congrArg (World.drewN _) (Nat.add_assoc _ _ _))⟩)) | (go_at_call 41; (with_reducible refine (impl_within.calls a0_3 0 t231 false _ A17.out).mono ?_); rintro e w' ⟨rfl, ⟨nd, rfl⟩⟩; (try first | exact ⟨rfl, _, World.drewN_drewN _ _ _⟩ | exact ⟨rfl, _, Eq.trans (World.drewN_drewN _ _ _) (congrArg (World.drewN _) (Nat.add_assoc _ _ _))⟩)))
              repeat (go_quiet (first | (go_at_call 41; (with_reducible refine (impl_within.calls a0_1 0 200 true _ A12.out).mono ?_); rintro e w' ⟨rfl, ⟨nd, rfl⟩⟩; (try first | exact ⟨rfl, _, World.drewN_drewN _ _ _⟩ | exact ⟨rfl, _, Eq.trans (World.drewN_drewN _ _ _) (congrArg (World.drewN _) (Nat.add_assoc _ _ _))⟩)) | (go_at_call 42; (with_reducible refine (impl_LogFault.calls _ _ l0_2 t230 _ ?side1 ?side2 A14.out).mono ?_); (case side1 => repeat (first | exact (Kd.C_below HR0_2.out (by repeat (first | (with_reducible first | exact HB.out | apply below_alloc | apply pw_below_drewN | apply below_drew1 | refine below_set ?_ GE228.out) | exact HB.out))) | (with_reducible refine Kd.C_alloc ?_ _) | (with_reducible refine Kd.C_drewN ?_ _) | (with_reducible refine Kd.C_drew ?_))); (case side2 => exact HC0_2.out); rintro e w23 ⟨rfl, hb⟩; have n0_ := Aside0.mk (blk_below (g := gb228) (o := .cells #[.bool a0_0, .int .i64 a0_1, .slice A0_2 l0_2.length c0_2, .int .i64 a0_3] 70 (0, 0)) (by (with_reducible repeat (first | refine blk_drewN ?_ _ | refine blk_drew ?_ | refine blk_alloc ?_ _)); exact BK228.out) hb); have n1_ := Aside0.mk (below_step (by repeat (first | (with_reducible first | exact HB.out | apply below_alloc | apply pw_below_drewN | apply below_drew1 | refine below_set ?_ GE228.out) | exact HB.out)) hb); clear BK228; clear HB; have BK228 := n0_; have HB := n1_; clear n0_ n1_; (try clear hb); (try clear hb2); (try clear hk); (try clear hi); have hcz24_0 : w23.cell? ⟨gb228, 0, none⟩ = some (.bool a0_0) := (blk_cell BK228.out 0).trans rfl; have hcz24_1 : w23.cell? ⟨gb228, 1, none⟩ = some (.int .i64 a0_1) := (blk_cell BK228.out 1).trans rfl; have hcz24_2 : w23.cell? ⟨gb228, 2, none⟩ = some (.slice A0_2 l0_2.length c0_2) := (blk_cell BK228.out 2).trans rfl; have hcz24_3 : w23.cell? ⟨gb228, 3, none⟩ = some (.int .i64 a0_3) := (blk_cell BK228.out 3).trans rfl; have hfz24_0 := blk_frozen BK228.out 0; have hfz24_1 := blk_frozen BK228.out 1; have hfz24_2 := blk_frozen BK228.out 2; have hfz24_3 := blk_frozen BK228.out 3) | (go_at_call 43; (with_reducible refine (impl_many.calls _ _ l0_2 t231 _ ?side1 ?side2 A16.out).mono ?_); (case side1 => repeat (first | exact (Kd.C_below HR0_2.out HB.out) | (with_reducible refine Kd.C_alloc ?_ _) | (with_reducible refine Kd.C_drewN ?_ _) | (with_reducible refine Kd.C_drew ?_))); (case side2 => exact HC0_2.out); rintro e w' ⟨rfl, ⟨nd, rfl⟩⟩; (try first | exact ⟨rfl, _, World.drewN_drewN _ _ _⟩ | exact ⟨rfl, _, Eq.trans (World.drewN_drewN _ _ _) (congrArg (World.drewN _) (Nat.add_assoc _ _ _))⟩)) | (go_at_call 41; (with_reducible refine (impl_within.calls a0_3 0 t231 false _ A17.out).mono ?_); rintro e w' ⟨rfl, ⟨nd, rfl⟩⟩; (try first | exact ⟨rfl, _, World.drewN_drewN _ _ _⟩ | exact ⟨rfl, _, Eq.trans (World.drewN_drewN _ _ _) (congrArg (World.drewN _) (Nat.add_assoc _ _ _))⟩))); try go_wp2_with (first | (go_at_call 41; (with_reducible refine (impl_within.calls a0_1 0 200 true _ A12.out).mono ?_); rintro e w' ⟨rfl, ⟨nd, rfl⟩⟩; (try first | exact ⟨rfl, _, World.drewN_drewN _ _ _⟩ | exact ⟨rfl, _, Eq.trans (World.drewN_drewN _ _ _) (congrArg (World.drewN _) (Nat.add_assoc _ _ _))⟩)) | (go_at_call 42; (with_reducible refine (impl_LogFault.calls _ _ l0_2 t230 _ ?side1 ?side2 A14.out).mono ?_); (case side1 => repeat (first | exact (Kd.C_below HR0_2.out (by repeat (first | (with_reducible first | exact HB.out | apply below_alloc | apply pw_below_drewN | apply below_drew1 | refine below_set ?_ GE228.out) | exact HB.out))) | (with_reducible refine Kd.C_alloc ?_ _) | (with_reducible refine Kd.C_drewN ?_ _) | (with_reducible refine Kd.C_drew ?_))); (case side2 => exact HC0_2.out); rintro e w23 ⟨rfl, hb⟩; have n0_ := Aside0.mk (blk_below (g := gb228) (o := .cells #[.bool a0_0, .int .i64 a0_1, .slice A0_2 l0_2.length c0_2, .int .i64 a0_3] 70 (0, 0)) (by (with_reducible repeat (first | refine blk_drewN ?_ _ | refine blk_drew ?_ | refine blk_alloc ?_ _)); exact BK228.out) hb); have n1_ := Aside0.mk (below_step (by repeat (first | (with_reducible first | exact HB.out | apply below_alloc | apply pw_below_drewN | apply below_drew1 | refine below_set ?_ GE228.out) | exact HB.out)) hb); clear BK228; clear HB; have BK228 := n0_; have HB := n1_; clear n0_ n1_; (try clear hb); (try clear hb2); (try clear hk); (try clear hi); have hcz24_0 : w23.cell? ⟨gb228, 0, none⟩ = some (.bool a0_0) := (blk_cell BK228.out 0).trans rfl; have hcz24_1 : w23.cell? ⟨gb228, 1, none⟩ = some (.int .i64 a0_1) := (blk_cell BK228.out 1).trans rfl; have hcz24_2 : w23.cell? ⟨gb228, 2, none⟩ = some (.slice A0_2 l0_2.length c0_2) := (blk_cell BK228.out 2).trans rfl; have hcz24_3 : w23.cell? ⟨gb228, 3, none⟩ = some (.int .i64 a0_3) := (blk_cell BK228.out 3).trans rfl; have hfz24_0 := blk_frozen BK228.out 0; have hfz24_1 := blk_frozen BK228.out 1; have hfz24_2 := blk_frozen BK228.out 2; have hfz24_3 := blk_frozen BK228.out 3) | (go_at_call 43; (with_reducible refine (impl_many.calls _ _ l0_2 t231 _ ?side1 ?side2 A16.out).mono ?_); (case side1 => repeat (first | exact (Kd.C_below HR0_2.out HB.out) | (with_reducible refine Kd.C_alloc ?_ _) | (with_reducible refine Kd.C_drewN ?_ _) | (with_reducible refine Kd.C_drew ?_))); (case side2 => exact HC0_2.out); rintro e w' ⟨rfl, ⟨nd, rfl⟩⟩; (try first | exact ⟨rfl, _, World.drewN_drewN _ _ _⟩ | exact ⟨rfl, _, Eq.trans (World.drewN_drewN _ _ _) (congrArg (World.drewN _) (Nat.add_assoc _ _ _))⟩)) | (go_at_call 41; (with_reducible refine (impl_within.calls a0_3 0 t231 false _ A17.out).mono ?_); rintro e w' ⟨rfl, ⟨nd, rfl⟩⟩; (try first | exact ⟨rfl, _, World.drewN_drewN _ _ _⟩ | exact ⟨rfl, _, Eq.trans (World.drewN_drewN _ _ _) (congrArg (World.drewN _) (Nat.add_assoc _ _ _))⟩))))
              go_ret
              exact ⟨by first | rfl | (simp [errW_none, errW_some] <;> rfl) | (simp [*, errW_none, errW_some] <;> rfl), by repeat (first | (with_reducible first | exact HB.out | apply below_alloc | apply pw_below_drewN | apply below_drew1 | refine below_set ?_ GE228.out) | exact HB.out)⟩
          · rw [if_neg c15] at H
            have c15b0 : (t230 == 0) = false := beq_eq_false_iff_ne.mpr c15
            have c15b1 : (t230 != 0) = true := bne_iff_ne.mpr c15
            obtain rfl := Option.some.inj H
            have hcz25_0 : wc.cell? ⟨gb228, 0, none⟩ = some (.bool a0_0) := (blk_cell BK228.out 0).trans rfl
            have hcz25_1 : wc.cell? ⟨gb228, 1, none⟩ = some (.int .i64 a0_1) := (blk_cell BK228.out 1).trans rfl
            have hcz25_2 : wc.cell? ⟨gb228, 2, none⟩ = some (.slice A0_2 l0_2.length c0_2) := (blk_cell BK228.out 2).trans rfl
            have hcz25_3 : wc.cell? ⟨gb228, 3, none⟩ = some (.int .i64 a0_3) := (blk_cell BK228.out 3).trans rfl
            have hfz25_0 := blk_frozen BK228.out 0
            have hfz25_1 := blk_frozen BK228.out 1
            have hfz25_2 := blk_frozen BK228.out 2
            have hfz25_3 := blk_frozen BK228.out 3
            go_wp2_with (first | (go_at_call 41; (with_reducible refine (impl_within.calls a0_1 0 200 true _ A12.out).mono ?_); rintro e w' ⟨rfl, ⟨nd, rfl⟩⟩; (try first | exact ⟨rfl, _, World.drewN_drewN _ _ _⟩ | exact ⟨rfl, _, Eq.trans (World.drewN_drewN _ _ _) (congrArg (World.drewN _) (Nat.add_assoc _ _ _))⟩)) | (go_at_call 42; (with_reducible refine (impl_LogFault.calls _ _ l0_2 t230 _ ?side1 ?side2 A14.out).mono ?_); (case side1 => repeat (first | exact (Kd.C_below HR0_2.out (by repeat (first | (with_reducible first | exact HB.out | apply below_alloc | apply pw_below_drewN | apply below_drew1 | refine below_set ?_ GE228.out) | exact HB.out))) | (with_reducible refine Kd.C_alloc ?_ _) | (with_reducible refine Kd.C_drewN ?_ _) | (with_reducible refine Kd.C_drew ?_))); (case side2 => exact HC0_2.out); rintro e w26 ⟨rfl, hb⟩; have n0_ := Aside0.mk (blk_below (g := gb228) (o := .cells #[.bool a0_0, .int .i64 a0_1, .slice A0_2 l0_2.length c0_2, .int .i64 a0_3] 70 (0, 0)) (by (with_reducible repeat (first | refine blk_drewN ?_ _ | refine blk_drew ?_ | refine blk_alloc ?_ _)); exact BK228.out) hb); have n1_ := Aside0.mk (below_step (by repeat (first | (with_reducible first | exact HB.out | apply below_alloc | apply pw_below_drewN | apply below_drew1 | refine below_set ?_ GE228.out) | exact HB.out)) hb); clear BK228; clear HB; have BK228 := n0_; have HB := n1_; clear n0_ n1_; (try clear hb); (try clear hb2); (try clear hk); (try clear hi)))
            repeat (go_quiet (first | (go_at_call 41; (with_reducible refine (impl_within.calls a0_1 0 200 true _ A12.out).mono ?_); rintro e w' ⟨rfl, ⟨nd, rfl⟩⟩; (try first | exact ⟨rfl, _, World.drewN_drewN _ _ _⟩ | exact ⟨rfl, _, Eq.trans (World.drewN_drewN _ _ _) (congrArg (World.drewN _) (Nat.add_assoc _ _ _))⟩)) | (go_at_call 42; (with_reducible refine (impl_LogFault.calls _ _ l0_2 t230 _ ?side1 ?side2 A14.out).mono ?_); (case side1 => repeat (first | exact (Kd.C_below HR0_2.out (by repeat (first | (with_reducible first | exact HB.out | apply below_alloc | apply pw_below_drewN | apply below_drew1 | refine below_set ?_ GE228.out) | exact HB.out))) | (with_reducible refine Kd.C_alloc ?_ _) | (with_reducible refine Kd.C_drewN ?_ _) | (with_reducible refine Kd.C_drew ?_))); (case side2 => exact HC0_2.out); rintro e w26 ⟨rfl, hb⟩; have n0_ := Aside0.mk (blk_below (g := gb228) (o := .cells #[.bool a0_0, .int .i64 a0_1, .slice A0_2 l0_2.length c0_2, .int .i64 a0_3] 70 (0, 0)) (by (with_reducible repeat (first | refine blk_drewN ?_ _ | refine blk_drew ?_ | refine blk_alloc ?_ _)); exact BK228.out) hb); have n1_ := Aside0.mk (below_step (by repeat (first | (with_reducible first | exact HB.out | apply below_alloc | apply pw_below_drewN | apply below_drew1 | refine below_set ?_ GE228.out) | exact HB.out)) hb); clear BK228; clear HB; have BK228 := n0_; have HB := n1_; clear n0_ n1_; (try clear hb); (try clear hb2); (try clear hk); (try clear hi))); try go_wp2_with (first | (go_at_call 41; (with_reducible refine (impl_within.calls a0_1 0 200 true _ A12.out).mono ?_); rintro e w' ⟨rfl, ⟨nd, rfl⟩⟩; (try first | exact ⟨rfl, _, World.drewN_drewN _ _ _⟩ | exact ⟨rfl, _, Eq.trans (World.drewN_drewN _ _ _) (congrArg (World.drewN _) (Nat.add_assoc _ _ _))⟩)) | (go_at_call 42; (with_reducible refine (impl_LogFault.calls _ _ l0_2 t230 _ ?side1 ?side2 A14.out).mono ?_); (case side1 => repeat (first | exact (Kd.C_below HR0_2.out (by repeat (first | (with_reducible first | exact HB.out | apply below_alloc | apply pw_below_drewN | apply below_drew1 | refine below_set ?_ GE228.out) | exact HB.out))) | (with_reducible refine Kd.C_alloc ?_ _) | (with_reducible refine Kd.C_drewN ?_ _) | (with_reducible refine Kd.C_drew ?_))); (case side2 => exact HC0_2.out); rintro e w26 ⟨rfl, hb⟩; have n0_ := Aside0.mk (blk_below (g := gb228) (o := .cells #[.bool a0_0, .int .i64 a0_1, .slice A0_2 l0_2.length c0_2, .int .i64 a0_3] 70 (0, 0)) (by (with_reducible repeat (first | refine blk_drewN ?_ _ | refine blk_drew ?_ | refine blk_alloc ?_ _)); exact BK228.out) hb); have n1_ := Aside0.mk (below_step (by repeat (first | (with_reducible first | exact HB.out | apply below_alloc | apply pw_below_drewN | apply below_drew1 | refine below_set ?_ GE228.out) | exact HB.out)) hb); clear BK228; clear HB; have BK228 := n0_; have HB := n1_; clear n0_ n1_; (try clear hb); (try clear hb2); (try clear hk); (try clear hi))))
            go_ret
            exact ⟨by first | rfl | (simp [errW_none, errW_some] <;> rfl) | (simp [*, errW_none, errW_some] <;> rfl), by repeat (first | (with_reducible first | exact HB.out | apply below_alloc | apply pw_below_drewN | apply below_drew1 | refine below_set ?_ GE228.out) | exact HB.out)⟩
        · replace c13 := Bool.eq_false_iff.mpr c13
          subst c13
          have H1 : (some 3) = some r := by rw [if_neg (show ¬ (false = true) by decide)] at H; exact H
          clear H
          have H := H1
          clear H1
          obtain rfl := Option.some.inj H
          have hcz27_0 : wc.cell? ⟨gb228, 0, none⟩ = some (.bool a0_0) := (blk_cell BK228.out 0).trans rfl
          have hcz27_1 : wc.cell? ⟨gb228, 1, none⟩ = some (.int .i64 a0_1) := (blk_cell BK228.out 1).trans rfl
          have hcz27_2 : wc.cell? ⟨gb228, 2, none⟩ = some (.slice A0_2 l0_2.length c0_2) := (blk_cell BK228.out 2).trans rfl
          have hcz27_3 : wc.cell? ⟨gb228, 3, none⟩ = some (.int .i64 a0_3) := (blk_cell BK228.out 3).trans rfl
          have hfz27_0 := blk_frozen BK228.out 0
          have hfz27_1 := blk_frozen BK228.out 1
          have hfz27_2 := blk_frozen BK228.out 2
          have hfz27_3 := blk_frozen BK228.out 3
          go_wp2_with (first | (go_at_call 41; (with_reducible refine (impl_within.calls a0_1 0 200 false _ A12.out).mono ?_); rintro e w' ⟨rfl, ⟨nd, rfl⟩⟩; (try first | exact ⟨rfl, _, World.drewN_drewN _ _ _⟩ | exact ⟨rfl, _, Eq.trans (World.drewN_drewN _ _ _) (congrArg (World.drewN _) (Nat.add_assoc _ _ _))⟩)))
          repeat (go_quiet (first | (go_at_call 41; (with_reducible refine (impl_within.calls a0_1 0 200 false _ A12.out).mono ?_); rintro e w' ⟨rfl, ⟨nd, rfl⟩⟩; (try first | exact ⟨rfl, _, World.drewN_drewN _ _ _⟩ | exact ⟨rfl, _, Eq.trans (World.drewN_drewN _ _ _) (congrArg (World.drewN _) (Nat.add_assoc _ _ _))⟩))); try go_wp2_with (first | (go_at_call 41; (with_reducible refine (impl_within.calls a0_1 0 200 false _ A12.out).mono ?_); rintro e w' ⟨rfl, ⟨nd, rfl⟩⟩; (try first | exact ⟨rfl, _, World.drewN_drewN _ _ _⟩ | exact ⟨rfl, _, Eq.trans (World.drewN_drewN _ _ _) (congrArg (World.drewN _) (Nat.add_assoc _ _ _))⟩))))
          go_ret
          exact ⟨by first | rfl | (simp [errW_none, errW_some] <;> rfl) | (simp [*, errW_none, errW_some] <;> rfl), by repeat (first | (with_reducible first | exact HB.out | apply below_alloc | apply pw_below_drewN | apply below_drew1 | refine below_set ?_ GE228.out) | exact HB.out)⟩



/-! ### impl_ReplicaFault: function 12 -/
theorem hd_in (a b c : Int) (w : World) : Calls Try.prog 41 #[.int .i64 a, .int .i64 b, .int .i64 c] w fun e w' => e = .returned (.bool (inR a b c)) ∧ w' = w := hd_within a b c w

theorem hd_many (A : Option Addr) (n c : Nat) (w : World) : Calls Try.prog 43 #[.slice A n c] w fun e w' => e = .returned (.int .i64 n) ∧ w' = w := by
  go_enter Try.func43, Try.ntmps43
  go_wp2
  go_ret
  exact ⟨rfl, rfl⟩
theorem hd_primary (view size : Int) (w : World) (hs1 : 1 ≤ size) (hs2 : size ≤ 5) (hv1 : 0 ≤ view) (hv2 : view ≤ 200) : Calls Try.prog 92 #[.int .i64 view, .int .i64 size] w fun e w' => e = .returned (.int .i64 (view % size)) ∧ w' = w := by
  have hz : (size == 0) = false := beq_eq_false_iff_ne.mpr (by omega)
  go_enter Try.func92, Try.ntmps92
  go_wp2
  go_ret
  exact ⟨rfl, rfl⟩
set_option maxHeartbeats 8000000 in
set_option maxRecDepth 100000 in
theorem hd_isPrimary (p : Addr) (id size view last commit : Int) (norm : Bool) (v5 v7 v8 v9 : Value) (w : World) (hx : CellsAt w p [.int .i64 id, .int .i64 size, .int .i64 view, .bool norm, .int .i64 last, v5, .int .i64 commit, v7, v8, v9])
    (hs1 : 1 ≤ size) (hs2 : size ≤ 5) (hv1 : 0 ≤ view) (hv2 : view ≤ 200) :
    Calls Try.prog 80 #[.pointer (some p)] w fun e w' => e = .returned (.bool (view % size == id)) ∧ ∃ n, w' = w.drewN n := by
  have hx0 := hx.zero rfl
  have hx1 := hx.get 0 rfl
  have hx2 := hx.get 1 rfl
  clear hx
  go_enter Try.func80, Try.ntmps80
  go_wp2
  go_quiet ((go_at_call 92; exact Calls.quiet_of_same (hd_primary _ _ _ hs1 hs2 hv1 hv2)))
  go_wp2
  go_ret
  exact ⟨rfl, _, rfl⟩
set_option maxHeartbeats 8000000 in
set_option maxRecDepth 100000 in
theorem hd_leads (p : Addr) (id size view last commit : Int) (norm : Bool) (v5 v7 v8 v9 : Value) (w : World) (hx : CellsAt w p [.int .i64 id, .int .i64 size, .int .i64 view, .bool norm, .int .i64 last, v5, .int .i64 commit, v7, v8, v9])
    (hs1 : 1 ≤ size) (hs2 : size ≤ 5) (hv1 : 0 ≤ view) (hv2 : view ≤ 200) :
    Calls Try.prog 44 #[.pointer (some p)] w fun e w' => e = .returned (.bool (norm && (view % size == id))) ∧ ∃ n, w' = w.drewN n := by
  have HX := Aside0.mk hx
  have hx3 := hx.get 2 rfl
  clear hx
  cases norm
  all_goals
    go_enter Try.func44, Try.ntmps44
    go_wp2_with (go_at_call 80; refine (hd_isPrimary _ _ _ _ _ _ _ _ _ _ _ _ HX.out hs1 hs2 hv1 hv2).mono ?_; rintro e w' ⟨rfl, nq, rfl⟩)
    go_ret
    first | exact ⟨ret_bool (by simp), 0, rfl⟩ | exact ⟨ret_bool (by simp), _, rfl⟩
theorem hd_oks (x : Int) (p : Addr) (A : Option Addr) (n c : Nat) (w : World) (hx : w.cell? ⟨p.block, p.off + 5, none⟩ = some (.slice A n c)) : Calls Try.prog 46 #[.int .i64 x, .pointer (some p)] w fun e w' => e = .returned (.bool (!inR x 0 n)) ∧ w' = w := by
  go_enter Try.func46, Try.ntmps46
  go_wp2_with (first | (go_at_call 43; refine (hd_many _ _ _ _).mono ?_; rintro e w' ⟨rfl, rfl⟩) | (go_at_call 41; refine (hd_in _ _ _ _).mono ?_; rintro e w' ⟨rfl, rfl⟩))
  go_ret
  exact ⟨rfl, rfl⟩

/-- The place of the first that is no place of a log; -1 if there is none. -/
def noO (m : Nat) : List Int → Int → Int
  | [], _ => -1
  | x :: xs, i => if inR x 0 m = true then noO m xs (i + 1) else i
theorem noO_neg (m : Nat) : ∀ (l : List Int) (i : Int), 0 ≤ i → (decide (noO m l i ≥ 0) = !oksB m l)
  | [], i, h => by simp [noO, oksB]
  | x :: xs, i, h => by
    by_cases hb : inR x 0 m = true
    · simp only [noO, oksB, if_pos hb]
      exact noO_neg m xs (i + 1) (by omega)
    · rw [Bool.not_eq_true] at hb
      simp [noO, oksB, hb, h]
set_option maxHeartbeats 1000000 in
theorem idxO_calls (A : Option Addr) (c : Nat) (l : List Int) (p : Addr) (A5 : Option Addr) (m c5 : Nat) (w : World) (hp : w.cell? ⟨p.block, p.off + 5, none⟩ = some (.slice A5 m c5)) (hr : Kd.C (Kd.int .i64) w A l.length l) (hc : l.length ≤ c) :
    Calls Try.prog 81 #[.slice A l.length c, .func (.func 46) #[] #[.pointer (some p)]] w fun e w' => e = .returned (.int .i64 (noO m l 0)) ∧ w' = w := by
  have hl := hr.2.1
  have HR := Aside0.mk hr
  clear hr
  go_enter Try.func81, Try.ntmps81
  go_wp2
  go_loop [8] (fun v => ∃ k : Nat, k ≤ l.length ∧ v = .int .i64 k ∧ Aside0 (noO m l 0 = noO m (l.drop k) k)) (fun v => l.length - (intOf v).toNat)
  case atStart => exact ⟨0, by omega, rfl, ⟨by simp⟩⟩
  case round =>
    obtain ⟨k, hk, rfl, HN⟩ := hrel
    by_cases hlt : k < l.length
    · obtain ⟨ad, cs, e1, _, hK, hcell⟩ := Kd.C_get HR.out 0 (k : Int) (by omega) (by omega)
      cases e1
      have hx : cs = [.int .i64 (l.getD k 0)] := hK
      subst hx
      have hx0 : w.cell? (ad.add k) = some (.int .i64 (l.getD k 0)) := by have h := hcell 0 _ rfl; simpa [show (Kd.int .i64).sz = 1 from rfl] using h
      clear hcell hK
      have e2 : l.drop k = l.getD k 0 :: l.drop (k + 1) := by rw [List.drop_eq_getElem_cons hlt, List.getD_eq_getElem?_getD, List.getElem?_eq_getElem hlt]; rfl
      have HN2 : Aside0 (noO m l 0 = if inR (l.getD k 0) 0 m = true then noO m (l.drop (k + 1)) (k + 1) else k) := ⟨by rw [HN.out, e2]; rfl⟩
      clear e2 HN
      generalize hg : l.getD k 0 = x at *
      have Hg := Aside0.mk hg
      clear hg
      cases hb : inR x 0 m with
      | true =>
        have HB := Aside0.mk hb
        clear hb
        go_wp2_with (go_at_call 46; refine (hd_oks x p A5 m c5 w hp).mono ?_; rintro e w' ⟨rfl, rfl⟩; rw [HB.out])
        go_round
        case rel => exact ⟨k + 1, by omega, by go_num, ⟨by rw [HN2.out, if_pos HB.out]; simp⟩⟩
        case measure => simp [intOf]; omega
      | false =>
        have HB := Aside0.mk hb
        clear hb
        go_wp2_with (go_at_call 46; refine (hd_oks x p A5 m c5 w hp).mono ?_; rintro e w' ⟨rfl, rfl⟩; rw [HB.out])
        go_ret
        exact ⟨by rw [HN2.out, HB.out]; simp, rfl⟩
    · go_wp2
      go_ret
      refine ⟨?_, rfl⟩
      rw [HN.out, List.drop_eq_nil_of_le (by omega)]
      rfl
theorem hasO_calls (A : Option Addr) (c : Nat) (l : List Int) (p : Addr) (A5 : Option Addr) (m c5 : Nat) (w : World) (hp : w.cell? ⟨p.block, p.off + 5, none⟩ = some (.slice A5 m c5)) (hr : Kd.C (Kd.int .i64) w A l.length l) (hc : l.length ≤ c) :
    Calls Try.prog 45 #[.slice A l.length c, .func (.func 46) #[] #[.pointer (some p)]] w fun e w' => e = .returned (.bool (!oksB m l)) ∧ w' = w := by
  have HR := Aside0.mk hr
  have HC := Aside0.mk hc
  clear hr hc
  have HN := Aside0.mk (noO_neg m l 0 (by omega))
  go_enter Try.func45, Try.ntmps45
  go_wp2_with (go_at_call 81; refine (idxO_calls A c l p A5 m c5 w hp HR.out HC.out).mono ?_; rintro e w' ⟨rfl, rfl⟩)
  go_ret
  exact ⟨by rw [← HN.out]; rfl, rfl⟩

set_option maxHeartbeats 8000000 in
set_option maxRecDepth 100000 in
theorem hd_doerFault (d0 : Bool) (d1 : Int) (A : Option Addr) (c : Nat) (l : List (S95)) (d3 : Int) (n : Nat) (w : World) (hr : Kd.C k95 w A l.length l) (hc : l.length ≤ c) (hn : n = l.length) :
    Calls Try.prog 47 #[.agg #[.bool d0, .int .i64 d1, .slice A n c, .int .i64 d3]] w fun e w' => e = .returned (.int .i64 (doerF d0 d1 l d3)) ∧ Below w.heap.size w w' := by
  have hu := Try.underlying70
  have HR := Aside0.mk hr
  have HC := Aside0.mk hc
  have HN := Aside0.mk hn
  clear hr hc hn
  have HB := Aside0.mk (Below.refl w.heap.size w)
  by_cases hl : 0 < n
  · have hl1 : decide (0 < n) = true := decide_eq_true hl
    have hl2 : decide (0 < (n : Int)) = true := decide_eq_true (by omega)
    have HL := Aside0.mk hl
    clear hl
    go_enter Try.func47, Try.ntmps47
    go_wp2_with (first | (go_at_call 41; refine (hd_within _ _ _ _).mono ?_; rintro e w' ⟨rfl, rfl⟩) | (go_at_call 42; rw [HN.out]; ((with_reducible refine (impl_LogFault.calls _ _ _ _ _ (Kd.C_alloc HR.out _) HC.out rfl).mono ?_); rintro e w1 ⟨rfl, hb⟩; have n_ := Aside0.mk (below_step (by repeat (first | (with_reducible first | exact HB.out | apply below_alloc | apply pw_below_drewN | apply below_drew1) | exact HB.out)) hb); obtain ⟨hc_, hf_⟩ := bcell hb; clear HB hb; have HB := n_; clear n_)))
    all_goals try (go_quiet ((first | (go_at_call 41; exact Calls.quiet_of_same (hd_within _ _ _ _)) | (go_at_call 43; exact Calls.quiet_of_same (hd_many _ _ _ _)))); go_wp2)
    all_goals
      go_ret
      refine ⟨ret_i64 ?_, (by repeat (first | (with_reducible first | exact HB.out | apply below_alloc | apply pw_below_drewN | apply below_drew1) | exact HB.out))⟩
      have hl := HL.out
      have hn := HN.out
      clear HL HN HB HR HC hu hl1 hl2
      try simp only [Bool.not_eq_eq_eq_not, Bool.not_true, Bool.not_false, decide_eq_true_eq, decide_eq_false_iff_not, beq_iff_eq, beq_eq_false_iff_ne, bne_iff_ne, bne_eq_false_iff_eq, ne_eq, Int.not_le, Int.not_lt, Bool.not_eq_true] at *
      unfold doerF
      grind
  · have hl1 : decide (0 < n) = false := decide_eq_false hl
    have hl2 : decide (0 < (n : Int)) = false := decide_eq_false (by omega)
    have HL := Aside0.mk hl
    clear hl
    go_enter Try.func47, Try.ntmps47
    go_wp2_with (first | (go_at_call 41; refine (hd_within _ _ _ _).mono ?_; rintro e w' ⟨rfl, rfl⟩) | (go_at_call 42; rw [HN.out]; ((with_reducible refine (impl_LogFault.calls _ _ _ _ _ (Kd.C_alloc HR.out _) HC.out rfl).mono ?_); rintro e w1 ⟨rfl, hb⟩; have n_ := Aside0.mk (below_step (by repeat (first | (with_reducible first | exact HB.out | apply below_alloc | apply pw_below_drewN | apply below_drew1) | exact HB.out)) hb); obtain ⟨hc_, hf_⟩ := bcell hb; clear HB hb; have HB := n_; clear n_)))
    all_goals try (go_quiet ((first | (go_at_call 41; exact Calls.quiet_of_same (hd_within _ _ _ _)) | (go_at_call 43; exact Calls.quiet_of_same (hd_many _ _ _ _)))); go_wp2)
    all_goals
      go_ret
      refine ⟨ret_i64 ?_, (by repeat (first | (with_reducible first | exact HB.out | apply below_alloc | apply pw_below_drewN | apply below_drew1) | exact HB.out))⟩
      have hl := HL.out
      have hn := HN.out
      clear HL HN HB HR HC hu hl1 hl2
      try simp only [Bool.not_eq_eq_eq_not, Bool.not_true, Bool.not_false, decide_eq_true_eq, decide_eq_false_iff_not, beq_iff_eq, beq_eq_false_iff_ne, bne_iff_ne, bne_eq_false_iff_eq, ne_eq, Int.not_le, Int.not_lt, Bool.not_eq_true] at *
      unfold doerF
      grind

set_option maxHeartbeats 16000000 in
set_option maxRecDepth 100000 in
theorem hd_ReplicaFault (id size view last commit : Int) (norm : Bool) (A5 A7 A8 A9 : Option Addr) (c5 c7 c8 c9 n5 n7 n8 n9 : Nat) (log : List (S95)) (oks : List Int) (doers : List (S70)) (w : World)
    (hn5 : n5 = log.length) (hn7 : n7 = oks.length) (hn9 : n9 = doers.length) (hr5 : Kd.C k95 w A5 log.length log) (hc5 : log.length ≤ c5) (hr7 : Kd.C (Kd.int .i64) w A7 oks.length oks) (hc7 : oks.length ≤ c7) (hr9 : Kd.C k70 w A9 doers.length doers) (hc9 : doers.length ≤ c9) :
    Calls Try.prog 12 #[.agg #[.int .i64 id, .int .i64 size, .int .i64 view, .bool norm, .int .i64 last, .slice A5 n5 c5, .int .i64 commit, .slice A7 n7 c7, .slice A8 n8 c8, .slice A9 n9 c9]] w fun e w' => e = .returned (.int .i64 (repF id size view norm last log commit oks n8 doers)) ∧ Below w.heap.size w w' := by
  have hmf : ∀ (fn : Fn) (first cap : Array Value) (w : World), (Instr.makeFunc fn first cap).run Try.prog w = .ok (.func fn first cap) w := fun _ _ _ _ => rfl
  have hu := Try.underlying70
  have HN5 := Aside0.mk hn5
  have HN7 := Aside0.mk hn7
  have HN9 := Aside0.mk hn9
  have HR5 := Aside0.mk hr5
  have HC5 := Aside0.mk hc5
  have HR7 := Aside0.mk hr7
  have HC7 := Aside0.mk hc7
  have HR9 := Aside0.mk hr9
  have HC9 := Aside0.mk hc9
  have HB := Aside0.mk (Below.refl w.heap.size w)
  clear hn5 hn7 hn9 hr5 hc5 hr7 hc7 hr9 hc9
  by_cases h1 : inR size 1 5 = true
  case neg =>
    rw [Bool.not_eq_true] at h1
    go_enter Try.func12, Try.ntmps12
    go_wp2_with (go_at_call 41; refine (hd_in _ _ _ _).mono ?_; rintro e w2 ⟨rfl, rfl⟩)
    go_ret
    exact ⟨ret_i64 (by unfold repF; rw [if_pos (Or.inl h1)]), (by repeat (first | (with_reducible first | exact HB.out | apply below_alloc | apply pw_below_drewN | apply below_drew1) | exact HB.out))⟩
  obtain ⟨hs1, hs2⟩ := inR_iff.1 h1
  by_cases h2 : inR id 0 (size - 1) = true
  case neg =>
    rw [Bool.not_eq_true] at h2
    go_enter Try.func12, Try.ntmps12
    go_wp2_with (go_at_call 41; refine (hd_in _ _ _ _).mono ?_; rintro e w2 ⟨rfl, rfl⟩)
    go_ret
    exact ⟨ret_i64 (by unfold repF; rw [if_pos (Or.inr (Or.inl h2))]), (by repeat (first | (with_reducible first | exact HB.out | apply below_alloc | apply pw_below_drewN | apply below_drew1) | exact HB.out))⟩
  by_cases h3 : inR view 0 200 = true
  case neg =>
    rw [Bool.not_eq_true] at h3
    go_enter Try.func12, Try.ntmps12
    go_wp2_with (go_at_call 41; refine (hd_in _ _ _ _).mono ?_; rintro e w2 ⟨rfl, rfl⟩)
    go_ret
    exact ⟨ret_i64 (by unfold repF; rw [if_pos (Or.inr (Or.inr (Or.inl h3)))]), (by repeat (first | (with_reducible first | exact HB.out | apply below_alloc | apply pw_below_drewN | apply below_drew1) | exact HB.out))⟩
  obtain ⟨hv1, hv2⟩ := inR_iff.1 h3
  by_cases h4 : inR last 0 view = true
  case neg =>
    rw [Bool.not_eq_true] at h4
    go_enter Try.func12, Try.ntmps12
    go_wp2_with (go_at_call 41; refine (hd_in _ _ _ _).mono ?_; rintro e w2 ⟨rfl, rfl⟩)
    go_ret
    exact ⟨ret_i64 (by unfold repF; rw [if_pos (Or.inr (Or.inr (Or.inr h4)))]), (by repeat (first | (with_reducible first | exact HB.out | apply below_alloc | apply pw_below_drewN | apply below_drew1) | exact HB.out))⟩
  have H14 : Aside0 (¬ (inR size 1 5 = false ∨ inR id 0 (size - 1) = false ∨ inR view 0 200 = false ∨ inR last 0 view = false)) := ⟨by rw [h1, h2, h3, h4]; simp⟩
  obtain ⟨lf, hlf⟩ : ∃ lf, lf = logF log := ⟨_, rfl⟩
  have HLF := Aside0.mk hlf
  clear hlf
  by_cases h5 : (lf != 0) = true
  case pos =>
    go_enter Try.func12, Try.ntmps12
    go_wp2_with (first | (go_at_call 41; refine (hd_in _ _ _ _).mono ?_; rintro e w2 ⟨rfl, rfl⟩) | (go_at_call 42; rw [HN5.out]; ((with_reducible refine (impl_LogFault.calls _ _ _ _ _ (Kd.C_alloc HR5.out _) HC5.out rfl).mono ?_); rintro e w1 ⟨rfl, hb⟩; rw [← HLF.out, ← HN5.out]; rw [← HN5.out] at hb; have n_ := Aside0.mk (below_step (by repeat (first | (with_reducible first | exact HB.out | apply below_alloc | apply pw_below_drewN | apply below_drew1) | exact HB.out)) hb); have HX1 : Aside0 (CellsAt w1 ⟨w.heap.size, 0, none⟩ [.int .i64 id, .int .i64 size, .int .i64 view, .bool norm, .int .i64 last, .slice A5 n5 c5, .int .i64 commit, .slice A7 n7 c7, .slice A8 n8 c8, .slice A9 n9 c9]) := ⟨cellsAt_new hb⟩; clear HB hb; have HB := n_; clear n_; have hy0 : w1.cell? ⟨w.heap.size, 0, none⟩ = some (.int .i64 id) := HX1.out.zero rfl; have hy1 : w1.cell? ⟨w.heap.size, 1, none⟩ = some (.int .i64 size) := HX1.out.get 0 rfl; have hy2 : w1.cell? ⟨w.heap.size, 2, none⟩ = some (.int .i64 view) := HX1.out.get 1 rfl; have hy3 : w1.cell? ⟨w.heap.size, 3, none⟩ = some (.bool norm) := HX1.out.get 2 rfl; have hy4 : w1.cell? ⟨w.heap.size, 4, none⟩ = some (.int .i64 last) := HX1.out.get 3 rfl; have hy5 : w1.cell? ⟨w.heap.size, 5, none⟩ = some (.slice A5 n5 c5) := HX1.out.get 4 rfl; have hy6 : w1.cell? ⟨w.heap.size, 6, none⟩ = some (.int .i64 commit) := HX1.out.get 5 rfl; have hy7 : w1.cell? ⟨w.heap.size, 7, none⟩ = some (.slice A7 n7 c7) := HX1.out.get 6 rfl; have hy8 : w1.cell? ⟨w.heap.size, 8, none⟩ = some (.slice A8 n8 c8) := HX1.out.get 7 rfl; have hy9 : w1.cell? ⟨w.heap.size, 9, none⟩ = some (.slice A9 n9 c9) := HX1.out.get 8 rfl)))
    go_ret
    exact ⟨ret_i64 (by unfold repF; rw [if_neg H14.out, ← HLF.out, if_pos (bne_iff_ne.1 h5)]), (by repeat (first | (with_reducible first | exact HB.out | apply below_alloc | apply pw_below_drewN | apply below_drew1) | exact HB.out))⟩
  rw [Bool.not_eq_true] at h5
  have H5 : Aside0 (¬ logF log ≠ 0) := ⟨by rw [← HLF.out]; simpa using h5⟩
  by_cases h6 : inR commit 0 n5 = true
  case neg =>
    rw [Bool.not_eq_true] at h6
    go_enter Try.func12, Try.ntmps12
    go_wp2_with (first | (go_at_call 41; refine (hd_in _ _ _ _).mono ?_; rintro e w2 ⟨rfl, rfl⟩) | (go_at_call 42; rw [HN5.out]; ((with_reducible refine (impl_LogFault.calls _ _ _ _ _ (Kd.C_alloc HR5.out _) HC5.out rfl).mono ?_); rintro e w1 ⟨rfl, hb⟩; rw [← HLF.out, ← HN5.out]; rw [← HN5.out] at hb; have n_ := Aside0.mk (below_step (by repeat (first | (with_reducible first | exact HB.out | apply below_alloc | apply pw_below_drewN | apply below_drew1) | exact HB.out)) hb); have HX1 : Aside0 (CellsAt w1 ⟨w.heap.size, 0, none⟩ [.int .i64 id, .int .i64 size, .int .i64 view, .bool norm, .int .i64 last, .slice A5 n5 c5, .int .i64 commit, .slice A7 n7 c7, .slice A8 n8 c8, .slice A9 n9 c9]) := ⟨cellsAt_new hb⟩; clear HB hb; have HB := n_; clear n_; have hy0 : w1.cell? ⟨w.heap.size, 0, none⟩ = some (.int .i64 id) := HX1.out.zero rfl; have hy1 : w1.cell? ⟨w.heap.size, 1, none⟩ = some (.int .i64 size) := HX1.out.get 0 rfl; have hy2 : w1.cell? ⟨w.heap.size, 2, none⟩ = some (.int .i64 view) := HX1.out.get 1 rfl; have hy3 : w1.cell? ⟨w.heap.size, 3, none⟩ = some (.bool norm) := HX1.out.get 2 rfl; have hy4 : w1.cell? ⟨w.heap.size, 4, none⟩ = some (.int .i64 last) := HX1.out.get 3 rfl; have hy5 : w1.cell? ⟨w.heap.size, 5, none⟩ = some (.slice A5 n5 c5) := HX1.out.get 4 rfl; have hy6 : w1.cell? ⟨w.heap.size, 6, none⟩ = some (.int .i64 commit) := HX1.out.get 5 rfl; have hy7 : w1.cell? ⟨w.heap.size, 7, none⟩ = some (.slice A7 n7 c7) := HX1.out.get 6 rfl; have hy8 : w1.cell? ⟨w.heap.size, 8, none⟩ = some (.slice A8 n8 c8) := HX1.out.get 7 rfl; have hy9 : w1.cell? ⟨w.heap.size, 9, none⟩ = some (.slice A9 n9 c9) := HX1.out.get 8 rfl)))
    go_quiet ((first | (go_at_call 41; exact Calls.quiet_of_same (hd_in _ _ _ _)) | (go_at_call 43; exact Calls.quiet_of_same (hd_many _ _ _ _))))
    go_wp2
    go_ret
    exact ⟨ret_i64 (by unfold repF; rw [if_neg H14.out, if_neg H5.out, if_pos (by rw [← HN5.out]; exact h6)]), (by repeat (first | (with_reducible first | exact HB.out | apply below_alloc | apply pw_below_drewN | apply below_drew1) | exact HB.out))⟩
  have H6 : Aside0 (¬ inR commit 0 log.length = false) := ⟨by rw [← HN5.out, h6]; simp⟩
  by_cases h7 : norm = true ∧ last ≠ view
  case pos =>
    obtain ⟨hn, h7⟩ := h7
    subst hn
    have h7b : (last != view) = true := bne_iff_ne.2 h7
    have H7 := Aside0.mk h7
    clear h7
    go_enter Try.func12, Try.ntmps12
    go_wp2_with (first | (go_at_call 41; refine (hd_in _ _ _ _).mono ?_; rintro e w2 ⟨rfl, rfl⟩) | (go_at_call 42; rw [HN5.out]; ((with_reducible refine (impl_LogFault.calls _ _ _ _ _ (Kd.C_alloc HR5.out _) HC5.out rfl).mono ?_); rintro e w1 ⟨rfl, hb⟩; rw [← HLF.out, ← HN5.out]; rw [← HN5.out] at hb; have n_ := Aside0.mk (below_step (by repeat (first | (with_reducible first | exact HB.out | apply below_alloc | apply pw_below_drewN | apply below_drew1) | exact HB.out)) hb); have HX1 : Aside0 (CellsAt w1 ⟨w.heap.size, 0, none⟩ [.int .i64 id, .int .i64 size, .int .i64 view, .bool true, .int .i64 last, .slice A5 n5 c5, .int .i64 commit, .slice A7 n7 c7, .slice A8 n8 c8, .slice A9 n9 c9]) := ⟨cellsAt_new hb⟩; clear HB hb; have HB := n_; clear n_; have hy0 : w1.cell? ⟨w.heap.size, 0, none⟩ = some (.int .i64 id) := HX1.out.zero rfl; have hy1 : w1.cell? ⟨w.heap.size, 1, none⟩ = some (.int .i64 size) := HX1.out.get 0 rfl; have hy2 : w1.cell? ⟨w.heap.size, 2, none⟩ = some (.int .i64 view) := HX1.out.get 1 rfl; have hy3 : w1.cell? ⟨w.heap.size, 3, none⟩ = some (.bool true) := HX1.out.get 2 rfl; have hy4 : w1.cell? ⟨w.heap.size, 4, none⟩ = some (.int .i64 last) := HX1.out.get 3 rfl; have hy5 : w1.cell? ⟨w.heap.size, 5, none⟩ = some (.slice A5 n5 c5) := HX1.out.get 4 rfl; have hy6 : w1.cell? ⟨w.heap.size, 6, none⟩ = some (.int .i64 commit) := HX1.out.get 5 rfl; have hy7 : w1.cell? ⟨w.heap.size, 7, none⟩ = some (.slice A7 n7 c7) := HX1.out.get 6 rfl; have hy8 : w1.cell? ⟨w.heap.size, 8, none⟩ = some (.slice A8 n8 c8) := HX1.out.get 7 rfl; have hy9 : w1.cell? ⟨w.heap.size, 9, none⟩ = some (.slice A9 n9 c9) := HX1.out.get 8 rfl)))
    go_quiet ((first | (go_at_call 41; exact Calls.quiet_of_same (hd_in _ _ _ _)) | (go_at_call 43; exact Calls.quiet_of_same (hd_many _ _ _ _))))
    go_wp2
    go_quiet (fail)
    go_wp2_with (go_at_call 44; refine (hd_leads _ id size view last commit true _ _ _ _ _ (by first | exact HX1.out.drewN _ | exact (HX1.out.drewN _).drewN _ | exact HX1.out) hs1 hs2 hv1 hv2).mono ?_; rintro e w2 ⟨rfl, nq, rfl⟩)
    all_goals
      go_ret
      exact ⟨ret_i64 (by unfold repF; rw [if_neg H14.out, if_neg H5.out, if_neg H6.out, if_pos (Or.inl ⟨rfl, H7.out⟩)]), (by repeat (first | (with_reducible first | exact HB.out | apply below_alloc | apply pw_below_drewN | apply below_drew1) | exact HB.out))⟩
  have H7 := Aside0.mk h7
  clear h7
  have HE1 : Aside0 (sizesB id size view norm oks.length n8 doers.length = false → repF id size view norm last log commit oks n8 doers = 1) := ⟨fun h => by unfold repF; rw [if_neg H14.out, if_neg H5.out, if_neg H6.out, if_pos (Or.inr h)]⟩
  have HE2 : Aside0 (sizesB id size view norm oks.length n8 doers.length = true → repF id size view norm last log commit oks n8 doers = if oksB log.length oks = false then 3 else doersF doers) := ⟨fun h => by unfold repF; rw [if_neg H14.out, if_neg H5.out, if_neg H6.out, if_neg (fun h2 => h2.elim (fun h3 => H7.out h3) (fun h3 => by rw [h] at h3; exact absurd h3 (by simp)))]⟩
  by_cases h9 : oksB n5 oks = true
  case pos =>
    have HE3 : Aside0 (sizesB id size view norm oks.length n8 doers.length = true → repF id size view norm last log commit oks n8 doers = doersF doers) := ⟨fun h => by rw [HE2.out h, if_neg (by rw [← HN5.out, h9]; simp)]⟩
    cases norm with
    | false =>
      obtain ⟨b7, hb7⟩ : ∃ b, ((n7 : Int) != 0) = b := ⟨_, rfl⟩
      obtain ⟨b8, hb8⟩ : ∃ b, ((n8 : Int) != size) = b := ⟨_, rfl⟩
      obtain ⟨b9, hb9⟩ : ∃ b, ((n9 : Int) != size) = b := ⟨_, rfl⟩
      have hc7 : (n7 != 0) = b7 := by rw [← hb7, Bool.eq_iff_iff]; simp
      have HS : Aside0 (sizesB id size view false oks.length n8 doers.length = (!b7 && (!b8 && !b9))) := ⟨by rw [← HN7.out, ← HN9.out, ← hb7, ← hb8, ← hb9]; unfold sizesB; grind⟩
      go_enter Try.func12, Try.ntmps12
      go_wp2_with (first | (go_at_call 41; refine (hd_in _ _ _ _).mono ?_; rintro e w2 ⟨rfl, rfl⟩) | (go_at_call 42; rw [HN5.out]; ((with_reducible refine (impl_LogFault.calls _ _ _ _ _ (Kd.C_alloc HR5.out _) HC5.out rfl).mono ?_); rintro e w1 ⟨rfl, hb⟩; rw [← HLF.out, ← HN5.out]; rw [← HN5.out] at hb; have n_ := Aside0.mk (below_step (by repeat (first | (with_reducible first | exact HB.out | apply below_alloc | apply pw_below_drewN | apply below_drew1) | exact HB.out)) hb); have HX1 : Aside0 (CellsAt w1 ⟨w.heap.size, 0, none⟩ [.int .i64 id, .int .i64 size, .int .i64 view, .bool false, .int .i64 last, .slice A5 n5 c5, .int .i64 commit, .slice A7 n7 c7, .slice A8 n8 c8, .slice A9 n9 c9]) := ⟨cellsAt_new hb⟩; clear HB hb; have HB := n_; clear n_; have hy0 : w1.cell? ⟨w.heap.size, 0, none⟩ = some (.int .i64 id) := HX1.out.zero rfl; have hy1 : w1.cell? ⟨w.heap.size, 1, none⟩ = some (.int .i64 size) := HX1.out.get 0 rfl; have hy2 : w1.cell? ⟨w.heap.size, 2, none⟩ = some (.int .i64 view) := HX1.out.get 1 rfl; have hy3 : w1.cell? ⟨w.heap.size, 3, none⟩ = some (.bool false) := HX1.out.get 2 rfl; have hy4 : w1.cell? ⟨w.heap.size, 4, none⟩ = some (.int .i64 last) := HX1.out.get 3 rfl; have hy5 : w1.cell? ⟨w.heap.size, 5, none⟩ = some (.slice A5 n5 c5) := HX1.out.get 4 rfl; have hy6 : w1.cell? ⟨w.heap.size, 6, none⟩ = some (.int .i64 commit) := HX1.out.get 5 rfl; have hy7 : w1.cell? ⟨w.heap.size, 7, none⟩ = some (.slice A7 n7 c7) := HX1.out.get 6 rfl; have hy8 : w1.cell? ⟨w.heap.size, 8, none⟩ = some (.slice A8 n8 c8) := HX1.out.get 7 rfl; have hy9 : w1.cell? ⟨w.heap.size, 9, none⟩ = some (.slice A9 n9 c9) := HX1.out.get 8 rfl)))
      go_quiet ((first | (go_at_call 41; exact Calls.quiet_of_same (hd_in _ _ _ _)) | (go_at_call 43; exact Calls.quiet_of_same (hd_many _ _ _ _))))
      go_wp2
      go_quiet (fail)
      go_wp2_with (first | (go_at_call 44; refine (hd_leads _ id size view last commit false _ _ _ _ _ (by first | exact HX1.out.drewN _ | exact (HX1.out.drewN _).drewN _ | exact HX1.out) hs1 hs2 hv1 hv2).mono ?_; rintro e w2 ⟨rfl, nq, rfl⟩) | (go_at_call 45; rw [HN7.out]; ((refine (hasO_calls _ _ oks ⟨w.heap.size, 0, none⟩ A5 n5 c5 _ (by exact hy5) (by (with_reducible repeat (first | refine Kd.C_drewN ?_ _ | refine Kd.C_drew ?_)); exact Kd.C_below HR7.out HB.out) HC7.out).mono ?_); rintro e w2 ⟨rfl, rfl⟩)))
      all_goals first
        | (go_ret; exact ⟨ret_i64 (HE1.out (by rw [HS.out]; simp_all)).symm, (by repeat (first | (with_reducible first | exact HB.out | apply below_alloc | apply pw_below_drewN | apply below_drew1) | exact HB.out))⟩)
        | (go_ret; exact ⟨ret_i64 (HE3.out (by rw [HS.out]; simp_all)).symm, (by repeat (first | (with_reducible first | exact HB.out | apply below_alloc | apply pw_below_drewN | apply below_drew1) | exact HB.out))⟩)
        | skip
      have hb9n : n9 ≤ 5 := by grind
      go_loopw [95] (fun v w' => ∃ k : Nat, k ≤ n9 ∧ v = .int .i64 k ∧ Aside0 (doersF doers = doersF (doers.drop k)) ∧ Aside0 (Below w.heap.size w w')) (fun v _ => n9 - (intOf v).toNat)
      case atStart => exact ⟨0, by omega, rfl, ⟨by simp⟩, ⟨(by repeat (first | (with_reducible first | exact HB.out | apply below_alloc | apply pw_below_drewN | apply below_drew1) | exact HB.out))⟩⟩
      case round =>
        have HE4 : Aside0 (repF id size view false last log commit oks n8 doers = doersF doers) := ⟨HE3.out (by rw [HS.out]; simp_all)⟩
        clear HB
        obtain ⟨m, hk, rfl, HO, HB⟩ := hrel
        by_cases hlt : m < n9
        · have hl1 : decide ((m : Int) < (n9 : Int)) = true := decide_eq_true (by omega)
          obtain ⟨ad, A2, c2, e1, hd0, hd1, hd2, hd3, hdl, hdr⟩ := at_T70 HR9.out (m : Int) (by omega) (by rw [← HN9.out]; omega)
          cases e1
          simp only [Int.toNat_natCast] at hd0 hd1 hd2 hd3
          have HD := Aside0.mk (doersF_drop doers m (by rw [← HN9.out]; omega))
          replace hd0 := (HB.out.cell (World.block_lt_of_cell? w _ hd0)).trans hd0
          replace hd1 := (HB.out.cell (World.block_lt_of_cell? w _ hd1)).trans hd1
          replace hd2 := (HB.out.cell (World.block_lt_of_cell? w _ hd2)).trans hd2
          replace hd3 := (HB.out.cell (World.block_lt_of_cell? w _ hd3)).trans hd3
          have HDL := Aside0.mk hdl
          have HDR := Aside0.mk (Kd.C_below hdr HB.out)
          clear hdl hdr
          generalize rd_T70 doers (m : Int) = x at *
          obtain ⟨r, hr⟩ : ∃ r, r = doerF x.f0 x.f1 x.f2 x.f3 := ⟨_, rfl⟩
          have HR2 := Aside0.mk hr
          clear hr
          by_cases hz : (r != 0) = true
          · go_wp2_with (go_at_call 47; refine (hd_doerFault _ _ _ _ _ _ _ _ (Kd.C_alloc HDR.out _) HDL.out rfl).mono ?_; rintro e w3 ⟨rfl, hb⟩; rw [← HR2.out]; have n_ := Aside0.mk (below_step (by repeat (first | (with_reducible first | exact HB.out | apply below_alloc | apply pw_below_drewN | apply below_drew1) | exact HB.out)) hb); clear HB hb; have HB := n_; clear n_)
            go_ret
            exact ⟨ret_i64 (by rw [HE4.out, HO.out, HD.out]; exact HR2.out.trans (if_neg (by rw [← HR2.out]; exact bne_iff_ne.1 hz)).symm), (by repeat (first | (with_reducible first | exact HB.out | apply below_alloc | apply pw_below_drewN | apply below_drew1) | exact HB.out))⟩
          · rw [Bool.not_eq_true] at hz
            have HZ : Aside0 (r = 0) := ⟨by simpa using hz⟩
            go_wp2_with (go_at_call 47; refine (hd_doerFault _ _ _ _ _ _ _ _ (Kd.C_alloc HDR.out _) HDL.out rfl).mono ?_; rintro e w3 ⟨rfl, hb⟩; rw [← HR2.out]; have n_ := Aside0.mk (below_step (by repeat (first | (with_reducible first | exact HB.out | apply below_alloc | apply pw_below_drewN | apply below_drew1) | exact HB.out)) hb); clear HB hb; have HB := n_; clear n_)
            go_roundw
            case rel => exact ⟨m + 1, by omega, by go_num, ⟨by rw [HO.out, HD.out]; exact if_pos (HR2.out.symm.trans HZ.out)⟩, ⟨(by repeat (first | (with_reducible first | exact HB.out | apply below_alloc | apply pw_below_drewN | apply below_drew1) | exact HB.out))⟩⟩
            case measure => simp [intOf]; omega
        · have hl1 : decide ((m : Int) < (n9 : Int)) = false := decide_eq_false (by omega)
          go_wp2
          go_ret
          exact ⟨ret_i64 (by rw [HE4.out, HO.out, List.drop_eq_nil_of_le (by rw [← HN9.out]; omega)]; rfl), (by repeat (first | (with_reducible first | exact HB.out | apply below_alloc | apply pw_below_drewN | apply below_drew1) | exact HB.out))⟩
    | true =>
      have h7b : (last != view) = false := by have := H7.out; simpa using this
      by_cases hp : (view % size == id) = true
      · obtain ⟨b7, hb7⟩ : ∃ b, ((n7 : Int) != size) = b := ⟨_, rfl⟩
        obtain ⟨b8, hb8⟩ : ∃ b, ((n8 : Int) != 0) = b := ⟨_, rfl⟩
        obtain ⟨b9, hb9⟩ : ∃ b, ((n9 : Int) != 0) = b := ⟨_, rfl⟩
        have hc8 : (n8 != 0) = b8 := by rw [← hb8, Bool.eq_iff_iff]; simp
        have hc9 : (n9 != 0) = b9 := by rw [← hb9, Bool.eq_iff_iff]; simp
        have HS : Aside0 (sizesB id size view true oks.length n8 doers.length = (!b7 && (!b8 && !b9))) := ⟨by rw [← HN7.out, ← HN9.out, ← hb7, ← hb8, ← hb9]; unfold sizesB; grind⟩
        go_enter Try.func12, Try.ntmps12
        go_wp2_with (first | (go_at_call 41; refine (hd_in _ _ _ _).mono ?_; rintro e w2 ⟨rfl, rfl⟩) | (go_at_call 42; rw [HN5.out]; ((with_reducible refine (impl_LogFault.calls _ _ _ _ _ (Kd.C_alloc HR5.out _) HC5.out rfl).mono ?_); rintro e w1 ⟨rfl, hb⟩; rw [← HLF.out, ← HN5.out]; rw [← HN5.out] at hb; have n_ := Aside0.mk (below_step (by repeat (first | (with_reducible first | exact HB.out | apply below_alloc | apply pw_below_drewN | apply below_drew1) | exact HB.out)) hb); have HX1 : Aside0 (CellsAt w1 ⟨w.heap.size, 0, none⟩ [.int .i64 id, .int .i64 size, .int .i64 view, .bool true, .int .i64 last, .slice A5 n5 c5, .int .i64 commit, .slice A7 n7 c7, .slice A8 n8 c8, .slice A9 n9 c9]) := ⟨cellsAt_new hb⟩; clear HB hb; have HB := n_; clear n_; have hy0 : w1.cell? ⟨w.heap.size, 0, none⟩ = some (.int .i64 id) := HX1.out.zero rfl; have hy1 : w1.cell? ⟨w.heap.size, 1, none⟩ = some (.int .i64 size) := HX1.out.get 0 rfl; have hy2 : w1.cell? ⟨w.heap.size, 2, none⟩ = some (.int .i64 view) := HX1.out.get 1 rfl; have hy3 : w1.cell? ⟨w.heap.size, 3, none⟩ = some (.bool true) := HX1.out.get 2 rfl; have hy4 : w1.cell? ⟨w.heap.size, 4, none⟩ = some (.int .i64 last) := HX1.out.get 3 rfl; have hy5 : w1.cell? ⟨w.heap.size, 5, none⟩ = some (.slice A5 n5 c5) := HX1.out.get 4 rfl; have hy6 : w1.cell? ⟨w.heap.size, 6, none⟩ = some (.int .i64 commit) := HX1.out.get 5 rfl; have hy7 : w1.cell? ⟨w.heap.size, 7, none⟩ = some (.slice A7 n7 c7) := HX1.out.get 6 rfl; have hy8 : w1.cell? ⟨w.heap.size, 8, none⟩ = some (.slice A8 n8 c8) := HX1.out.get 7 rfl; have hy9 : w1.cell? ⟨w.heap.size, 9, none⟩ = some (.slice A9 n9 c9) := HX1.out.get 8 rfl)))
        go_quiet ((first | (go_at_call 41; exact Calls.quiet_of_same (hd_in _ _ _ _)) | (go_at_call 43; exact Calls.quiet_of_same (hd_many _ _ _ _))))
        go_wp2
        go_quiet (fail)
        go_wp2_with (first | (go_at_call 44; refine (hd_leads _ id size view last commit true _ _ _ _ _ (by first | exact HX1.out.drewN _ | exact (HX1.out.drewN _).drewN _ | exact HX1.out) hs1 hs2 hv1 hv2).mono ?_; rintro e w2 ⟨rfl, nq, rfl⟩) | (go_at_call 45; rw [HN7.out]; ((refine (hasO_calls _ _ oks ⟨w.heap.size, 0, none⟩ A5 n5 c5 _ (by exact hy5) (by (with_reducible repeat (first | refine Kd.C_drewN ?_ _ | refine Kd.C_drew ?_)); exact Kd.C_below HR7.out HB.out) HC7.out).mono ?_); rintro e w2 ⟨rfl, rfl⟩)))
        all_goals first
          | (go_ret; exact ⟨ret_i64 (HE1.out (by rw [HS.out]; simp_all)).symm, (by repeat (first | (with_reducible first | exact HB.out | apply below_alloc | apply pw_below_drewN | apply below_drew1) | exact HB.out))⟩)
          | (go_ret; exact ⟨ret_i64 (HE3.out (by rw [HS.out]; simp_all)).symm, (by repeat (first | (with_reducible first | exact HB.out | apply below_alloc | apply pw_below_drewN | apply below_drew1) | exact HB.out))⟩)
          | skip
        have hb9n : n9 ≤ 5 := by grind
        go_loopw [95] (fun v w' => ∃ k : Nat, k ≤ n9 ∧ v = .int .i64 k ∧ Aside0 (doersF doers = doersF (doers.drop k)) ∧ Aside0 (Below w.heap.size w w')) (fun v _ => n9 - (intOf v).toNat)
        case atStart => exact ⟨0, by omega, rfl, ⟨by simp⟩, ⟨(by repeat (first | (with_reducible first | exact HB.out | apply below_alloc | apply pw_below_drewN | apply below_drew1) | exact HB.out))⟩⟩
        case round =>
          have HE4 : Aside0 (repF id size view true last log commit oks n8 doers = doersF doers) := ⟨HE3.out (by rw [HS.out]; simp_all)⟩
          clear HB
          obtain ⟨m, hk, rfl, HO, HB⟩ := hrel
          by_cases hlt : m < n9
          · have hl1 : decide ((m : Int) < (n9 : Int)) = true := decide_eq_true (by omega)
            obtain ⟨ad, A2, c2, e1, hd0, hd1, hd2, hd3, hdl, hdr⟩ := at_T70 HR9.out (m : Int) (by omega) (by rw [← HN9.out]; omega)
            cases e1
            simp only [Int.toNat_natCast] at hd0 hd1 hd2 hd3
            have HD := Aside0.mk (doersF_drop doers m (by rw [← HN9.out]; omega))
            replace hd0 := (HB.out.cell (World.block_lt_of_cell? w _ hd0)).trans hd0
            replace hd1 := (HB.out.cell (World.block_lt_of_cell? w _ hd1)).trans hd1
            replace hd2 := (HB.out.cell (World.block_lt_of_cell? w _ hd2)).trans hd2
            replace hd3 := (HB.out.cell (World.block_lt_of_cell? w _ hd3)).trans hd3
            have HDL := Aside0.mk hdl
            have HDR := Aside0.mk (Kd.C_below hdr HB.out)
            clear hdl hdr
            generalize rd_T70 doers (m : Int) = x at *
            obtain ⟨r, hr⟩ : ∃ r, r = doerF x.f0 x.f1 x.f2 x.f3 := ⟨_, rfl⟩
            have HR2 := Aside0.mk hr
            clear hr
            by_cases hz : (r != 0) = true
            · go_wp2_with (go_at_call 47; refine (hd_doerFault _ _ _ _ _ _ _ _ (Kd.C_alloc HDR.out _) HDL.out rfl).mono ?_; rintro e w3 ⟨rfl, hb⟩; rw [← HR2.out]; have n_ := Aside0.mk (below_step (by repeat (first | (with_reducible first | exact HB.out | apply below_alloc | apply pw_below_drewN | apply below_drew1) | exact HB.out)) hb); clear HB hb; have HB := n_; clear n_)
              go_ret
              exact ⟨ret_i64 (by rw [HE4.out, HO.out, HD.out]; exact HR2.out.trans (if_neg (by rw [← HR2.out]; exact bne_iff_ne.1 hz)).symm), (by repeat (first | (with_reducible first | exact HB.out | apply below_alloc | apply pw_below_drewN | apply below_drew1) | exact HB.out))⟩
            · rw [Bool.not_eq_true] at hz
              have HZ : Aside0 (r = 0) := ⟨by simpa using hz⟩
              go_wp2_with (go_at_call 47; refine (hd_doerFault _ _ _ _ _ _ _ _ (Kd.C_alloc HDR.out _) HDL.out rfl).mono ?_; rintro e w3 ⟨rfl, hb⟩; rw [← HR2.out]; have n_ := Aside0.mk (below_step (by repeat (first | (with_reducible first | exact HB.out | apply below_alloc | apply pw_below_drewN | apply below_drew1) | exact HB.out)) hb); clear HB hb; have HB := n_; clear n_)
              go_roundw
              case rel => exact ⟨m + 1, by omega, by go_num, ⟨by rw [HO.out, HD.out]; exact if_pos (HR2.out.symm.trans HZ.out)⟩, ⟨(by repeat (first | (with_reducible first | exact HB.out | apply below_alloc | apply pw_below_drewN | apply below_drew1) | exact HB.out))⟩⟩
              case measure => simp [intOf]; omega
          · have hl1 : decide ((m : Int) < (n9 : Int)) = false := decide_eq_false (by omega)
            go_wp2
            go_ret
            exact ⟨ret_i64 (by rw [HE4.out, HO.out, List.drop_eq_nil_of_le (by rw [← HN9.out]; omega)]; rfl), (by repeat (first | (with_reducible first | exact HB.out | apply below_alloc | apply pw_below_drewN | apply below_drew1) | exact HB.out))⟩
      · rw [Bool.not_eq_true] at hp
        obtain ⟨b7, hb7⟩ : ∃ b, ((n7 : Int) != 0) = b := ⟨_, rfl⟩
        obtain ⟨b8, hb8⟩ : ∃ b, ((n8 : Int) != 0) = b := ⟨_, rfl⟩
        obtain ⟨b9, hb9⟩ : ∃ b, ((n9 : Int) != 0) = b := ⟨_, rfl⟩
        have hc7 : (n7 != 0) = b7 := by rw [← hb7, Bool.eq_iff_iff]; simp
        have hc8 : (n8 != 0) = b8 := by rw [← hb8, Bool.eq_iff_iff]; simp
        have hc9 : (n9 != 0) = b9 := by rw [← hb9, Bool.eq_iff_iff]; simp
        have HS : Aside0 (sizesB id size view true oks.length n8 doers.length = (!b7 && (!b8 && !b9))) := ⟨by rw [← HN7.out, ← HN9.out, ← hb7, ← hb8, ← hb9]; unfold sizesB; grind⟩
        go_enter Try.func12, Try.ntmps12
        go_wp2_with (first | (go_at_call 41; refine (hd_in _ _ _ _).mono ?_; rintro e w2 ⟨rfl, rfl⟩) | (go_at_call 42; rw [HN5.out]; ((with_reducible refine (impl_LogFault.calls _ _ _ _ _ (Kd.C_alloc HR5.out _) HC5.out rfl).mono ?_); rintro e w1 ⟨rfl, hb⟩; rw [← HLF.out, ← HN5.out]; rw [← HN5.out] at hb; have n_ := Aside0.mk (below_step (by repeat (first | (with_reducible first | exact HB.out | apply below_alloc | apply pw_below_drewN | apply below_drew1) | exact HB.out)) hb); have HX1 : Aside0 (CellsAt w1 ⟨w.heap.size, 0, none⟩ [.int .i64 id, .int .i64 size, .int .i64 view, .bool true, .int .i64 last, .slice A5 n5 c5, .int .i64 commit, .slice A7 n7 c7, .slice A8 n8 c8, .slice A9 n9 c9]) := ⟨cellsAt_new hb⟩; clear HB hb; have HB := n_; clear n_; have hy0 : w1.cell? ⟨w.heap.size, 0, none⟩ = some (.int .i64 id) := HX1.out.zero rfl; have hy1 : w1.cell? ⟨w.heap.size, 1, none⟩ = some (.int .i64 size) := HX1.out.get 0 rfl; have hy2 : w1.cell? ⟨w.heap.size, 2, none⟩ = some (.int .i64 view) := HX1.out.get 1 rfl; have hy3 : w1.cell? ⟨w.heap.size, 3, none⟩ = some (.bool true) := HX1.out.get 2 rfl; have hy4 : w1.cell? ⟨w.heap.size, 4, none⟩ = some (.int .i64 last) := HX1.out.get 3 rfl; have hy5 : w1.cell? ⟨w.heap.size, 5, none⟩ = some (.slice A5 n5 c5) := HX1.out.get 4 rfl; have hy6 : w1.cell? ⟨w.heap.size, 6, none⟩ = some (.int .i64 commit) := HX1.out.get 5 rfl; have hy7 : w1.cell? ⟨w.heap.size, 7, none⟩ = some (.slice A7 n7 c7) := HX1.out.get 6 rfl; have hy8 : w1.cell? ⟨w.heap.size, 8, none⟩ = some (.slice A8 n8 c8) := HX1.out.get 7 rfl; have hy9 : w1.cell? ⟨w.heap.size, 9, none⟩ = some (.slice A9 n9 c9) := HX1.out.get 8 rfl)))
        go_quiet ((first | (go_at_call 41; exact Calls.quiet_of_same (hd_in _ _ _ _)) | (go_at_call 43; exact Calls.quiet_of_same (hd_many _ _ _ _))))
        go_wp2
        go_quiet (fail)
        go_wp2_with (first | (go_at_call 44; refine (hd_leads _ id size view last commit true _ _ _ _ _ (by first | exact HX1.out.drewN _ | exact (HX1.out.drewN _).drewN _ | exact HX1.out) hs1 hs2 hv1 hv2).mono ?_; rintro e w2 ⟨rfl, nq, rfl⟩) | (go_at_call 45; rw [HN7.out]; ((refine (hasO_calls _ _ oks ⟨w.heap.size, 0, none⟩ A5 n5 c5 _ (by exact hy5) (by (with_reducible repeat (first | refine Kd.C_drewN ?_ _ | refine Kd.C_drew ?_)); exact Kd.C_below HR7.out HB.out) HC7.out).mono ?_); rintro e w2 ⟨rfl, rfl⟩)))
        all_goals first
          | (go_ret; exact ⟨ret_i64 (HE1.out (by rw [HS.out]; simp_all)).symm, (by repeat (first | (with_reducible first | exact HB.out | apply below_alloc | apply pw_below_drewN | apply below_drew1) | exact HB.out))⟩)
          | (go_ret; exact ⟨ret_i64 (HE3.out (by rw [HS.out]; simp_all)).symm, (by repeat (first | (with_reducible first | exact HB.out | apply below_alloc | apply pw_below_drewN | apply below_drew1) | exact HB.out))⟩)
          | skip
        have hb9n : n9 ≤ 5 := by grind
        go_loopw [95] (fun v w' => ∃ k : Nat, k ≤ n9 ∧ v = .int .i64 k ∧ Aside0 (doersF doers = doersF (doers.drop k)) ∧ Aside0 (Below w.heap.size w w')) (fun v _ => n9 - (intOf v).toNat)
        case atStart => exact ⟨0, by omega, rfl, ⟨by simp⟩, ⟨(by repeat (first | (with_reducible first | exact HB.out | apply below_alloc | apply pw_below_drewN | apply below_drew1) | exact HB.out))⟩⟩
        case round =>
          have HE4 : Aside0 (repF id size view true last log commit oks n8 doers = doersF doers) := ⟨HE3.out (by rw [HS.out]; simp_all)⟩
          clear HB
          obtain ⟨m, hk, rfl, HO, HB⟩ := hrel
          by_cases hlt : m < n9
          · have hl1 : decide ((m : Int) < (n9 : Int)) = true := decide_eq_true (by omega)
            obtain ⟨ad, A2, c2, e1, hd0, hd1, hd2, hd3, hdl, hdr⟩ := at_T70 HR9.out (m : Int) (by omega) (by rw [← HN9.out]; omega)
            cases e1
            simp only [Int.toNat_natCast] at hd0 hd1 hd2 hd3
            have HD := Aside0.mk (doersF_drop doers m (by rw [← HN9.out]; omega))
            replace hd0 := (HB.out.cell (World.block_lt_of_cell? w _ hd0)).trans hd0
            replace hd1 := (HB.out.cell (World.block_lt_of_cell? w _ hd1)).trans hd1
            replace hd2 := (HB.out.cell (World.block_lt_of_cell? w _ hd2)).trans hd2
            replace hd3 := (HB.out.cell (World.block_lt_of_cell? w _ hd3)).trans hd3
            have HDL := Aside0.mk hdl
            have HDR := Aside0.mk (Kd.C_below hdr HB.out)
            clear hdl hdr
            generalize rd_T70 doers (m : Int) = x at *
            obtain ⟨r, hr⟩ : ∃ r, r = doerF x.f0 x.f1 x.f2 x.f3 := ⟨_, rfl⟩
            have HR2 := Aside0.mk hr
            clear hr
            by_cases hz : (r != 0) = true
            · go_wp2_with (go_at_call 47; refine (hd_doerFault _ _ _ _ _ _ _ _ (Kd.C_alloc HDR.out _) HDL.out rfl).mono ?_; rintro e w3 ⟨rfl, hb⟩; rw [← HR2.out]; have n_ := Aside0.mk (below_step (by repeat (first | (with_reducible first | exact HB.out | apply below_alloc | apply pw_below_drewN | apply below_drew1) | exact HB.out)) hb); clear HB hb; have HB := n_; clear n_)
              go_ret
              exact ⟨ret_i64 (by rw [HE4.out, HO.out, HD.out]; exact HR2.out.trans (if_neg (by rw [← HR2.out]; exact bne_iff_ne.1 hz)).symm), (by repeat (first | (with_reducible first | exact HB.out | apply below_alloc | apply pw_below_drewN | apply below_drew1) | exact HB.out))⟩
            · rw [Bool.not_eq_true] at hz
              have HZ : Aside0 (r = 0) := ⟨by simpa using hz⟩
              go_wp2_with (go_at_call 47; refine (hd_doerFault _ _ _ _ _ _ _ _ (Kd.C_alloc HDR.out _) HDL.out rfl).mono ?_; rintro e w3 ⟨rfl, hb⟩; rw [← HR2.out]; have n_ := Aside0.mk (below_step (by repeat (first | (with_reducible first | exact HB.out | apply below_alloc | apply pw_below_drewN | apply below_drew1) | exact HB.out)) hb); clear HB hb; have HB := n_; clear n_)
              go_roundw
              case rel => exact ⟨m + 1, by omega, by go_num, ⟨by rw [HO.out, HD.out]; exact if_pos (HR2.out.symm.trans HZ.out)⟩, ⟨(by repeat (first | (with_reducible first | exact HB.out | apply below_alloc | apply pw_below_drewN | apply below_drew1) | exact HB.out))⟩⟩
              case measure => simp [intOf]; omega
          · have hl1 : decide ((m : Int) < (n9 : Int)) = false := decide_eq_false (by omega)
            go_wp2
            go_ret
            exact ⟨ret_i64 (by rw [HE4.out, HO.out, List.drop_eq_nil_of_le (by rw [← HN9.out]; omega)]; rfl), (by repeat (first | (with_reducible first | exact HB.out | apply below_alloc | apply pw_below_drewN | apply below_drew1) | exact HB.out))⟩
  case neg =>
    rw [Bool.not_eq_true] at h9
    have HE3 : Aside0 (sizesB id size view norm oks.length n8 doers.length = true → repF id size view norm last log commit oks n8 doers = 3) := ⟨fun h => by rw [HE2.out h, if_pos (by rw [← HN5.out]; exact h9)]⟩
    cases norm with
    | false =>
      obtain ⟨b7, hb7⟩ : ∃ b, ((n7 : Int) != 0) = b := ⟨_, rfl⟩
      obtain ⟨b8, hb8⟩ : ∃ b, ((n8 : Int) != size) = b := ⟨_, rfl⟩
      obtain ⟨b9, hb9⟩ : ∃ b, ((n9 : Int) != size) = b := ⟨_, rfl⟩
      have hc7 : (n7 != 0) = b7 := by rw [← hb7, Bool.eq_iff_iff]; simp
      have HS : Aside0 (sizesB id size view false oks.length n8 doers.length = (!b7 && (!b8 && !b9))) := ⟨by rw [← HN7.out, ← HN9.out, ← hb7, ← hb8, ← hb9]; unfold sizesB; grind⟩
      go_enter Try.func12, Try.ntmps12
      go_wp2_with (first | (go_at_call 41; refine (hd_in _ _ _ _).mono ?_; rintro e w2 ⟨rfl, rfl⟩) | (go_at_call 42; rw [HN5.out]; ((with_reducible refine (impl_LogFault.calls _ _ _ _ _ (Kd.C_alloc HR5.out _) HC5.out rfl).mono ?_); rintro e w1 ⟨rfl, hb⟩; rw [← HLF.out, ← HN5.out]; rw [← HN5.out] at hb; have n_ := Aside0.mk (below_step (by repeat (first | (with_reducible first | exact HB.out | apply below_alloc | apply pw_below_drewN | apply below_drew1) | exact HB.out)) hb); have HX1 : Aside0 (CellsAt w1 ⟨w.heap.size, 0, none⟩ [.int .i64 id, .int .i64 size, .int .i64 view, .bool false, .int .i64 last, .slice A5 n5 c5, .int .i64 commit, .slice A7 n7 c7, .slice A8 n8 c8, .slice A9 n9 c9]) := ⟨cellsAt_new hb⟩; clear HB hb; have HB := n_; clear n_; have hy0 : w1.cell? ⟨w.heap.size, 0, none⟩ = some (.int .i64 id) := HX1.out.zero rfl; have hy1 : w1.cell? ⟨w.heap.size, 1, none⟩ = some (.int .i64 size) := HX1.out.get 0 rfl; have hy2 : w1.cell? ⟨w.heap.size, 2, none⟩ = some (.int .i64 view) := HX1.out.get 1 rfl; have hy3 : w1.cell? ⟨w.heap.size, 3, none⟩ = some (.bool false) := HX1.out.get 2 rfl; have hy4 : w1.cell? ⟨w.heap.size, 4, none⟩ = some (.int .i64 last) := HX1.out.get 3 rfl; have hy5 : w1.cell? ⟨w.heap.size, 5, none⟩ = some (.slice A5 n5 c5) := HX1.out.get 4 rfl; have hy6 : w1.cell? ⟨w.heap.size, 6, none⟩ = some (.int .i64 commit) := HX1.out.get 5 rfl; have hy7 : w1.cell? ⟨w.heap.size, 7, none⟩ = some (.slice A7 n7 c7) := HX1.out.get 6 rfl; have hy8 : w1.cell? ⟨w.heap.size, 8, none⟩ = some (.slice A8 n8 c8) := HX1.out.get 7 rfl; have hy9 : w1.cell? ⟨w.heap.size, 9, none⟩ = some (.slice A9 n9 c9) := HX1.out.get 8 rfl)))
      go_quiet ((first | (go_at_call 41; exact Calls.quiet_of_same (hd_in _ _ _ _)) | (go_at_call 43; exact Calls.quiet_of_same (hd_many _ _ _ _))))
      go_wp2
      go_quiet (fail)
      go_wp2_with (first | (go_at_call 44; refine (hd_leads _ id size view last commit false _ _ _ _ _ (by first | exact HX1.out.drewN _ | exact (HX1.out.drewN _).drewN _ | exact HX1.out) hs1 hs2 hv1 hv2).mono ?_; rintro e w2 ⟨rfl, nq, rfl⟩) | (go_at_call 45; rw [HN7.out]; ((refine (hasO_calls _ _ oks ⟨w.heap.size, 0, none⟩ A5 n5 c5 _ (by exact hy5) (by (with_reducible repeat (first | refine Kd.C_drewN ?_ _ | refine Kd.C_drew ?_)); exact Kd.C_below HR7.out HB.out) HC7.out).mono ?_); rintro e w2 ⟨rfl, rfl⟩)))
      all_goals first
        | (go_ret; exact ⟨ret_i64 (HE1.out (by rw [HS.out]; simp_all)).symm, (by repeat (first | (with_reducible first | exact HB.out | apply below_alloc | apply pw_below_drewN | apply below_drew1) | exact HB.out))⟩)
        | (go_ret; exact ⟨ret_i64 (HE3.out (by rw [HS.out]; simp_all)).symm, (by repeat (first | (with_reducible first | exact HB.out | apply below_alloc | apply pw_below_drewN | apply below_drew1) | exact HB.out))⟩)
        | skip
    | true =>
      have h7b : (last != view) = false := by have := H7.out; simpa using this
      by_cases hp : (view % size == id) = true
      · obtain ⟨b7, hb7⟩ : ∃ b, ((n7 : Int) != size) = b := ⟨_, rfl⟩
        obtain ⟨b8, hb8⟩ : ∃ b, ((n8 : Int) != 0) = b := ⟨_, rfl⟩
        obtain ⟨b9, hb9⟩ : ∃ b, ((n9 : Int) != 0) = b := ⟨_, rfl⟩
        have hc8 : (n8 != 0) = b8 := by rw [← hb8, Bool.eq_iff_iff]; simp
        have hc9 : (n9 != 0) = b9 := by rw [← hb9, Bool.eq_iff_iff]; simp
        have HS : Aside0 (sizesB id size view true oks.length n8 doers.length = (!b7 && (!b8 && !b9))) := ⟨by rw [← HN7.out, ← HN9.out, ← hb7, ← hb8, ← hb9]; unfold sizesB; grind⟩
        go_enter Try.func12, Try.ntmps12
        go_wp2_with (first | (go_at_call 41; refine (hd_in _ _ _ _).mono ?_; rintro e w2 ⟨rfl, rfl⟩) | (go_at_call 42; rw [HN5.out]; ((with_reducible refine (impl_LogFault.calls _ _ _ _ _ (Kd.C_alloc HR5.out _) HC5.out rfl).mono ?_); rintro e w1 ⟨rfl, hb⟩; rw [← HLF.out, ← HN5.out]; rw [← HN5.out] at hb; have n_ := Aside0.mk (below_step (by repeat (first | (with_reducible first | exact HB.out | apply below_alloc | apply pw_below_drewN | apply below_drew1) | exact HB.out)) hb); have HX1 : Aside0 (CellsAt w1 ⟨w.heap.size, 0, none⟩ [.int .i64 id, .int .i64 size, .int .i64 view, .bool true, .int .i64 last, .slice A5 n5 c5, .int .i64 commit, .slice A7 n7 c7, .slice A8 n8 c8, .slice A9 n9 c9]) := ⟨cellsAt_new hb⟩; clear HB hb; have HB := n_; clear n_; have hy0 : w1.cell? ⟨w.heap.size, 0, none⟩ = some (.int .i64 id) := HX1.out.zero rfl; have hy1 : w1.cell? ⟨w.heap.size, 1, none⟩ = some (.int .i64 size) := HX1.out.get 0 rfl; have hy2 : w1.cell? ⟨w.heap.size, 2, none⟩ = some (.int .i64 view) := HX1.out.get 1 rfl; have hy3 : w1.cell? ⟨w.heap.size, 3, none⟩ = some (.bool true) := HX1.out.get 2 rfl; have hy4 : w1.cell? ⟨w.heap.size, 4, none⟩ = some (.int .i64 last) := HX1.out.get 3 rfl; have hy5 : w1.cell? ⟨w.heap.size, 5, none⟩ = some (.slice A5 n5 c5) := HX1.out.get 4 rfl; have hy6 : w1.cell? ⟨w.heap.size, 6, none⟩ = some (.int .i64 commit) := HX1.out.get 5 rfl; have hy7 : w1.cell? ⟨w.heap.size, 7, none⟩ = some (.slice A7 n7 c7) := HX1.out.get 6 rfl; have hy8 : w1.cell? ⟨w.heap.size, 8, none⟩ = some (.slice A8 n8 c8) := HX1.out.get 7 rfl; have hy9 : w1.cell? ⟨w.heap.size, 9, none⟩ = some (.slice A9 n9 c9) := HX1.out.get 8 rfl)))
        go_quiet ((first | (go_at_call 41; exact Calls.quiet_of_same (hd_in _ _ _ _)) | (go_at_call 43; exact Calls.quiet_of_same (hd_many _ _ _ _))))
        go_wp2
        go_quiet (fail)
        go_wp2_with (first | (go_at_call 44; refine (hd_leads _ id size view last commit true _ _ _ _ _ (by first | exact HX1.out.drewN _ | exact (HX1.out.drewN _).drewN _ | exact HX1.out) hs1 hs2 hv1 hv2).mono ?_; rintro e w2 ⟨rfl, nq, rfl⟩) | (go_at_call 45; rw [HN7.out]; ((refine (hasO_calls _ _ oks ⟨w.heap.size, 0, none⟩ A5 n5 c5 _ (by exact hy5) (by (with_reducible repeat (first | refine Kd.C_drewN ?_ _ | refine Kd.C_drew ?_)); exact Kd.C_below HR7.out HB.out) HC7.out).mono ?_); rintro e w2 ⟨rfl, rfl⟩)))
        all_goals first
          | (go_ret; exact ⟨ret_i64 (HE1.out (by rw [HS.out]; simp_all)).symm, (by repeat (first | (with_reducible first | exact HB.out | apply below_alloc | apply pw_below_drewN | apply below_drew1) | exact HB.out))⟩)
          | (go_ret; exact ⟨ret_i64 (HE3.out (by rw [HS.out]; simp_all)).symm, (by repeat (first | (with_reducible first | exact HB.out | apply below_alloc | apply pw_below_drewN | apply below_drew1) | exact HB.out))⟩)
          | skip
      · rw [Bool.not_eq_true] at hp
        obtain ⟨b7, hb7⟩ : ∃ b, ((n7 : Int) != 0) = b := ⟨_, rfl⟩
        obtain ⟨b8, hb8⟩ : ∃ b, ((n8 : Int) != 0) = b := ⟨_, rfl⟩
        obtain ⟨b9, hb9⟩ : ∃ b, ((n9 : Int) != 0) = b := ⟨_, rfl⟩
        have hc7 : (n7 != 0) = b7 := by rw [← hb7, Bool.eq_iff_iff]; simp
        have hc8 : (n8 != 0) = b8 := by rw [← hb8, Bool.eq_iff_iff]; simp
        have hc9 : (n9 != 0) = b9 := by rw [← hb9, Bool.eq_iff_iff]; simp
        have HS : Aside0 (sizesB id size view true oks.length n8 doers.length = (!b7 && (!b8 && !b9))) := ⟨by rw [← HN7.out, ← HN9.out, ← hb7, ← hb8, ← hb9]; unfold sizesB; grind⟩
        go_enter Try.func12, Try.ntmps12
        go_wp2_with (first | (go_at_call 41; refine (hd_in _ _ _ _).mono ?_; rintro e w2 ⟨rfl, rfl⟩) | (go_at_call 42; rw [HN5.out]; ((with_reducible refine (impl_LogFault.calls _ _ _ _ _ (Kd.C_alloc HR5.out _) HC5.out rfl).mono ?_); rintro e w1 ⟨rfl, hb⟩; rw [← HLF.out, ← HN5.out]; rw [← HN5.out] at hb; have n_ := Aside0.mk (below_step (by repeat (first | (with_reducible first | exact HB.out | apply below_alloc | apply pw_below_drewN | apply below_drew1) | exact HB.out)) hb); have HX1 : Aside0 (CellsAt w1 ⟨w.heap.size, 0, none⟩ [.int .i64 id, .int .i64 size, .int .i64 view, .bool true, .int .i64 last, .slice A5 n5 c5, .int .i64 commit, .slice A7 n7 c7, .slice A8 n8 c8, .slice A9 n9 c9]) := ⟨cellsAt_new hb⟩; clear HB hb; have HB := n_; clear n_; have hy0 : w1.cell? ⟨w.heap.size, 0, none⟩ = some (.int .i64 id) := HX1.out.zero rfl; have hy1 : w1.cell? ⟨w.heap.size, 1, none⟩ = some (.int .i64 size) := HX1.out.get 0 rfl; have hy2 : w1.cell? ⟨w.heap.size, 2, none⟩ = some (.int .i64 view) := HX1.out.get 1 rfl; have hy3 : w1.cell? ⟨w.heap.size, 3, none⟩ = some (.bool true) := HX1.out.get 2 rfl; have hy4 : w1.cell? ⟨w.heap.size, 4, none⟩ = some (.int .i64 last) := HX1.out.get 3 rfl; have hy5 : w1.cell? ⟨w.heap.size, 5, none⟩ = some (.slice A5 n5 c5) := HX1.out.get 4 rfl; have hy6 : w1.cell? ⟨w.heap.size, 6, none⟩ = some (.int .i64 commit) := HX1.out.get 5 rfl; have hy7 : w1.cell? ⟨w.heap.size, 7, none⟩ = some (.slice A7 n7 c7) := HX1.out.get 6 rfl; have hy8 : w1.cell? ⟨w.heap.size, 8, none⟩ = some (.slice A8 n8 c8) := HX1.out.get 7 rfl; have hy9 : w1.cell? ⟨w.heap.size, 9, none⟩ = some (.slice A9 n9 c9) := HX1.out.get 8 rfl)))
        go_quiet ((first | (go_at_call 41; exact Calls.quiet_of_same (hd_in _ _ _ _)) | (go_at_call 43; exact Calls.quiet_of_same (hd_many _ _ _ _))))
        go_wp2
        go_quiet (fail)
        go_wp2_with (first | (go_at_call 44; refine (hd_leads _ id size view last commit true _ _ _ _ _ (by first | exact HX1.out.drewN _ | exact (HX1.out.drewN _).drewN _ | exact HX1.out) hs1 hs2 hv1 hv2).mono ?_; rintro e w2 ⟨rfl, nq, rfl⟩) | (go_at_call 45; rw [HN7.out]; ((refine (hasO_calls _ _ oks ⟨w.heap.size, 0, none⟩ A5 n5 c5 _ (by exact hy5) (by (with_reducible repeat (first | refine Kd.C_drewN ?_ _ | refine Kd.C_drew ?_)); exact Kd.C_below HR7.out HB.out) HC7.out).mono ?_); rintro e w2 ⟨rfl, rfl⟩)))
        all_goals first
          | (go_ret; exact ⟨ret_i64 (HE1.out (by rw [HS.out]; simp_all)).symm, (by repeat (first | (with_reducible first | exact HB.out | apply below_alloc | apply pw_below_drewN | apply below_drew1) | exact HB.out))⟩)
          | (go_ret; exact ⟨ret_i64 (HE3.out (by rw [HS.out]; simp_all)).symm, (by repeat (first | (with_reducible first | exact HB.out | apply below_alloc | apply pw_below_drewN | apply below_drew1) | exact HB.out))⟩)
          | skip

def impl_ReplicaFault.f (a0_0 : Int) (a0_1 : Int) (a0_2 : Int) (a0_3 : Bool) (a0_4 : Int) (l0_5 : List (S95)) (a0_6 : Int) (l0_7 : List Int) (l0_8 : List Bool) (l0_9 : List (S70)) : Option (Int) := some (repF a0_0 a0_1 a0_2 a0_3 a0_4 l0_5 a0_6 l0_7 l0_8.length l0_9)
theorem impl_ReplicaFault.calls (a0_0 : Int) (a0_1 : Int) (a0_2 : Int) (a0_3 : Bool) (a0_4 : Int) (A0_5 : Option Addr) (c0_5 : Nat) (l0_5 : List (S95)) (a0_6 : Int) (A0_7 : Option Addr) (c0_7 : Nat) (l0_7 : List Int) (A0_8 : Option Addr) (c0_8 : Nat) (l0_8 : List Bool) (A0_9 : Option Addr) (c0_9 : Nat) (l0_9 : List (S70)) (r : Int) (w : World) (hr0_5 : Kd.C k95 w A0_5 l0_5.length l0_5) (hc0_5 : l0_5.length ≤ c0_5) (hr0_7 : Kd.C (Kd.int .i64) w A0_7 l0_7.length l0_7) (hc0_7 : l0_7.length ≤ c0_7) (hr0_8 : Kd.C Kd.bool w A0_8 l0_8.length l0_8) (hc0_8 : l0_8.length ≤ c0_8) (hr0_9 : Kd.C k70 w A0_9 l0_9.length l0_9) (hc0_9 : l0_9.length ≤ c0_9) (h : impl_ReplicaFault.f a0_0 a0_1 a0_2 a0_3 a0_4 l0_5 a0_6 l0_7 l0_8 l0_9 = some r) :
    Calls Try.prog 12 #[.agg #[.int .i64 a0_0, .int .i64 a0_1, .int .i64 a0_2, .bool a0_3, .int .i64 a0_4, .slice A0_5 l0_5.length c0_5, .int .i64 a0_6, .slice A0_7 l0_7.length c0_7, .slice A0_8 l0_8.length c0_8, .slice A0_9 l0_9.length c0_9]] w fun e w' => e = .returned (.int .i64 r) ∧ Below w.heap.size w w' := by
  obtain rfl := Option.some.inj h
  exact hd_ReplicaFault _ _ _ _ _ _ _ _ _ _ _ _ _ _ _ _ _ _ _ _ _ w rfl rfl rfl hr0_5 hc0_5 hr0_7 hc0_7 hr0_9 hc0_9


/-! ### impl_counted: function 59 -/
def impl_counted.f (a0_0 : Int) (a0_1 : Int) (a0_2 : Int) (a0_3 : Bool) (a0_4 : Int) (l0_5 : List (S95)) (a0_6 : Int) (l0_7 : List Int) (l0_8 : List Bool) (l0_9 : List (S70)) (a1 : Int) : Option (Int × Int) := (impl_ReplicaFault.f a0_0 a0_1 a0_2 a0_3 a0_4 l0_5 a0_6 l0_7 l0_8 l0_9).bind fun t235 => (if t235 = 0 then (some (0, a1)) else (some (t235, 0)))
set_option maxHeartbeats 8000000 in
set_option maxRecDepth 100000 in
theorem impl_counted.calls (a0_0 : Int) (a0_1 : Int) (a0_2 : Int) (a0_3 : Bool) (a0_4 : Int) (A0_5 : Option Addr) (c0_5 : Nat) (l0_5 : List (S95)) (a0_6 : Int) (A0_7 : Option Addr) (c0_7 : Nat) (l0_7 : List Int) (A0_8 : Option Addr) (c0_8 : Nat) (l0_8 : List Bool) (A0_9 : Option Addr) (c0_9 : Nat) (l0_9 : List (S70)) (a1 : Int) (r1 : Int) (r2 : Int) (w : World) (hr0_5 : Kd.C k95 w A0_5 l0_5.length l0_5) (hc0_5 : l0_5.length ≤ c0_5) (hr0_7 : Kd.C (Kd.int .i64) w A0_7 l0_7.length l0_7) (hc0_7 : l0_7.length ≤ c0_7) (hr0_8 : Kd.C Kd.bool w A0_8 l0_8.length l0_8) (hc0_8 : l0_8.length ≤ c0_8) (hr0_9 : Kd.C k70 w A0_9 l0_9.length l0_9) (hc0_9 : l0_9.length ≤ c0_9) (h : impl_counted.f a0_0 a0_1 a0_2 a0_3 a0_4 l0_5 a0_6 l0_7 l0_8 l0_9 a1 = some (r1, r2)) :
    Calls Try.prog 59 #[.agg #[.int .i64 a0_0, .int .i64 a0_1, .int .i64 a0_2, .bool a0_3, .int .i64 a0_4, .slice A0_5 l0_5.length c0_5, .int .i64 a0_6, .slice A0_7 l0_7.length c0_7, .slice A0_8 l0_8.length c0_8, .slice A0_9 l0_9.length c0_9], .int .i64 a1] w fun e w' => e = .returned (.agg #[.int .i64 r1, .int .i64 r2]) ∧ Below w.heap.size w w' := by
  have hu33 := Try.underlying33
  have hu45 := Try.underlying45
  have HR0_5 := Aside0.mk hr0_5
  have HC0_5 := Aside0.mk hc0_5
  clear hr0_5 hc0_5
  have HR0_7 := Aside0.mk hr0_7
  have HC0_7 := Aside0.mk hc0_7
  clear hr0_7 hc0_7
  have HR0_8 := Aside0.mk hr0_8
  have HC0_8 := Aside0.mk hc0_8
  clear hr0_8 hc0_8
  have HR0_9 := Aside0.mk hr0_9
  have HC0_9 := Aside0.mk hc0_9
  clear hr0_9 hc0_9
  have HB := Aside0.mk (Below.refl w.heap.size w)
  have H : ((impl_ReplicaFault.f a0_0 a0_1 a0_2 a0_3 a0_4 l0_5 a0_6 l0_7 l0_8 l0_9).bind fun t235 => (if t235 = 0 then (some (0, a1)) else (some (t235, 0)))) = some (r1, r2) := h
  clear h
  replace H := Option.bind_eq_some_iff.mp H
  obtain ⟨t235, A30, H⟩ := H
  replace H : (if t235 = 0 then (some (0, a1)) else (some (t235, 0))) = some (r1, r2) := H
  have A3 := Aside0.mk A30
  clear A30
  by_cases c4 : t235 = 0
  · rw [if_pos c4] at H
    have c4b0 : (t235 == 0) = true := beq_iff_eq.mpr c4
    have c4b1 : (t235 != 0) = false := bne_eq_false_iff_eq.mpr c4
    clear c4
    simp only [Option.some.injEq, Prod.mk.injEq] at H
    obtain ⟨rfl, rfl⟩ := H
    go_enter Try.func59, Try.ntmps59
    go_wp2_with (first | ((with_reducible refine gate_dst (N := 2) rfl ?_); refine box_event ?hg (N := 2) ?hd (cs := #[.int .i64 a0_0, .int .i64 a0_1, .int .i64 a0_2, .bool a0_3, .int .i64 a0_4, .slice A0_5 l0_5.length c0_5, .int .i64 a0_6, .slice A0_7 l0_7.length c0_7, .slice A0_8 l0_8.length c0_8, .slice A0_9 l0_9.length c0_9]) (t := 33) ?hr ?_; (case hd => rfl); (case hg => rfl); (case hr => first | (go_simp; done) | (go_simp; rfl)); intro gb233 hg w5 hbox hb; have n0_ := Aside0.mk (below_step (by repeat (first | (with_reducible first | exact HB.out | apply below_alloc | apply pw_below_drewN | apply below_drew1) | exact HB.out)) hb); have n1_ := Aside0.mk (hbox); have n2_ := Aside0.mk ((by rw [hg]; exact (below_size (by repeat (first | (with_reducible first | exact HB.out | apply below_alloc | apply pw_below_drewN | apply below_drew1) | exact HB.out))) : w.heap.size ≤ gb233)); have n3_ := Aside0.mk ((by rw [hg]; exact (below_size (by repeat (first | (with_reducible first | exact HB.out | apply below_alloc | apply pw_below_drewN | apply below_drew1) | exact HB.out))) : w.heap.size ≤ gb233)); clear HB; have HB := n0_; have BK233 := n1_; have GW233 := n2_; have GE233 := n3_; clear n0_ n1_ n2_ n3_; clear hb hbox hg) | ((with_reducible refine gate_dst (N := 4) rfl ?_); refine box_event ?hg (N := 4) ?hd (cs := #[.int .i64 0, .int .i64 0]) (t := 45) ?hr ?_; (case hd => rfl); (case hg => rfl); (case hr => first | (go_simp; done) | (go_simp; rfl)); intro gb234 hg w6 hbox hb; have n0_ := Aside0.mk (blk_below (g := gb233) (o := .cells #[.int .i64 a0_0, .int .i64 a0_1, .int .i64 a0_2, .bool a0_3, .int .i64 a0_4, .slice A0_5 l0_5.length c0_5, .int .i64 a0_6, .slice A0_7 l0_7.length c0_7, .slice A0_8 l0_8.length c0_8, .slice A0_9 l0_9.length c0_9] 33 (0, 0)) (by (with_reducible repeat (first | refine blk_drewN ?_ _ | refine blk_drew ?_ | refine blk_alloc ?_ _)); exact BK233.out) hb); have n1_ := Aside0.mk (below_step (by repeat (first | (with_reducible first | exact HB.out | apply below_alloc | apply pw_below_drewN | apply below_drew1 | refine below_set ?_ GE233.out) | exact HB.out)) hb); have n2_ := Aside0.mk (hbox); have n3_ := Aside0.mk ((by rw [hg]; exact (below_size (by repeat (first | (with_reducible first | exact HB.out | apply below_alloc | apply pw_below_drewN | apply below_drew1 | refine below_set ?_ GE233.out) | exact HB.out))) : w.heap.size ≤ gb234)); have n4_ := Aside0.mk ((by rw [hg]; exact (below_size (by repeat (first | (with_reducible first | exact HB.out | apply below_alloc | apply pw_below_drewN | apply below_drew1 | refine below_set ?_ GE233.out) | exact HB.out))) : w.heap.size ≤ gb234)); have n5_ := Aside0.mk ((by rw [hg]; exact Nat.ne_of_lt (blk_lt (g := gb233) (o := .cells #[.int .i64 a0_0, .int .i64 a0_1, .int .i64 a0_2, .bool a0_3, .int .i64 a0_4, .slice A0_5 l0_5.length c0_5, .int .i64 a0_6, .slice A0_7 l0_7.length c0_7, .slice A0_8 l0_8.length c0_8, .slice A0_9 l0_9.length c0_9] 33 (0, 0)) (by (with_reducible repeat (first | refine blk_drewN ?_ _ | refine blk_drew ?_ | refine blk_alloc ?_ _)); exact BK233.out)) : gb233 ≠ gb234)); have n6_ := Aside0.mk ((by rw [hg]; exact Nat.ne_of_gt (blk_lt (g := gb233) (o := .cells #[.int .i64 a0_0, .int .i64 a0_1, .int .i64 a0_2, .bool a0_3, .int .i64 a0_4, .slice A0_5 l0_5.length c0_5, .int .i64 a0_6, .slice A0_7 l0_7.length c0_7, .slice A0_8 l0_8.length c0_8, .slice A0_9 l0_9.length c0_9] 33 (0, 0)) (by (with_reducible repeat (first | refine blk_drewN ?_ _ | refine blk_drew ?_ | refine blk_alloc ?_ _)); exact BK233.out)) : gb234 ≠ gb233)); clear BK233; clear HB; have BK233 := n0_; have HB := n1_; have BK234 := n2_; have GW234 := n3_; have GE234 := n4_; have NB233_234 := n5_; have NB234_233 := n6_; clear n0_ n1_ n2_ n3_ n4_ n5_ n6_; clear hb hbox hg; have hnb7 := NB233_234.out; have hnc7 := NB234_233.out; have hcz8_0 : w6.cell? ⟨gb233, 0, none⟩ = some (.int .i64 a0_0) := (blk_cell BK233.out 0).trans rfl; have hcz8_1 : w6.cell? ⟨gb233, 1, none⟩ = some (.int .i64 a0_1) := (blk_cell BK233.out 1).trans rfl; have hcz8_2 : w6.cell? ⟨gb233, 2, none⟩ = some (.int .i64 a0_2) := (blk_cell BK233.out 2).trans rfl; have hcz8_3 : w6.cell? ⟨gb233, 3, none⟩ = some (.bool a0_3) := (blk_cell BK233.out 3).trans rfl; have hcz8_4 : w6.cell? ⟨gb233, 4, none⟩ = some (.int .i64 a0_4) := (blk_cell BK233.out 4).trans rfl; have hcz8_5 : w6.cell? ⟨gb233, 5, none⟩ = some (.slice A0_5 l0_5.length c0_5) := (blk_cell BK233.out 5).trans rfl; have hcz8_6 : w6.cell? ⟨gb233, 6, none⟩ = some (.int .i64 a0_6) := (blk_cell BK233.out 6).trans rfl; have hcz8_7 : w6.cell? ⟨gb233, 7, none⟩ = some (.slice A0_7 l0_7.length c0_7) := (blk_cell BK233.out 7).trans rfl; have hcz8_8 : w6.cell? ⟨gb233, 8, none⟩ = some (.slice A0_8 l0_8.length c0_8) := (blk_cell BK233.out 8).trans rfl; have hcz8_9 : w6.cell? ⟨gb233, 9, none⟩ = some (.slice A0_9 l0_9.length c0_9) := (blk_cell BK233.out 9).trans rfl; have hfz8_0 := blk_frozen BK233.out 0; have hfz8_1 := blk_frozen BK233.out 1; have hfz8_2 := blk_frozen BK233.out 2; have hfz8_3 := blk_frozen BK233.out 3; have hfz8_4 := blk_frozen BK233.out 4; have hfz8_5 := blk_frozen BK233.out 5; have hfz8_6 := blk_frozen BK233.out 6; have hfz8_7 := blk_frozen BK233.out 7; have hfz8_8 := blk_frozen BK233.out 8; have hfz8_9 := blk_frozen BK233.out 9) | ((with_reducible refine gate_callee (f := 12) rfl ?_); refine goesL_ (some 7) rfl rfl Try.func12 (by kernel_rfl) rfl #[.agg #[.int .i64 a0_0, .int .i64 a0_1, .int .i64 a0_2, .bool a0_3, .int .i64 a0_4, .slice A0_5 l0_5.length c0_5, .int .i64 a0_6, .slice A0_7 l0_7.length c0_7, .slice A0_8 l0_8.length c0_8, .slice A0_9 l0_9.length c0_9]] rfl (by (try simp only [List.map_toArray, List.map_cons, List.map_nil]); first | done | rfl | (simp only [List.length_drop, List.length_take]; rfl)) ?_; (with_reducible refine (impl_ReplicaFault.calls a0_0 a0_1 a0_2 a0_3 a0_4 _ _ l0_5 a0_6 _ _ l0_7 _ _ l0_8 _ _ l0_9 t235 _ ?side1 ?side2 ?side3 ?side4 ?side5 ?side6 ?side7 ?side8 A3.out).mono ?_); (case side1 => repeat (first | exact (Kd.C_below HR0_5.out HB.out) | (with_reducible refine Kd.C_alloc ?_ _) | (with_reducible refine Kd.C_drewN ?_ _) | (with_reducible refine Kd.C_drew ?_))); (case side2 => exact HC0_5.out); (case side3 => repeat (first | exact (Kd.C_below HR0_7.out HB.out) | (with_reducible refine Kd.C_alloc ?_ _) | (with_reducible refine Kd.C_drewN ?_ _) | (with_reducible refine Kd.C_drew ?_))); (case side4 => exact HC0_7.out); (case side5 => repeat (first | exact (Kd.C_below HR0_8.out HB.out) | (with_reducible refine Kd.C_alloc ?_ _) | (with_reducible refine Kd.C_drewN ?_ _) | (with_reducible refine Kd.C_drew ?_))); (case side6 => exact HC0_8.out); (case side7 => repeat (first | exact (Kd.C_below HR0_9.out HB.out) | (with_reducible refine Kd.C_alloc ?_ _) | (with_reducible refine Kd.C_drewN ?_ _) | (with_reducible refine Kd.C_drew ?_))); (case side8 => exact HC0_9.out); rintro e w9 ⟨rfl, hb⟩; refine ⟨_, rfl, ?_⟩; have n0_ := Aside0.mk (blk_below (g := gb233) (o := .cells #[.int .i64 a0_0, .int .i64 a0_1, .int .i64 a0_2, .bool a0_3, .int .i64 a0_4, .slice A0_5 l0_5.length c0_5, .int .i64 a0_6, .slice A0_7 l0_7.length c0_7, .slice A0_8 l0_8.length c0_8, .slice A0_9 l0_9.length c0_9] 33 (0, 0)) (by (with_reducible repeat (first | refine blk_drewN ?_ _ | refine blk_drew ?_ | refine blk_alloc ?_ _)); exact BK233.out) hb); have n1_ := Aside0.mk (blk_below (g := gb234) (o := .cells #[.int .i64 0, .int .i64 0] 45 (0, 0)) (by (with_reducible repeat (first | refine blk_drewN ?_ _ | refine blk_drew ?_ | refine blk_alloc ?_ _)); exact BK234.out) hb); have n2_ := Aside0.mk (below_step (by repeat (first | (with_reducible first | exact HB.out | apply below_alloc | apply pw_below_drewN | apply below_drew1 | refine below_set ?_ GE233.out | refine below_set ?_ GE234.out) | exact HB.out)) hb); clear BK233; clear BK234; clear HB; have BK233 := n0_; have BK234 := n1_; have HB := n2_; clear n0_ n1_ n2_; (try clear hb); (try clear hb2); (try clear hk); (try clear hi); have hcz10_0 : w9.cell? ⟨gb234, 0, none⟩ = some (.int .i64 0) := (blk_cell BK234.out 0).trans rfl; have hcz10_1 : w9.cell? ⟨gb234, 1, none⟩ = some (.int .i64 0) := (blk_cell BK234.out 1).trans rfl; have hfz10_0 := blk_frozen BK234.out 0; have hfz10_1 := blk_frozen BK234.out 1))
    refine bodyPost_ret (results_cell_row rfl _ _ gb234 45 #[.int .i64 0, .int .i64 a1] (0, 0) _ rfl (by (with_reducible repeat (first | refine blk_drewN ?_ _ | refine blk_drew ?_ | refine blk_alloc ?_ _)); refine blk_put (cs := #[.int .i64 0, .int .i64 0]) ?_ 1 _ rfl; (with_reducible repeat (first | refine blk_drewN ?_ _ | refine blk_drew ?_ | refine blk_alloc ?_ _)); refine blk_put (cs := #[.int .i64 0, .int .i64 0]) ?_ 0 _ rfl; (with_reducible repeat (first | refine blk_drewN ?_ _ | refine blk_drew ?_ | refine blk_alloc ?_ _)); exact BK234.out) Try.underlying45 rfl (by kernel_rfl)) rfl ?_
    exact ⟨by first | rfl | (simp [errW_none, errW_some] <;> rfl) | (simp [*, errW_none, errW_some] <;> rfl), by repeat (first | (with_reducible first | exact HB.out | apply below_alloc | apply pw_below_drewN | apply below_drew1 | refine below_set ?_ GE233.out | refine below_set ?_ GE234.out) | exact HB.out)⟩
  · rw [if_neg c4] at H
    have c4b0 : (t235 == 0) = false := beq_eq_false_iff_ne.mpr c4
    have c4b1 : (t235 != 0) = true := bne_iff_ne.mpr c4
    simp only [Option.some.injEq, Prod.mk.injEq] at H
    obtain ⟨rfl, rfl⟩ := H
    go_enter Try.func59, Try.ntmps59
    go_wp2_with (first | ((with_reducible refine gate_dst (N := 2) rfl ?_); refine box_event ?hg (N := 2) ?hd (cs := #[.int .i64 a0_0, .int .i64 a0_1, .int .i64 a0_2, .bool a0_3, .int .i64 a0_4, .slice A0_5 l0_5.length c0_5, .int .i64 a0_6, .slice A0_7 l0_7.length c0_7, .slice A0_8 l0_8.length c0_8, .slice A0_9 l0_9.length c0_9]) (t := 33) ?hr ?_; (case hd => rfl); (case hg => rfl); (case hr => first | (go_simp; done) | (go_simp; rfl)); intro gb233 hg w11 hbox hb; have n0_ := Aside0.mk (below_step (by repeat (first | (with_reducible first | exact HB.out | apply below_alloc | apply pw_below_drewN | apply below_drew1) | exact HB.out)) hb); have n1_ := Aside0.mk (hbox); have n2_ := Aside0.mk ((by rw [hg]; exact (below_size (by repeat (first | (with_reducible first | exact HB.out | apply below_alloc | apply pw_below_drewN | apply below_drew1) | exact HB.out))) : w.heap.size ≤ gb233)); have n3_ := Aside0.mk ((by rw [hg]; exact (below_size (by repeat (first | (with_reducible first | exact HB.out | apply below_alloc | apply pw_below_drewN | apply below_drew1) | exact HB.out))) : w.heap.size ≤ gb233)); clear HB; have HB := n0_; have BK233 := n1_; have GW233 := n2_; have GE233 := n3_; clear n0_ n1_ n2_ n3_; clear hb hbox hg) | ((with_reducible refine gate_dst (N := 4) rfl ?_); refine box_event ?hg (N := 4) ?hd (cs := #[.int .i64 0, .int .i64 0]) (t := 45) ?hr ?_; (case hd => rfl); (case hg => rfl); (case hr => first | (go_simp; done) | (go_simp; rfl)); intro gb234 hg w12 hbox hb; have n0_ := Aside0.mk (blk_below (g := gb233) (o := .cells #[.int .i64 a0_0, .int .i64 a0_1, .int .i64 a0_2, .bool a0_3, .int .i64 a0_4, .slice A0_5 l0_5.length c0_5, .int .i64 a0_6, .slice A0_7 l0_7.length c0_7, .slice A0_8 l0_8.length c0_8, .slice A0_9 l0_9.length c0_9] 33 (0, 0)) (by (with_reducible repeat (first | refine blk_drewN ?_ _ | refine blk_drew ?_ | refine blk_alloc ?_ _)); exact BK233.out) hb); have n1_ := Aside0.mk (below_step (by repeat (first | (with_reducible first | exact HB.out | apply below_alloc | apply pw_below_drewN | apply below_drew1 | refine below_set ?_ GE233.out) | exact HB.out)) hb); have n2_ := Aside0.mk (hbox); have n3_ := Aside0.mk ((by rw [hg]; exact (below_size (by repeat (first | (with_reducible first | exact HB.out | apply below_alloc | apply pw_below_drewN | apply below_drew1 | refine below_set ?_ GE233.out) | exact HB.out))) : w.heap.size ≤ gb234)); have n4_ := Aside0.mk ((by rw [hg]; exact (below_size (by repeat (first | (with_reducible first | exact HB.out | apply below_alloc | apply pw_below_drewN | apply below_drew1 | refine below_set ?_ GE233.out) | exact HB.out))) : w.heap.size ≤ gb234)); have n5_ := Aside0.mk ((by rw [hg]; exact Nat.ne_of_lt (blk_lt (g := gb233) (o := .cells #[.int .i64 a0_0, .int .i64 a0_1, .int .i64 a0_2, .bool a0_3, .int .i64 a0_4, .slice A0_5 l0_5.length c0_5, .int .i64 a0_6, .slice A0_7 l0_7.length c0_7, .slice A0_8 l0_8.length c0_8, .slice A0_9 l0_9.length c0_9] 33 (0, 0)) (by (with_reducible repeat (first | refine blk_drewN ?_ _ | refine blk_drew ?_ | refine blk_alloc ?_ _)); exact BK233.out)) : gb233 ≠ gb234)); have n6_ := Aside0.mk ((by rw [hg]; exact Nat.ne_of_gt (blk_lt (g := gb233) (o := .cells #[.int .i64 a0_0, .int .i64 a0_1, .int .i64 a0_2, .bool a0_3, .int .i64 a0_4, .slice A0_5 l0_5.length c0_5, .int .i64 a0_6, .slice A0_7 l0_7.length c0_7, .slice A0_8 l0_8.length c0_8, .slice A0_9 l0_9.length c0_9] 33 (0, 0)) (by (with_reducible repeat (first | refine blk_drewN ?_ _ | refine blk_drew ?_ | refine blk_alloc ?_ _)); exact BK233.out)) : gb234 ≠ gb233)); clear BK233; clear HB; have BK233 := n0_; have HB := n1_; have BK234 := n2_; have GW234 := n3_; have GE234 := n4_; have NB233_234 := n5_; have NB234_233 := n6_; clear n0_ n1_ n2_ n3_ n4_ n5_ n6_; clear hb hbox hg; have hnb13 := NB233_234.out; have hnc13 := NB234_233.out; have hcz14_0 : w12.cell? ⟨gb233, 0, none⟩ = some (.int .i64 a0_0) := (blk_cell BK233.out 0).trans rfl; have hcz14_1 : w12.cell? ⟨gb233, 1, none⟩ = some (.int .i64 a0_1) := (blk_cell BK233.out 1).trans rfl; have hcz14_2 : w12.cell? ⟨gb233, 2, none⟩ = some (.int .i64 a0_2) := (blk_cell BK233.out 2).trans rfl; have hcz14_3 : w12.cell? ⟨gb233, 3, none⟩ = some (.bool a0_3) := (blk_cell BK233.out 3).trans rfl; have hcz14_4 : w12.cell? ⟨gb233, 4, none⟩ = some (.int .i64 a0_4) := (blk_cell BK233.out 4).trans rfl; have hcz14_5 : w12.cell? ⟨gb233, 5, none⟩ = some (.slice A0_5 l0_5.length c0_5) := (blk_cell BK233.out 5).trans rfl; have hcz14_6 : w12.cell? ⟨gb233, 6, none⟩ = some (.int .i64 a0_6) := (blk_cell BK233.out 6).trans rfl; have hcz14_7 : w12.cell? ⟨gb233, 7, none⟩ = some (.slice A0_7 l0_7.length c0_7) := (blk_cell BK233.out 7).trans rfl; have hcz14_8 : w12.cell? ⟨gb233, 8, none⟩ = some (.slice A0_8 l0_8.length c0_8) := (blk_cell BK233.out 8).trans rfl; have hcz14_9 : w12.cell? ⟨gb233, 9, none⟩ = some (.slice A0_9 l0_9.length c0_9) := (blk_cell BK233.out 9).trans rfl; have hfz14_0 := blk_frozen BK233.out 0; have hfz14_1 := blk_frozen BK233.out 1; have hfz14_2 := blk_frozen BK233.out 2; have hfz14_3 := blk_frozen BK233.out 3; have hfz14_4 := blk_frozen BK233.out 4; have hfz14_5 := blk_frozen BK233.out 5; have hfz14_6 := blk_frozen BK233.out 6; have hfz14_7 := blk_frozen BK233.out 7; have hfz14_8 := blk_frozen BK233.out 8; have hfz14_9 := blk_frozen BK233.out 9) | ((with_reducible refine gate_callee (f := 12) rfl ?_); refine goesL_ (some 7) rfl rfl Try.func12 (by kernel_rfl) rfl #[.agg #[.int .i64 a0_0, .int .i64 a0_1, .int .i64 a0_2, .bool a0_3, .int .i64 a0_4, .slice A0_5 l0_5.length c0_5, .int .i64 a0_6, .slice A0_7 l0_7.length c0_7, .slice A0_8 l0_8.length c0_8, .slice A0_9 l0_9.length c0_9]] rfl (by (try simp only [List.map_toArray, List.map_cons, List.map_nil]); first | done | rfl | (simp only [List.length_drop, List.length_take]; rfl)) ?_; (with_reducible refine (impl_ReplicaFault.calls a0_0 a0_1 a0_2 a0_3 a0_4 _ _ l0_5 a0_6 _ _ l0_7 _ _ l0_8 _ _ l0_9 t235 _ ?side1 ?side2 ?side3 ?side4 ?side5 ?side6 ?side7 ?side8 A3.out).mono ?_); (case side1 => repeat (first | exact (Kd.C_below HR0_5.out HB.out) | (with_reducible refine Kd.C_alloc ?_ _) | (with_reducible refine Kd.C_drewN ?_ _) | (with_reducible refine Kd.C_drew ?_))); (case side2 => exact HC0_5.out); (case side3 => repeat (first | exact (Kd.C_below HR0_7.out HB.out) | (with_reducible refine Kd.C_alloc ?_ _) | (with_reducible refine Kd.C_drewN ?_ _) | (with_reducible refine Kd.C_drew ?_))); (case side4 => exact HC0_7.out); (case side5 => repeat (first | exact (Kd.C_below HR0_8.out HB.out) | (with_reducible refine Kd.C_alloc ?_ _) | (with_reducible refine Kd.C_drewN ?_ _) | (with_reducible refine Kd.C_drew ?_))); (case side6 => exact HC0_8.out); (case side7 => repeat (first | exact (Kd.C_below HR0_9.out HB.out) | (with_reducible refine Kd.C_alloc ?_ _) | (with_reducible refine Kd.C_drewN ?_ _) | (with_reducible refine Kd.C_drew ?_))); (case side8 => exact HC0_9.out); rintro e w15 ⟨rfl, hb⟩; refine ⟨_, rfl, ?_⟩; have n0_ := Aside0.mk (blk_below (g := gb233) (o := .cells #[.int .i64 a0_0, .int .i64 a0_1, .int .i64 a0_2, .bool a0_3, .int .i64 a0_4, .slice A0_5 l0_5.length c0_5, .int .i64 a0_6, .slice A0_7 l0_7.length c0_7, .slice A0_8 l0_8.length c0_8, .slice A0_9 l0_9.length c0_9] 33 (0, 0)) (by (with_reducible repeat (first | refine blk_drewN ?_ _ | refine blk_drew ?_ | refine blk_alloc ?_ _)); exact BK233.out) hb); have n1_ := Aside0.mk (blk_below (g := gb234) (o := .cells #[.int .i64 0, .int .i64 0] 45 (0, 0)) (by (with_reducible repeat (first | refine blk_drewN ?_ _ | refine blk_drew ?_ | refine blk_alloc ?_ _)); exact BK234.out) hb); have n2_ := Aside0.mk (below_step (by repeat (first | (with_reducible first | exact HB.out | apply below_alloc | apply pw_below_drewN | apply below_drew1 | refine below_set ?_ GE233.out | refine below_set ?_ GE234.out) | exact HB.out)) hb); clear BK233; clear BK234; clear HB; have BK233 := n0_; have BK234 := n1_; have HB := n2_; clear n0_ n1_ n2_; (try clear hb); (try clear hb2); (try clear hk); (try clear hi); have hcz16_0 : w15.cell? ⟨gb234, 0, none⟩ = some (.int .i64 0) := (blk_cell BK234.out 0).trans rfl; have hcz16_1 : w15.cell? ⟨gb234, 1, none⟩ = some (.int .i64 0) := (blk_cell BK234.out 1).trans rfl; have hfz16_0 := blk_frozen BK234.out 0; have hfz16_1 := blk_frozen BK234.out 1))
    refine bodyPost_ret (results_cell_row rfl _ _ gb234 45 #[.int .i64 t235, .int .i64 0] (0, 0) _ rfl (by (with_reducible repeat (first | refine blk_drewN ?_ _ | refine blk_drew ?_ | refine blk_alloc ?_ _)); refine blk_put (cs := #[.int .i64 t235, .int .i64 0]) ?_ 1 _ rfl; (with_reducible repeat (first | refine blk_drewN ?_ _ | refine blk_drew ?_ | refine blk_alloc ?_ _)); refine blk_put (cs := #[.int .i64 0, .int .i64 0]) ?_ 0 _ rfl; (with_reducible repeat (first | refine blk_drewN ?_ _ | refine blk_drew ?_ | refine blk_alloc ?_ _)); exact BK234.out) Try.underlying45 rfl (by kernel_rfl)) rfl ?_
    exact ⟨by first | rfl | (simp [errW_none, errW_some] <;> rfl) | (simp [*, errW_none, errW_some] <;> rfl), by repeat (first | (with_reducible first | exact HB.out | apply below_alloc | apply pw_below_drewN | apply below_drew1 | refine below_set ?_ GE233.out | refine below_set ?_ GE234.out) | exact HB.out)⟩

end Go.Proofs.Ytajhhmoglfgijaa.PFnExactCountDoers
