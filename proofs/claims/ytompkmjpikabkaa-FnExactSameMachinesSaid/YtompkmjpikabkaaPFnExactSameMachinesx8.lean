/- Functions of the law FnExactSameMachines as Lean functions, and proofs that the calls come to what they tell. -/
import Derived.Test.YtompkmjpikabkaaPFnExactSameMachinesx0
import Derived.Test.YtompkmjpikabkaaPFnExactSameMachinesx1
import Derived.Test.YtompkmjpikabkaaPFnExactSameMachinesx3
import Derived.Test.YtompkmjpikabkaaPFnExactSameMachinesx5
import Derived.Test.YtompkmjpikabkaaPFnExactSameMachinesx7
namespace Go.Proofs.Ytompkmjpikabkaa.PFnExactSameMachines
open Go.RowKit Go.Proofs.YtompkmjpikabkaaW.PrintWords Go.Proofs.YtompkmjpikabkaaW.PrintLast Go.Proofs.YtompkmjpikabkaaW.PrintMore
attribute [local go_sem] max2_int min2_int max_two min_two max_three min_three max_four min_four
set_option linter.unusedVariables false
set_option linter.unusedSimpArgs false

attribute [local go_sem high] eqA108 eqA143
/-! ### impl_Block: function 109 -/
def impl_Block.l0 : Nat → List (S143) → List (S143) → Int → Int → Option (Bool)
  | 0, _, _, _, _ => none
  | k + 1, x0, x1, x12, x13 => if x13 < x12 then (if 0 ≤ x13 then (if x13 < (x0.length : Int) then (if x13 < (x1.length : Int) then (if (!(((rd_T143 x0 x13).f0) == ((rd_T143 x1 x13).f0)) || (!(((rd_T143 x0 x13).f1) == ((rd_T143 x1 x13).f1)))) = true then (some false) else (impl_Block.l0 k x0 x1 x12 (wrap64 (x13 + 1)))) else (none)) else (none)) else (none)) else (some true)
def impl_Block.f (k : Nat) (l0 : List (S143)) (l1 : List (S143)) : Option (Bool) := if (l0.length : Int) = (l1.length : Int) then (impl_Block.l0 k l0 l1 (l0.length : Int) 0) else (some false)
theorem impl_Block.mono_l : ∀ k, (∀ y0 y1 y2 y3, LeO (impl_Block.l0 k y0 y1 y2 y3) (impl_Block.l0 (k + 1) y0 y1 y2 y3))
  | 0 => fun _ _ _ _ r h => by simp [impl_Block.l0] at h
  | k + 1 => by
    have ih0 := impl_Block.mono_l k
    · intro y0 y1 y2 y3
      unfold impl_Block.l0
      repeat' first
      | (with_reducible exact ih0 _ _ _ _)
      | (with_reducible exact LeO.refl _)
      | (with_reducible exact LeO.none _)
      | (with_reducible refine LeO.ite ?_ ?_)
      | (with_reducible refine LeO.bind ?_ (fun _ => ?_))
      | exact ih0 _ _ _ _
      | exact LeO.none _
      | refine LeO.ite ?_ ?_
      | refine LeO.bind ?_ (fun _ => ?_)
theorem impl_Block.mono : ∀ a0 a1 k, LeO (impl_Block.f k a0 a1) (impl_Block.f (k + 1) a0 a1) := by
  intro a0 a1 k
  have ih0 := impl_Block.mono_l k
  unfold impl_Block.f
  repeat' first
      | (with_reducible exact ih0 _ _ _ _)
      | (with_reducible exact LeO.refl _)
      | (with_reducible exact LeO.none _)
      | (with_reducible refine LeO.ite ?_ ?_)
      | (with_reducible refine LeO.bind ?_ (fun _ => ?_))
      | exact ih0 _ _ _ _
      | exact LeO.none _
      | refine LeO.ite ?_ ?_
      | refine LeO.bind ?_ (fun _ => ?_)
set_option maxHeartbeats 8000000 in
set_option maxRecDepth 100000 in
theorem impl_Block.calls (k : Nat) (A0 : Option Addr) (c0 : Nat) (l0 : List (S143)) (A1 : Option Addr) (c1 : Nat) (l1 : List (S143)) (r : Bool) (w : World) (hr0 : Kd.C k143 w A0 l0.length l0) (hc0 : l0.length ≤ c0) (hr1 : Kd.C k143 w A1 l1.length l1) (hc1 : l1.length ≤ c1) (h : impl_Block.f k l0 l1 = some r) :
    Calls Try.prog 109 #[.slice A0 l0.length c0, .slice A1 l1.length c1] w fun e w' => e = .returned (.bool r) ∧ Drawn0 w w' := by
  have hu143 := Try.underlying143
  have HR0 := Aside0.mk hr0
  have HC0 := Aside0.mk hc0
  clear hr0 hc0
  have HR1 := Aside0.mk hr1
  have HC1 := Aside0.mk hc1
  clear hr1 hc1
  have H : (if (l0.length : Int) = (l1.length : Int) then (impl_Block.l0 k l0 l1 (l0.length : Int) 0) else (some false)) = some r := h
  clear h
  by_cases c3 : (l0.length : Int) = (l1.length : Int)
  · rw [if_pos c3] at H
    have c3b0 : ((l0.length : Int) == (l1.length : Int)) = true := beq_iff_eq.mpr c3
    have c3b1 : ((l0.length : Int) != (l1.length : Int)) = false := bne_eq_false_iff_eq.mpr c3
    have c3b2 : (l0.length == l1.length) = true := by first | simpa using c3 | (simp at c3 ⊢; omega)
    clear c3
    have H' := Aside0.mk H
    clear H
    go_enter Try.func109, Try.ntmps109
    go_wp2
    repeat (go_quiet (fail); try go_wp2)
    go_loopg [13] k (fun kq v13 w' => ∃ (x13_1 : Int), v13 = .int .i64 x13_1 ∧ Aside0 (impl_Block.l0 kq l0 l1 (l0.length : Int) x13_1 = some r) ∧ Aside0 (kq ≤ k) ∧ Drawn0 w w')
    case atStart => exact ⟨(0), (by first | rfl | (simp; done) | (simp [*]; done)), H', ⟨Nat.le_refl _⟩, by repeat (first | exact Drawn0.refl _ | apply Drawn0.step)⟩
    case round =>
      clear H'
      try clear c1
      try clear p2
      try clear c3
      try clear c3b0
      try clear c3b1
      try clear c3b2
      obtain ⟨x13_1, rfl, HA, HK1, ⟨m1, rfl⟩⟩ := hrel
      cases gk with
      | zero => exact absurd HA.out (by simp [impl_Block.l0])
      | succ k1 =>
        have H := HA.out
        clear HA
        simp only [impl_Block.l0] at H
        by_cases c4 : x13_1 < (l0.length : Int)
        · rw [if_pos c4] at H
          have c4b0 : decide (x13_1 < (l0.length : Int)) = true := decide_eq_true c4
          clear c4
          by_cases c5 : 0 ≤ x13_1
          · rw [if_pos c5] at H
            have c5b0 : decide (0 ≤ x13_1) = true := decide_eq_true c5
            clear c5
            by_cases c6 : x13_1 < (l0.length : Int)
            · rw [if_pos c6] at H
              have c6b0 : decide (x13_1 < (l0.length : Int)) = true := decide_eq_true c6
              clear c6
              by_cases c7 : x13_1 < (l1.length : Int)
              · rw [if_pos c7] at H
                have c7b0 : decide (x13_1 < (l1.length : Int)) = true := decide_eq_true c7
                clear c7
                by_cases c8 : (!(((rd_T143 l0 x13_1).f0) == ((rd_T143 l1 x13_1).f0)) || (!(((rd_T143 l0 x13_1).f1) == ((rd_T143 l1 x13_1).f1)))) = true
                · rw [if_pos c8] at H
                  have c8b0 : (!(((rd_T143 l0 x13_1).f0) == ((rd_T143 l1 x13_1).f0)) || (!(((rd_T143 l0 x13_1).f1) == ((rd_T143 l1 x13_1).f1)))) = true := c8
                  clear c8
                  obtain rfl := Option.some.inj H
                  have p221 : 0 ≤ (x13_1 : Int) := of_decide_eq_true (by first | (with_reducible assumption) | assumption)
                  have q221 : x13_1 < (l0.length : Int) := of_decide_eq_true (by first | (with_reducible assumption) | assumption)
                  obtain ⟨ad221, e221, hx221_0, hx221_1⟩ := at_T143 HR0.out x13_1 p221 q221
                  cases e221
                  replace p221 := eq_true p221
                  replace q221 := eq_true q221
                  have p222 : 0 ≤ (x13_1 : Int) := of_decide_eq_true (by first | (with_reducible assumption) | assumption)
                  have q222 : x13_1 < (l1.length : Int) := of_decide_eq_true (by first | (with_reducible assumption) | assumption)
                  obtain ⟨ad222, e222, hx222_0, hx222_1⟩ := at_T143 HR1.out x13_1 p222 q222
                  cases e222
                  replace p222 := eq_true p222
                  replace q222 := eq_true q222
                  go_wp2
                  repeat (go_quiet (fail); try go_wp2)
                  go_ret
                  exact ⟨by first | rfl | (simp; done) | (simp [*]; done), by repeat (first | exact Drawn0.refl _ | apply Drawn0.step)⟩
                · rw [if_neg c8] at H
                  have c8b0 : (!(((rd_T143 l0 x13_1).f0) == ((rd_T143 l1 x13_1).f0)) || (!(((rd_T143 l0 x13_1).f1) == ((rd_T143 l1 x13_1).f1)))) = false := by simpa using c8
                  clear c8
                  have H' := Aside0.mk H
                  clear H
                  have p221 : 0 ≤ (x13_1 : Int) := of_decide_eq_true (by first | (with_reducible assumption) | assumption)
                  have q221 : x13_1 < (l0.length : Int) := of_decide_eq_true (by first | (with_reducible assumption) | assumption)
                  obtain ⟨ad221, e221, hx221_0, hx221_1⟩ := at_T143 HR0.out x13_1 p221 q221
                  cases e221
                  replace p221 := eq_true p221
                  replace q221 := eq_true q221
                  have p222 : 0 ≤ (x13_1 : Int) := of_decide_eq_true (by first | (with_reducible assumption) | assumption)
                  have q222 : x13_1 < (l1.length : Int) := of_decide_eq_true (by first | (with_reducible assumption) | assumption)
                  obtain ⟨ad222, e222, hx222_0, hx222_1⟩ := at_T143 HR1.out x13_1 p222 q222
                  cases e222
                  replace p222 := eq_true p222
                  replace q222 := eq_true q222
                  go_wp2
                  repeat (go_quiet (fail); try go_wp2)
                  go_roundg k1
                  case measure => have := HK1.out; omega
                  case rel => exact ⟨(wrap64 (x13_1 + 1)), (by first | rfl | (simp; done) | (simp [*]; done)), H', ⟨by have := HK1.out; omega⟩, by repeat (first | exact Drawn0.refl _ | apply Drawn0.step)⟩
              · rw [if_neg c7] at H
                exact absurd H (by simp)
            · rw [if_neg c6] at H
              exact absurd H (by simp)
          · rw [if_neg c5] at H
            exact absurd H (by simp)
        · rw [if_neg c4] at H
          have c4b0 : decide (x13_1 < (l0.length : Int)) = false := decide_eq_false c4
          clear c4
          obtain rfl := Option.some.inj H
          go_wp2
          repeat (go_quiet (fail); try go_wp2)
          go_ret
          exact ⟨by first | rfl | (simp; done) | (simp [*]; done), by repeat (first | exact Drawn0.refl _ | apply Drawn0.step)⟩
  · rw [if_neg c3] at H
    have c3b0 : ((l0.length : Int) == (l1.length : Int)) = false := beq_eq_false_iff_ne.mpr c3
    have c3b1 : ((l0.length : Int) != (l1.length : Int)) = true := bne_iff_ne.mpr c3
    have c3b2 : (l0.length == l1.length) = false := by first | simpa using c3 | (simp at c3 ⊢; omega)
    obtain rfl := Option.some.inj H
    go_enter Try.func109, Try.ntmps109
    go_wp2
    repeat (go_quiet (fail); try go_wp2)
    go_ret
    exact ⟨by first | rfl | (simp; done) | (simp [*]; done), by repeat (first | exact Drawn0.refl _ | apply Drawn0.step)⟩

-- NOT PRINTED: function 110 (impl_Node)


/-! ### slices_Equal_int64_int64: function 85 -/
def slices_Equal_int64_int64.l0 : Nat → (List (Int)) → (List (Int)) → Int → Option (Bool)
  | 0, _, _, _ => none
  | k + 1, l0, l1, x1 => if x1 < (l0.length : Int) then (if 0 ≤ x1 then (if x1 < (l1.length : Int) then (if (rd l0 x1) = (rd l1 x1) then (slices_Equal_int64_int64.l0 k l0 l1 (wrap64 (x1 + 1))) else (some false)) else (none)) else (none)) else (some true)
def slices_Equal_int64_int64.f (k : Nat) (l0 : List (Int)) (l1 : List (Int)) : Option (Bool) := if (l0.length : Int) = (l1.length : Int) then (slices_Equal_int64_int64.l0 k l0 l1 0) else (some false)
theorem slices_Equal_int64_int64.mono_l : ∀ k, (∀ y0 y1 y2, LeO (slices_Equal_int64_int64.l0 k y0 y1 y2) (slices_Equal_int64_int64.l0 (k + 1) y0 y1 y2))
  | 0 => fun _ _ _ r h => by simp [slices_Equal_int64_int64.l0] at h
  | k + 1 => by
    have ih0 := slices_Equal_int64_int64.mono_l k
    · intro y0 y1 y2
      unfold slices_Equal_int64_int64.l0
      repeat' first
      | (with_reducible exact ih0 _ _ _)
      | (with_reducible exact LeO.refl _)
      | (with_reducible exact LeO.none _)
      | (with_reducible refine LeO.ite ?_ ?_)
      | (with_reducible refine LeO.bind ?_ (fun _ => ?_))
      | exact ih0 _ _ _
      | exact LeO.none _
      | refine LeO.ite ?_ ?_
      | refine LeO.bind ?_ (fun _ => ?_)
theorem slices_Equal_int64_int64.mono : ∀ a0 a1 k, LeO (slices_Equal_int64_int64.f k a0 a1) (slices_Equal_int64_int64.f (k + 1) a0 a1) := by
  intro a0 a1 k
  have ih0 := slices_Equal_int64_int64.mono_l k
  unfold slices_Equal_int64_int64.f
  repeat' first
      | (with_reducible exact ih0 _ _ _)
      | (with_reducible exact LeO.refl _)
      | (with_reducible exact LeO.none _)
      | (with_reducible refine LeO.ite ?_ ?_)
      | (with_reducible refine LeO.bind ?_ (fun _ => ?_))
      | exact ih0 _ _ _
      | exact LeO.none _
      | refine LeO.ite ?_ ?_
      | refine LeO.bind ?_ (fun _ => ?_)
set_option maxHeartbeats 8000000 in
set_option maxRecDepth 100000 in
theorem slices_Equal_int64_int64.calls (k : Nat) (A0 : Option Addr) (c0 : Nat) (l0 : List (Int)) (A1 : Option Addr) (c1 : Nat) (l1 : List (Int)) (r : Bool) (w : World) (hr0 : Kd.C (Kd.int .i64) w A0 l0.length l0) (hc0 : l0.length ≤ c0) (hr1 : Kd.C (Kd.int .i64) w A1 l1.length l1) (hc1 : l1.length ≤ c1) (h : slices_Equal_int64_int64.f k l0 l1 = some r) :
    Calls Try.prog 85 #[.slice A0 l0.length c0, .slice A1 l1.length c1] w fun e w' => e = .returned (.bool r) ∧ Drawn0 w w' := by
  have HR0 := Aside0.mk hr0
  have HC0 := Aside0.mk hc0
  have HR1 := Aside0.mk hr1
  have HC1 := Aside0.mk hc1
  clear hr0 hc0 hr1 hc1
  have HB := Aside0.mk (Below.refl w.heap.size w)
  have HD := Aside0.mk (Drawn0.refl w)
  have H : (if (l0.length : Int) = (l1.length : Int) then (slices_Equal_int64_int64.l0 k l0 l1 0) else (some false)) = some r := h
  clear h
  go_enter Try.func85, Try.ntmps85
  by_cases c1 : (l0.length : Int) = (l1.length : Int)
  · rw [if_pos c1] at H
    have c1b0 : ((l0.length : Int) == (l1.length : Int)) = true := beq_iff_eq.mpr c1
    have c1b1 : ((l0.length : Int) != (l1.length : Int)) = false := bne_eq_false_iff_eq.mpr c1
    have c1b2 : (l0.length == l1.length) = true := beq_iff_eq.mpr (by omega)
    clear c1
    have H' := Aside0.mk H
    clear H
    go_wp2_with (fail)
    go_loopg [13] k (fun kq v13 w' => ∃ (x1 : Int), v13 = .int .i64 x1 ∧ Aside0 (slices_Equal_int64_int64.l0 kq l0 l1 x1 = some r) ∧ Aside0 (kq ≤ k) ∧ Aside0 (Drawn0 w w'))
    case atStart => exact ⟨(0), (by first | rfl | (simp; done) | (simp [*]; done)), H', ⟨Nat.le_refl _⟩, ⟨by (try rw [World.drewN_drewN]); repeat (first | exact HD.out | exact ⟨⟨_, rfl⟩⟩ | apply Drawn0.step)⟩⟩
    case round =>
      clear H'
      obtain ⟨x1, rfl, HA, HK1, HD⟩ := hrel
      have HB := Aside0.mk HD.out.below
      cases gk with
      | zero => exact absurd HA.out (by simp [slices_Equal_int64_int64.l0])
      | succ k1 =>
        have H := HA.out
        clear HA
        simp only [slices_Equal_int64_int64.l0] at H
        by_cases c2 : x1 < (l0.length : Int)
        · rw [if_pos c2] at H
          have c2b0 : decide (x1 < (l0.length : Int)) = true := decide_eq_true c2
          clear c2
          by_cases c3 : 0 ≤ x1
          · rw [if_pos c3] at H
            have c3b0 : decide (0 ≤ x1) = true := decide_eq_true c3
            clear c3
            by_cases c4 : x1 < (l1.length : Int)
            · rw [if_pos c4] at H
              have c4b0 : decide (x1 < (l1.length : Int)) = true := decide_eq_true c4
              clear c4
              by_cases c5 : (rd l0 x1) = (rd l1 x1)
              · rw [if_pos c5] at H
                have c5b0 : ((rd l0 x1) == (rd l1 x1)) = true := beq_iff_eq.mpr c5
                have c5b1 : ((rd l0 x1) != (rd l1 x1)) = false := bne_eq_false_iff_eq.mpr c5
                clear c5
                have H' := Aside0.mk H
                clear H
                have p2 : 0 ≤ (x1 : Int) := of_decide_eq_true (by first | (with_reducible assumption) | assumption)
                have q2 : (x1 : Int) < (l0.length : Int) := of_decide_eq_true (by first | (with_reducible assumption) | assumption)
                obtain ⟨ad2, e2, hx2_0⟩ := Kd.at_int HR0.out x1 p2 q2
                cases e2
                have HXhx2_0 := Aside0.mk hx2_0
                replace hx2_0 := (HB.out.cell (World.block_lt_of_cell? w _ HXhx2_0.out)).trans HXhx2_0.out
                replace p2 := eq_true p2
                replace q2 := eq_true q2
                have p3 : 0 ≤ (x1 : Int) := of_decide_eq_true (by first | (with_reducible assumption) | assumption)
                have q3 : (x1 : Int) < (l1.length : Int) := of_decide_eq_true (by first | (with_reducible assumption) | assumption)
                obtain ⟨ad3, e3, hx3_0⟩ := Kd.at_int HR1.out x1 p3 q3
                cases e3
                have HXhx3_0 := Aside0.mk hx3_0
                replace hx3_0 := (HB.out.cell (World.block_lt_of_cell? w _ HXhx3_0.out)).trans HXhx3_0.out
                replace p3 := eq_true p3
                replace q3 := eq_true q3
                go_wp2_with (fail)
                repeat (go_quiet (fail); try go_wp2_with (fail))
                go_roundg k1
                case measure => have := HK1.out; omega
                case rel => exact ⟨((wrap64 (x1 + 1))), (by first | rfl | (simp; done) | (simp [*]; done)), H', ⟨by have := HK1.out; omega⟩, ⟨by (try rw [World.drewN_drewN]); repeat (first | exact HD.out | exact ⟨⟨_, rfl⟩⟩ | apply Drawn0.step)⟩⟩
              · rw [if_neg c5] at H
                have c5b0 : ((rd l0 x1) == (rd l1 x1)) = false := beq_eq_false_iff_ne.mpr c5
                have c5b1 : ((rd l0 x1) != (rd l1 x1)) = true := bne_iff_ne.mpr c5
                obtain rfl := Option.some.inj H
                have p2 : 0 ≤ (x1 : Int) := of_decide_eq_true (by first | (with_reducible assumption) | assumption)
                have q2 : (x1 : Int) < (l0.length : Int) := of_decide_eq_true (by first | (with_reducible assumption) | assumption)
                obtain ⟨ad2, e2, hx2_0⟩ := Kd.at_int HR0.out x1 p2 q2
                cases e2
                have HXhx2_0 := Aside0.mk hx2_0
                replace hx2_0 := (HB.out.cell (World.block_lt_of_cell? w _ HXhx2_0.out)).trans HXhx2_0.out
                replace p2 := eq_true p2
                replace q2 := eq_true q2
                have p3 : 0 ≤ (x1 : Int) := of_decide_eq_true (by first | (with_reducible assumption) | assumption)
                have q3 : (x1 : Int) < (l1.length : Int) := of_decide_eq_true (by first | (with_reducible assumption) | assumption)
                obtain ⟨ad3, e3, hx3_0⟩ := Kd.at_int HR1.out x1 p3 q3
                cases e3
                have HXhx3_0 := Aside0.mk hx3_0
                replace hx3_0 := (HB.out.cell (World.block_lt_of_cell? w _ HXhx3_0.out)).trans HXhx3_0.out
                replace p3 := eq_true p3
                replace q3 := eq_true q3
                go_wp2_with (fail)
                repeat (go_quiet (fail); try go_wp2_with (fail))
                go_ret
                exact ⟨by first | rfl | (simp <;> rfl) | (simp [*] <;> rfl), by (try rw [World.drewN_drewN]); repeat (first | exact HD.out | exact ⟨⟨_, rfl⟩⟩ | apply Drawn0.step)⟩
            · rw [if_neg c4] at H
              exact absurd H (by simp)
          · rw [if_neg c3] at H
            exact absurd H (by simp)
        · rw [if_neg c2] at H
          have c2b0 : decide (x1 < (l0.length : Int)) = false := decide_eq_false c2
          clear c2
          obtain rfl := Option.some.inj H
          go_wp2_with (fail)
          go_ret
          exact ⟨by first | rfl | (simp <;> rfl) | (simp [*] <;> rfl), by (try rw [World.drewN_drewN]); repeat (first | exact HD.out | exact ⟨⟨_, rfl⟩⟩ | apply Drawn0.step)⟩
  · rw [if_neg c1] at H
    have c1b0 : ((l0.length : Int) == (l1.length : Int)) = false := beq_eq_false_iff_ne.mpr c1
    have c1b1 : ((l0.length : Int) != (l1.length : Int)) = true := bne_iff_ne.mpr c1
    have c1b2 : (l0.length == l1.length) = false := beq_eq_false_iff_ne.mpr (by omega)
    obtain rfl := Option.some.inj H
    go_wp2_with (fail)
    go_ret
    exact ⟨by first | rfl | (simp <;> rfl) | (simp [*] <;> rfl), by (try rw [World.drewN_drewN]); repeat (first | exact HD.out | exact ⟨⟨_, rfl⟩⟩ | apply Drawn0.step)⟩

/-! ### impl_SamePools_1: function 111 -/
def impl_SamePools_1.f (k : Nat) (a0_0 : Int) (a0_1 : Bool) (l0_2 : List (Int)) (a1_0 : Int) (a1_1 : Bool) (l1_2 : List (Int)) : Option (Bool) := if a0_0 = a1_0 then (if (a0_1 == a1_1) = true then ((slices_Equal_int64_int64.f k l0_2 l1_2).bind fun t3 => (some t3)) else (some false)) else (some false)
theorem impl_SamePools_1.mono : ∀ a0 a1 a2 a3 a4 a5 k, LeO (impl_SamePools_1.f k a0 a1 a2 a3 a4 a5) (impl_SamePools_1.f (k + 1) a0 a1 a2 a3 a4 a5) := by
  intro a0 a1 a2 a3 a4 a5 k
  unfold impl_SamePools_1.f
  repeat' first
      | (with_reducible exact slices_Equal_int64_int64.mono _ _ _)
      | (with_reducible exact LeO.refl _)
      | (with_reducible exact LeO.none _)
      | (with_reducible refine LeO.ite ?_ ?_)
      | (with_reducible refine LeO.bind ?_ (fun _ => ?_))
      | exact slices_Equal_int64_int64.mono _ _ _
      | exact LeO.none _
      | refine LeO.ite ?_ ?_
      | refine LeO.bind ?_ (fun _ => ?_)
set_option maxHeartbeats 8000000 in
set_option maxRecDepth 100000 in
theorem impl_SamePools_1.calls (k : Nat) (a0_0 : Int) (a0_1 : Bool) (A0_2 : Option Addr) (c0_2 : Nat) (l0_2 : List (Int)) (a1_0 : Int) (a1_1 : Bool) (A1_2 : Option Addr) (c1_2 : Nat) (l1_2 : List (Int)) (r : Bool) (w : World) (hr0_2 : Kd.C (Kd.int .i64) w A0_2 l0_2.length l0_2) (hc0_2 : l0_2.length ≤ c0_2) (hr1_2 : Kd.C (Kd.int .i64) w A1_2 l1_2.length l1_2) (hc1_2 : l1_2.length ≤ c1_2) (h : impl_SamePools_1.f k a0_0 a0_1 l0_2 a1_0 a1_1 l1_2 = some r) :
    Calls Try.prog 111 #[.agg #[.int .i64 a0_0, .bool a0_1, .slice A0_2 l0_2.length c0_2], .agg #[.int .i64 a1_0, .bool a1_1, .slice A1_2 l1_2.length c1_2]] w fun e w' => e = .returned (.bool r) ∧ Below w.heap.size w w' := by
  have hu146 := Try.underlying146
  have HR0_2 := Aside0.mk hr0_2
  have HC0_2 := Aside0.mk hc0_2
  have HR1_2 := Aside0.mk hr1_2
  have HC1_2 := Aside0.mk hc1_2
  clear hr0_2 hc0_2 hr1_2 hc1_2
  have HB := Aside0.mk (Below.refl w.heap.size w)
  have H : (if a0_0 = a1_0 then (if (a0_1 == a1_1) = true then ((slices_Equal_int64_int64.f k l0_2 l1_2).bind fun t3 => (some t3)) else (some false)) else (some false)) = some r := h
  clear h
  go_enter Try.func111, Try.ntmps111
  by_cases c1 : a0_0 = a1_0
  · rw [if_pos c1] at H
    have c1b0 : (a0_0 == a1_0) = true := beq_iff_eq.mpr c1
    have c1b1 : (a0_0 != a1_0) = false := bne_eq_false_iff_eq.mpr c1
    clear c1
    by_cases c2 : (a0_1 == a1_1) = true
    · rw [if_pos c2] at H
      have c2b0 : (a0_1 == a1_1) = true := c2
      have c2b1 : (a0_1 != a1_1) = false := congrArg (fun b => !b) c2
      clear c2
      replace H := Option.bind_eq_some_iff.mp H
      obtain ⟨t3, A40, H⟩ := H
      replace H : (some t3) = some r := H
      have A4 := Aside0.mk A40
      clear A40
      go_wp2_with (first | ((with_reducible refine gate_dst (N := 2) rfl ?_); refine box_event ?hg (N := 2) ?hd (cs := #[.int .i64 a0_0, .bool a0_1, .slice A0_2 l0_2.length c0_2]) (t := 146) ?hr ?_; (case hd => rfl); (case hg => rfl); (case hr => first | (go_simp; done) | (go_simp; rfl)); intro gb1 hg w1001 hbox hb; have n0_ := Aside0.mk (below_step (by repeat (first | (with_reducible first | exact HB.out | apply below_alloc | apply pw_below_drewN | apply below_drew1) | exact HB.out)) hb); have GEgb1 := Aside0.mk ((by rw [hg]; exact (below_size (by repeat (first | (with_reducible first | exact HB.out | apply below_alloc | apply pw_below_drewN | apply below_drew1) | exact HB.out))) : w.heap.size ≤ gb1)); clear HB; have HB := n0_; clear n0_; have BKgb1 := Aside0.mk hbox; have hxgb1_0 : _ = some (.int .i64 a0_0 : Value) := (blk_cell BKgb1.out 0).trans rfl; have hfgb1_0 := blk_frozen BKgb1.out 0; have hxgb1_1 : _ = some (.bool a0_1 : Value) := (blk_cell BKgb1.out 1).trans rfl; have hfgb1_1 := blk_frozen BKgb1.out 1; have hxgb1_2 : _ = some (.slice A0_2 l0_2.length c0_2 : Value) := (blk_cell BKgb1.out 2).trans rfl; have hfgb1_2 := blk_frozen BKgb1.out 2; clear hb hbox hg) | ((with_reducible refine gate_dst (N := 3) rfl ?_); refine box_event ?hg (N := 3) ?hd (cs := #[.int .i64 a1_0, .bool a1_1, .slice A1_2 l1_2.length c1_2]) (t := 146) ?hr ?_; (case hd => rfl); (case hg => rfl); (case hr => first | (go_simp; done) | (go_simp; rfl)); intro gb2 hg w1002 hbox hb; have NBgb1_gb2 := Aside0.mk (by rw [hg]; exact Nat.ne_of_lt (blk_lt BKgb1.out) : gb1 ≠ gb2); have n0_ := Aside0.mk (below_step (by repeat (first | (with_reducible first | exact HB.out | apply below_alloc | apply pw_below_drewN | apply below_drew1) | exact HB.out)) hb); have GEgb2 := Aside0.mk ((by rw [hg]; exact (below_size (by repeat (first | (with_reducible first | exact HB.out | apply below_alloc | apply pw_below_drewN | apply below_drew1) | exact HB.out))) : w.heap.size ≤ gb2)); clear HB; have HB := n0_; clear n0_; have n_ := Aside0.mk (blk_belowR hb BKgb1.out); clear BKgb1; have BKgb1 := n_; clear n_; replace hxgb1_0 : _ = some (.int .i64 a0_0 : Value) := (blk_cell BKgb1.out 0).trans rfl; replace hfgb1_0 := blk_frozen BKgb1.out 0; replace hxgb1_1 : _ = some (.bool a0_1 : Value) := (blk_cell BKgb1.out 1).trans rfl; replace hfgb1_1 := blk_frozen BKgb1.out 1; replace hxgb1_2 : _ = some (.slice A0_2 l0_2.length c0_2 : Value) := (blk_cell BKgb1.out 2).trans rfl; replace hfgb1_2 := blk_frozen BKgb1.out 2; have BKgb2 := Aside0.mk hbox; have hxgb2_0 : _ = some (.int .i64 a1_0 : Value) := (blk_cell BKgb2.out 0).trans rfl; have hfgb2_0 := blk_frozen BKgb2.out 0; have hxgb2_1 : _ = some (.bool a1_1 : Value) := (blk_cell BKgb2.out 1).trans rfl; have hfgb2_1 := blk_frozen BKgb2.out 1; have hxgb2_2 : _ = some (.slice A1_2 l1_2.length c1_2 : Value) := (blk_cell BKgb2.out 2).trans rfl; have hfgb2_2 := blk_frozen BKgb2.out 2; clear hb hbox hg))
      go_at_call 85
      (with_reducible refine (slices_Equal_int64_int64.calls k A0_2 c0_2 l0_2 A1_2 c1_2 l1_2 t3 _ ?side1 ?side2 ?side3 ?side4 A4.out).mono ?_)
      (case side1 => repeat (first | exact (Kd.C_below HR0_2.out HB.out) | (with_reducible refine Kd.C_alloc ?_ _) | (with_reducible refine Kd.C_drewN ?_ _) | (with_reducible refine Kd.C_drew ?_)))
      (case side2 => exact HC0_2.out)
      (case side3 => repeat (first | exact (Kd.C_below HR1_2.out HB.out) | (with_reducible refine Kd.C_alloc ?_ _) | (with_reducible refine Kd.C_drewN ?_ _) | (with_reducible refine Kd.C_drew ?_)))
      (case side4 => exact HC1_2.out)
      rintro e w1003 ⟨rfl, ⟨nd, rfl⟩⟩
      obtain rfl := Option.some.inj H
      go_wp2_with (fail)
      go_ret
      exact ⟨by first | rfl | (simp <;> rfl) | (simp [*] <;> rfl), by repeat (first | (with_reducible first | exact HB.out | apply below_alloc | apply pw_below_drewN | apply below_drew1 | refine below_set ?_ GEgb1.out | refine below_set ?_ GEgb2.out) | exact HB.out)⟩
    · rw [if_neg c2] at H
      have c2b0 : (a0_1 == a1_1) = false := (Bool.eq_false_iff.2 c2)
      have c2b1 : (a0_1 != a1_1) = true := congrArg (fun b => !b) (Bool.eq_false_iff.2 c2)
      clear c2
      obtain rfl := Option.some.inj H
      go_wp2_with (first | ((with_reducible refine gate_dst (N := 2) rfl ?_); refine box_event ?hg (N := 2) ?hd (cs := #[.int .i64 a0_0, .bool a0_1, .slice A0_2 l0_2.length c0_2]) (t := 146) ?hr ?_; (case hd => rfl); (case hg => rfl); (case hr => first | (go_simp; done) | (go_simp; rfl)); intro gb1 hg w1004 hbox hb; have n0_ := Aside0.mk (below_step (by repeat (first | (with_reducible first | exact HB.out | apply below_alloc | apply pw_below_drewN | apply below_drew1) | exact HB.out)) hb); have GEgb1 := Aside0.mk ((by rw [hg]; exact (below_size (by repeat (first | (with_reducible first | exact HB.out | apply below_alloc | apply pw_below_drewN | apply below_drew1) | exact HB.out))) : w.heap.size ≤ gb1)); clear HB; have HB := n0_; clear n0_; have BKgb1 := Aside0.mk hbox; have hxgb1_0 : _ = some (.int .i64 a0_0 : Value) := (blk_cell BKgb1.out 0).trans rfl; have hfgb1_0 := blk_frozen BKgb1.out 0; have hxgb1_1 : _ = some (.bool a0_1 : Value) := (blk_cell BKgb1.out 1).trans rfl; have hfgb1_1 := blk_frozen BKgb1.out 1; have hxgb1_2 : _ = some (.slice A0_2 l0_2.length c0_2 : Value) := (blk_cell BKgb1.out 2).trans rfl; have hfgb1_2 := blk_frozen BKgb1.out 2; clear hb hbox hg) | ((with_reducible refine gate_dst (N := 3) rfl ?_); refine box_event ?hg (N := 3) ?hd (cs := #[.int .i64 a1_0, .bool a1_1, .slice A1_2 l1_2.length c1_2]) (t := 146) ?hr ?_; (case hd => rfl); (case hg => rfl); (case hr => first | (go_simp; done) | (go_simp; rfl)); intro gb2 hg w1005 hbox hb; have NBgb1_gb2 := Aside0.mk (by rw [hg]; exact Nat.ne_of_lt (blk_lt BKgb1.out) : gb1 ≠ gb2); have n0_ := Aside0.mk (below_step (by repeat (first | (with_reducible first | exact HB.out | apply below_alloc | apply pw_below_drewN | apply below_drew1) | exact HB.out)) hb); have GEgb2 := Aside0.mk ((by rw [hg]; exact (below_size (by repeat (first | (with_reducible first | exact HB.out | apply below_alloc | apply pw_below_drewN | apply below_drew1) | exact HB.out))) : w.heap.size ≤ gb2)); clear HB; have HB := n0_; clear n0_; have n_ := Aside0.mk (blk_belowR hb BKgb1.out); clear BKgb1; have BKgb1 := n_; clear n_; replace hxgb1_0 : _ = some (.int .i64 a0_0 : Value) := (blk_cell BKgb1.out 0).trans rfl; replace hfgb1_0 := blk_frozen BKgb1.out 0; replace hxgb1_1 : _ = some (.bool a0_1 : Value) := (blk_cell BKgb1.out 1).trans rfl; replace hfgb1_1 := blk_frozen BKgb1.out 1; replace hxgb1_2 : _ = some (.slice A0_2 l0_2.length c0_2 : Value) := (blk_cell BKgb1.out 2).trans rfl; replace hfgb1_2 := blk_frozen BKgb1.out 2; have BKgb2 := Aside0.mk hbox; have hxgb2_0 : _ = some (.int .i64 a1_0 : Value) := (blk_cell BKgb2.out 0).trans rfl; have hfgb2_0 := blk_frozen BKgb2.out 0; have hxgb2_1 : _ = some (.bool a1_1 : Value) := (blk_cell BKgb2.out 1).trans rfl; have hfgb2_1 := blk_frozen BKgb2.out 1; have hxgb2_2 : _ = some (.slice A1_2 l1_2.length c1_2 : Value) := (blk_cell BKgb2.out 2).trans rfl; have hfgb2_2 := blk_frozen BKgb2.out 2; clear hb hbox hg))
      go_ret
      exact ⟨by first | rfl | (simp <;> rfl) | (simp [*] <;> rfl), by repeat (first | (with_reducible first | exact HB.out | apply below_alloc | apply pw_below_drewN | apply below_drew1 | refine below_set ?_ GEgb1.out | refine below_set ?_ GEgb2.out) | exact HB.out)⟩
  · rw [if_neg c1] at H
    have c1b0 : (a0_0 == a1_0) = false := beq_eq_false_iff_ne.mpr c1
    have c1b1 : (a0_0 != a1_0) = true := bne_iff_ne.mpr c1
    obtain rfl := Option.some.inj H
    go_wp2_with (first | ((with_reducible refine gate_dst (N := 2) rfl ?_); refine box_event ?hg (N := 2) ?hd (cs := #[.int .i64 a0_0, .bool a0_1, .slice A0_2 l0_2.length c0_2]) (t := 146) ?hr ?_; (case hd => rfl); (case hg => rfl); (case hr => first | (go_simp; done) | (go_simp; rfl)); intro gb1 hg w1006 hbox hb; have n0_ := Aside0.mk (below_step (by repeat (first | (with_reducible first | exact HB.out | apply below_alloc | apply pw_below_drewN | apply below_drew1) | exact HB.out)) hb); have GEgb1 := Aside0.mk ((by rw [hg]; exact (below_size (by repeat (first | (with_reducible first | exact HB.out | apply below_alloc | apply pw_below_drewN | apply below_drew1) | exact HB.out))) : w.heap.size ≤ gb1)); clear HB; have HB := n0_; clear n0_; have BKgb1 := Aside0.mk hbox; have hxgb1_0 : _ = some (.int .i64 a0_0 : Value) := (blk_cell BKgb1.out 0).trans rfl; have hfgb1_0 := blk_frozen BKgb1.out 0; have hxgb1_1 : _ = some (.bool a0_1 : Value) := (blk_cell BKgb1.out 1).trans rfl; have hfgb1_1 := blk_frozen BKgb1.out 1; have hxgb1_2 : _ = some (.slice A0_2 l0_2.length c0_2 : Value) := (blk_cell BKgb1.out 2).trans rfl; have hfgb1_2 := blk_frozen BKgb1.out 2; clear hb hbox hg) | ((with_reducible refine gate_dst (N := 3) rfl ?_); refine box_event ?hg (N := 3) ?hd (cs := #[.int .i64 a1_0, .bool a1_1, .slice A1_2 l1_2.length c1_2]) (t := 146) ?hr ?_; (case hd => rfl); (case hg => rfl); (case hr => first | (go_simp; done) | (go_simp; rfl)); intro gb2 hg w1007 hbox hb; have NBgb1_gb2 := Aside0.mk (by rw [hg]; exact Nat.ne_of_lt (blk_lt BKgb1.out) : gb1 ≠ gb2); have n0_ := Aside0.mk (below_step (by repeat (first | (with_reducible first | exact HB.out | apply below_alloc | apply pw_below_drewN | apply below_drew1) | exact HB.out)) hb); have GEgb2 := Aside0.mk ((by rw [hg]; exact (below_size (by repeat (first | (with_reducible first | exact HB.out | apply below_alloc | apply pw_below_drewN | apply below_drew1) | exact HB.out))) : w.heap.size ≤ gb2)); clear HB; have HB := n0_; clear n0_; have n_ := Aside0.mk (blk_belowR hb BKgb1.out); clear BKgb1; have BKgb1 := n_; clear n_; replace hxgb1_0 : _ = some (.int .i64 a0_0 : Value) := (blk_cell BKgb1.out 0).trans rfl; replace hfgb1_0 := blk_frozen BKgb1.out 0; replace hxgb1_1 : _ = some (.bool a0_1 : Value) := (blk_cell BKgb1.out 1).trans rfl; replace hfgb1_1 := blk_frozen BKgb1.out 1; replace hxgb1_2 : _ = some (.slice A0_2 l0_2.length c0_2 : Value) := (blk_cell BKgb1.out 2).trans rfl; replace hfgb1_2 := blk_frozen BKgb1.out 2; have BKgb2 := Aside0.mk hbox; have hxgb2_0 : _ = some (.int .i64 a1_0 : Value) := (blk_cell BKgb2.out 0).trans rfl; have hfgb2_0 := blk_frozen BKgb2.out 0; have hxgb2_1 : _ = some (.bool a1_1 : Value) := (blk_cell BKgb2.out 1).trans rfl; have hfgb2_1 := blk_frozen BKgb2.out 1; have hxgb2_2 : _ = some (.slice A1_2 l1_2.length c1_2 : Value) := (blk_cell BKgb2.out 2).trans rfl; have hfgb2_2 := blk_frozen BKgb2.out 2; clear hb hbox hg))
    go_ret
    exact ⟨by first | rfl | (simp <;> rfl) | (simp [*] <;> rfl), by repeat (first | (with_reducible first | exact HB.out | apply below_alloc | apply pw_below_drewN | apply below_drew1 | refine below_set ?_ GEgb1.out | refine below_set ?_ GEgb2.out) | exact HB.out)⟩

/-! ### q_slices_EqualFunc_impl_Node_impl_Node_impl_Node_impl_Node_111: function 110 -/
def q_slices_EqualFunc_impl_Node_impl_Node_impl_Node_impl_Node_111.l0 : Nat → (List (S146)) → (List (S146)) → Int → Option (Bool)
  | 0, _, _, _ => none
  | k + 1, l0, l1, x1 => if x1 < (l0.length : Int) then (if 0 ≤ x1 then (if x1 < (l1.length : Int) then ((impl_SamePools_1.f k ((rd_T146 l0 x1).f0) ((rd_T146 l0 x1).f1) ((rd_T146 l0 x1).f2) ((rd_T146 l1 x1).f0) ((rd_T146 l1 x1).f1) ((rd_T146 l1 x1).f2)).bind fun t6 => (if t6 = true then (q_slices_EqualFunc_impl_Node_impl_Node_impl_Node_impl_Node_111.l0 k l0 l1 (wrap64 (x1 + 1))) else (some false))) else (none)) else (none)) else (some true)
def q_slices_EqualFunc_impl_Node_impl_Node_impl_Node_impl_Node_111.f (k : Nat) (l0 : List (S146)) (l1 : List (S146)) : Option (Bool) := if (l0.length : Int) = (l1.length : Int) then (q_slices_EqualFunc_impl_Node_impl_Node_impl_Node_impl_Node_111.l0 k l0 l1 0) else (some false)
theorem q_slices_EqualFunc_impl_Node_impl_Node_impl_Node_impl_Node_111.mono_l : ∀ k, (∀ y0 y1 y2, LeO (q_slices_EqualFunc_impl_Node_impl_Node_impl_Node_impl_Node_111.l0 k y0 y1 y2) (q_slices_EqualFunc_impl_Node_impl_Node_impl_Node_impl_Node_111.l0 (k + 1) y0 y1 y2))
  | 0 => fun _ _ _ r h => by simp [q_slices_EqualFunc_impl_Node_impl_Node_impl_Node_impl_Node_111.l0] at h
  | k + 1 => by
    have ih0 := q_slices_EqualFunc_impl_Node_impl_Node_impl_Node_impl_Node_111.mono_l k
    · intro y0 y1 y2
      unfold q_slices_EqualFunc_impl_Node_impl_Node_impl_Node_impl_Node_111.l0
      repeat' first
      | (with_reducible exact ih0 _ _ _)
      | (with_reducible exact impl_SamePools_1.mono _ _ _ _ _ _ _)
      | (with_reducible exact LeO.refl _)
      | (with_reducible exact LeO.none _)
      | (with_reducible refine LeO.ite ?_ ?_)
      | (with_reducible refine LeO.bind ?_ (fun _ => ?_))
      | exact ih0 _ _ _
      | exact impl_SamePools_1.mono _ _ _ _ _ _ _
      | exact LeO.none _
      | refine LeO.ite ?_ ?_
      | refine LeO.bind ?_ (fun _ => ?_)
theorem q_slices_EqualFunc_impl_Node_impl_Node_impl_Node_impl_Node_111.mono : ∀ a0 a1 k, LeO (q_slices_EqualFunc_impl_Node_impl_Node_impl_Node_impl_Node_111.f k a0 a1) (q_slices_EqualFunc_impl_Node_impl_Node_impl_Node_impl_Node_111.f (k + 1) a0 a1) := by
  intro a0 a1 k
  have ih0 := q_slices_EqualFunc_impl_Node_impl_Node_impl_Node_impl_Node_111.mono_l k
  unfold q_slices_EqualFunc_impl_Node_impl_Node_impl_Node_impl_Node_111.f
  repeat' first
      | (with_reducible exact ih0 _ _ _)
      | (with_reducible exact impl_SamePools_1.mono _ _ _ _ _ _ _)
      | (with_reducible exact LeO.refl _)
      | (with_reducible exact LeO.none _)
      | (with_reducible refine LeO.ite ?_ ?_)
      | (with_reducible refine LeO.bind ?_ (fun _ => ?_))
      | exact ih0 _ _ _
      | exact impl_SamePools_1.mono _ _ _ _ _ _ _
      | exact LeO.none _
      | refine LeO.ite ?_ ?_
      | refine LeO.bind ?_ (fun _ => ?_)
set_option maxHeartbeats 8000000 in
set_option maxRecDepth 100000 in
theorem q_slices_EqualFunc_impl_Node_impl_Node_impl_Node_impl_Node_111.calls (k : Nat) (A0 : Option Addr) (c0 : Nat) (l0 : List (S146)) (A1 : Option Addr) (c1 : Nat) (l1 : List (S146)) (r : Bool) (w : World) (hr0 : Kd.C k146 w A0 l0.length l0) (hc0 : l0.length ≤ c0) (hr1 : Kd.C k146 w A1 l1.length l1) (hc1 : l1.length ≤ c1) (h : q_slices_EqualFunc_impl_Node_impl_Node_impl_Node_impl_Node_111.f k l0 l1 = some r) :
    Calls Try.prog 110 #[.slice A0 l0.length c0, .slice A1 l1.length c1, .func (.func 111) #[] #[]] w fun e w' => e = .returned (.bool r) ∧ Below w.heap.size w w' := by
  have hu146 := Try.underlying146
  have HR0 := Aside0.mk hr0
  have HC0 := Aside0.mk hc0
  have HR1 := Aside0.mk hr1
  have HC1 := Aside0.mk hc1
  clear hr0 hc0 hr1 hc1
  have HB := Aside0.mk (Below.refl w.heap.size w)
  have H : (if (l0.length : Int) = (l1.length : Int) then (q_slices_EqualFunc_impl_Node_impl_Node_impl_Node_impl_Node_111.l0 k l0 l1 0) else (some false)) = some r := h
  clear h
  go_enter Try.func110, Try.ntmps110
  by_cases c1 : (l0.length : Int) = (l1.length : Int)
  · rw [if_pos c1] at H
    have c1b0 : ((l0.length : Int) == (l1.length : Int)) = true := beq_iff_eq.mpr c1
    have c1b1 : ((l0.length : Int) != (l1.length : Int)) = false := bne_eq_false_iff_eq.mpr c1
    have c1b2 : (l0.length == l1.length) = true := beq_iff_eq.mpr (by omega)
    clear c1
    have H' := Aside0.mk H
    clear H
    go_wp2_with (fail)
    go_loopg [17] k (fun kq v17 w' => ∃ (x1 : Int), v17 = .int .i64 x1 ∧ Aside0 (q_slices_EqualFunc_impl_Node_impl_Node_impl_Node_impl_Node_111.l0 kq l0 l1 x1 = some r) ∧ Aside0 (kq ≤ k) ∧ Aside0 (Below w.heap.size w w'))
    case atStart => exact ⟨(0), (by first | rfl | (simp; done) | (simp [*]; done)), H', ⟨Nat.le_refl _⟩, ⟨by repeat (first | (with_reducible first | exact HB.out | apply below_alloc | apply pw_below_drewN | apply below_drew1) | exact HB.out)⟩⟩
    case round =>
      clear H'
      obtain ⟨x1, rfl, HA, HK1, HB⟩ := hrel
      cases gk with
      | zero => exact absurd HA.out (by simp [q_slices_EqualFunc_impl_Node_impl_Node_impl_Node_impl_Node_111.l0])
      | succ k1 =>
        have H := HA.out
        clear HA
        simp only [q_slices_EqualFunc_impl_Node_impl_Node_impl_Node_impl_Node_111.l0] at H
        by_cases c2 : x1 < (l0.length : Int)
        · rw [if_pos c2] at H
          have c2b0 : decide (x1 < (l0.length : Int)) = true := decide_eq_true c2
          clear c2
          by_cases c3 : 0 ≤ x1
          · rw [if_pos c3] at H
            have c3b0 : decide (0 ≤ x1) = true := decide_eq_true c3
            clear c3
            by_cases c4 : x1 < (l1.length : Int)
            · rw [if_pos c4] at H
              have c4b0 : decide (x1 < (l1.length : Int)) = true := decide_eq_true c4
              clear c4
              replace H := Option.bind_eq_some_iff.mp H
              obtain ⟨t6, A70, H⟩ := H
              replace H : (if t6 = true then (q_slices_EqualFunc_impl_Node_impl_Node_impl_Node_impl_Node_111.l0 k1 l0 l1 (wrap64 (x1 + 1))) else (some false)) = some r := H
              have A7 := Aside0.mk A70
              clear A70
              have p2 : 0 ≤ (x1 : Int) := of_decide_eq_true (by first | (with_reducible assumption) | assumption)
              have q2 : (x1 : Int) < (l0.length : Int) := of_decide_eq_true (by first | (with_reducible assumption) | assumption)
              obtain ⟨ad2, A2_2, c2_2, e2, hx2_0, hx2_1, hx2_2, hl2_2, hi2_2⟩ := at_T146 HR0.out x1 p2 q2
              cases e2
              have HXhx2_0 := Aside0.mk hx2_0
              replace hx2_0 := (HB.out.cell (World.block_lt_of_cell? w _ HXhx2_0.out)).trans HXhx2_0.out
              have HXhx2_1 := Aside0.mk hx2_1
              replace hx2_1 := (HB.out.cell (World.block_lt_of_cell? w _ HXhx2_1.out)).trans HXhx2_1.out
              have HXhx2_2 := Aside0.mk hx2_2
              replace hx2_2 := (HB.out.cell (World.block_lt_of_cell? w _ HXhx2_2.out)).trans HXhx2_2.out
              have HR2_2 := Aside0.mk hi2_2
              have HC2_2 := Aside0.mk hl2_2
              clear hi2_2 hl2_2
              replace p2 := eq_true p2
              replace q2 := eq_true q2
              have p4 : 0 ≤ (x1 : Int) := of_decide_eq_true (by first | (with_reducible assumption) | assumption)
              have q4 : (x1 : Int) < (l1.length : Int) := of_decide_eq_true (by first | (with_reducible assumption) | assumption)
              obtain ⟨ad4, A4_2, c4_2, e4, hx4_0, hx4_1, hx4_2, hl4_2, hi4_2⟩ := at_T146 HR1.out x1 p4 q4
              cases e4
              have HXhx4_0 := Aside0.mk hx4_0
              replace hx4_0 := (HB.out.cell (World.block_lt_of_cell? w _ HXhx4_0.out)).trans HXhx4_0.out
              have HXhx4_1 := Aside0.mk hx4_1
              replace hx4_1 := (HB.out.cell (World.block_lt_of_cell? w _ HXhx4_1.out)).trans HXhx4_1.out
              have HXhx4_2 := Aside0.mk hx4_2
              replace hx4_2 := (HB.out.cell (World.block_lt_of_cell? w _ HXhx4_2.out)).trans HXhx4_2.out
              have HR4_2 := Aside0.mk hi4_2
              have HC4_2 := Aside0.mk hl4_2
              clear hi4_2 hl4_2
              replace p4 := eq_true p4
              replace q4 := eq_true q4
              go_wp2_with (first | ((with_reducible refine gate_dst (N := 8) rfl ?_); refine box_event ?hg (N := 8) ?hd (cs := #[.int .i64 0, .bool false, .slice none 0 0]) (t := 146) ?hr ?_; (case hd => rfl); (case hg => rfl); (case hr => first | (go_simp; done) | (go_simp; rfl)); intro gb3 hg w1001 hbox hb; have n0_ := Aside0.mk (below_step (by repeat (first | (with_reducible first | exact HB.out | apply below_alloc | apply pw_below_drewN | apply below_drew1) | exact HB.out)) hb); have GEgb3 := Aside0.mk ((by rw [hg]; exact (below_size (by repeat (first | (with_reducible first | exact HB.out | apply below_alloc | apply pw_below_drewN | apply below_drew1) | exact HB.out))) : w.heap.size ≤ gb3)); clear HB; have HB := n0_; clear n0_; replace hx2_0 := (HB.out.cell (World.block_lt_of_cell? w _ HXhx2_0.out)).trans HXhx2_0.out; replace hx2_1 := (HB.out.cell (World.block_lt_of_cell? w _ HXhx2_1.out)).trans HXhx2_1.out; replace hx2_2 := (HB.out.cell (World.block_lt_of_cell? w _ HXhx2_2.out)).trans HXhx2_2.out; replace hx4_0 := (HB.out.cell (World.block_lt_of_cell? w _ HXhx4_0.out)).trans HXhx4_0.out; replace hx4_1 := (HB.out.cell (World.block_lt_of_cell? w _ HXhx4_1.out)).trans HXhx4_1.out; replace hx4_2 := (HB.out.cell (World.block_lt_of_cell? w _ HXhx4_2.out)).trans HXhx4_2.out; have BKgb3 := Aside0.mk hbox; have hxgb3_0 : _ = some (.int .i64 0 : Value) := (blk_cell BKgb3.out 0).trans rfl; have hfgb3_0 := blk_frozen BKgb3.out 0; have hxgb3_1 : _ = some (.bool false : Value) := (blk_cell BKgb3.out 1).trans rfl; have hfgb3_1 := blk_frozen BKgb3.out 1; have hxgb3_2 : _ = some (.slice none 0 0 : Value) := (blk_cell BKgb3.out 2).trans rfl; have hfgb3_2 := blk_frozen BKgb3.out 2; clear hb hbox hg) | (refine store_box gb3 0 [.int .i64 ((rd_T146 l0 x1).f0), .bool ((rd_T146 l0 x1).f1), .slice A2_2 ((rd_T146 l0 x1).f2).length c2_2] (t := 146) (p := 8) (v := ?vo_w1002) ?hg ?ho ?hn ?hr ?_; (case ho => rfl); (case hg => rfl); (case hn => rfl); (case hr => simp only [setRow, Nat.reduceAdd]; first | (go_simp; done) | (go_simp; rfl)); intro w1002 hw; simp only [setRow, Nat.reduceAdd] at hw; have n0_ := Aside0.mk (by rw [hw]; repeat (first | exact HB.out | refine below_set ?_ GEgb3.out | apply pw_below_drewN | apply below_drew1) : Below w.heap.size w w1002); have n1_ := Aside0.mk (by rw [hw]; (with_reducible repeat (first | refine blk_drewN ?_ _ | refine blk_drew ?_ | refine blk_alloc ?_ _)); refine blk_put (cs := #[.int .i64 ((rd_T146 l0 x1).f0), .bool ((rd_T146 l0 x1).f1), .slice none 0 0]) ?_ 2 _ rfl; (with_reducible repeat (first | refine blk_drewN ?_ _ | refine blk_drew ?_ | refine blk_alloc ?_ _)); refine blk_put (cs := #[.int .i64 ((rd_T146 l0 x1).f0), .bool false, .slice none 0 0]) ?_ 1 _ rfl; (with_reducible repeat (first | refine blk_drewN ?_ _ | refine blk_drew ?_ | refine blk_alloc ?_ _)); refine blk_put (cs := #[.int .i64 0, .bool false, .slice none 0 0]) ?_ 0 _ rfl; (with_reducible repeat (first | refine blk_drewN ?_ _ | refine blk_drew ?_ | refine blk_alloc ?_ _)); exact BKgb3.out : w1002.heap[gb3]? = some (Obj.cells #[.int .i64 ((rd_T146 l0 x1).f0), .bool ((rd_T146 l0 x1).f1), .slice A2_2 ((rd_T146 l0 x1).f2).length c2_2] 146 (0, 0))); clear HB BKgb3; have HB := n0_; have BKgb3 := n1_; clear n0_ n1_; replace hx2_0 := (HB.out.cell (World.block_lt_of_cell? w _ HXhx2_0.out)).trans HXhx2_0.out; replace hx2_1 := (HB.out.cell (World.block_lt_of_cell? w _ HXhx2_1.out)).trans HXhx2_1.out; replace hx2_2 := (HB.out.cell (World.block_lt_of_cell? w _ HXhx2_2.out)).trans HXhx2_2.out; replace hx4_0 := (HB.out.cell (World.block_lt_of_cell? w _ HXhx4_0.out)).trans HXhx4_0.out; replace hx4_1 := (HB.out.cell (World.block_lt_of_cell? w _ HXhx4_1.out)).trans HXhx4_1.out; replace hx4_2 := (HB.out.cell (World.block_lt_of_cell? w _ HXhx4_2.out)).trans HXhx4_2.out; replace hxgb3_0 : _ = some (.int .i64 ((rd_T146 l0 x1).f0) : Value) := (blk_cell BKgb3.out 0).trans rfl; replace hfgb3_0 := blk_frozen BKgb3.out 0; replace hxgb3_1 : _ = some (.bool ((rd_T146 l0 x1).f1) : Value) := (blk_cell BKgb3.out 1).trans rfl; replace hfgb3_1 := blk_frozen BKgb3.out 1; replace hxgb3_2 : _ = some (.slice A2_2 ((rd_T146 l0 x1).f2).length c2_2 : Value) := (blk_cell BKgb3.out 2).trans rfl; replace hfgb3_2 := blk_frozen BKgb3.out 2; clear hw) | ((with_reducible refine gate_dst (N := 9) rfl ?_); refine box_event ?hg (N := 9) ?hd (cs := #[.int .i64 0, .bool false, .slice none 0 0]) (t := 146) ?hr ?_; (case hd => rfl); (case hg => rfl); (case hr => first | (go_simp; done) | (go_simp; rfl)); intro gb5 hg w1003 hbox hb; have NBgb3_gb5 := Aside0.mk (by rw [hg]; exact Nat.ne_of_lt (blk_lt BKgb3.out) : gb3 ≠ gb5); have n0_ := Aside0.mk (below_step (by repeat (first | (with_reducible first | exact HB.out | apply below_alloc | apply pw_below_drewN | apply below_drew1) | exact HB.out)) hb); have GEgb5 := Aside0.mk ((by rw [hg]; exact (below_size (by repeat (first | (with_reducible first | exact HB.out | apply below_alloc | apply pw_below_drewN | apply below_drew1) | exact HB.out))) : w.heap.size ≤ gb5)); clear HB; have HB := n0_; clear n0_; replace hx2_0 := (HB.out.cell (World.block_lt_of_cell? w _ HXhx2_0.out)).trans HXhx2_0.out; replace hx2_1 := (HB.out.cell (World.block_lt_of_cell? w _ HXhx2_1.out)).trans HXhx2_1.out; replace hx2_2 := (HB.out.cell (World.block_lt_of_cell? w _ HXhx2_2.out)).trans HXhx2_2.out; replace hx4_0 := (HB.out.cell (World.block_lt_of_cell? w _ HXhx4_0.out)).trans HXhx4_0.out; replace hx4_1 := (HB.out.cell (World.block_lt_of_cell? w _ HXhx4_1.out)).trans HXhx4_1.out; replace hx4_2 := (HB.out.cell (World.block_lt_of_cell? w _ HXhx4_2.out)).trans HXhx4_2.out; have n_ := Aside0.mk (blk_belowR hb BKgb3.out); clear BKgb3; have BKgb3 := n_; clear n_; replace hxgb3_0 : _ = some (.int .i64 ((rd_T146 l0 x1).f0) : Value) := (blk_cell BKgb3.out 0).trans rfl; replace hfgb3_0 := blk_frozen BKgb3.out 0; replace hxgb3_1 : _ = some (.bool ((rd_T146 l0 x1).f1) : Value) := (blk_cell BKgb3.out 1).trans rfl; replace hfgb3_1 := blk_frozen BKgb3.out 1; replace hxgb3_2 : _ = some (.slice A2_2 ((rd_T146 l0 x1).f2).length c2_2 : Value) := (blk_cell BKgb3.out 2).trans rfl; replace hfgb3_2 := blk_frozen BKgb3.out 2; have BKgb5 := Aside0.mk hbox; have hxgb5_0 : _ = some (.int .i64 0 : Value) := (blk_cell BKgb5.out 0).trans rfl; have hfgb5_0 := blk_frozen BKgb5.out 0; have hxgb5_1 : _ = some (.bool false : Value) := (blk_cell BKgb5.out 1).trans rfl; have hfgb5_1 := blk_frozen BKgb5.out 1; have hxgb5_2 : _ = some (.slice none 0 0 : Value) := (blk_cell BKgb5.out 2).trans rfl; have hfgb5_2 := blk_frozen BKgb5.out 2; clear hb hbox hg) | (refine store_box gb5 0 [.int .i64 ((rd_T146 l1 x1).f0), .bool ((rd_T146 l1 x1).f1), .slice A4_2 ((rd_T146 l1 x1).f2).length c4_2] (t := 146) (p := 9) (v := ?vo_w1004) ?hg ?ho ?hn ?hr ?_; (case ho => rfl); (case hg => rfl); (case hn => rfl); (case hr => simp only [setRow, Nat.reduceAdd]; first | (go_simp; done) | (go_simp; rfl)); intro w1004 hw; simp only [setRow, Nat.reduceAdd] at hw; have n0_ := Aside0.mk (by rw [hw]; repeat (first | exact HB.out | refine below_set ?_ GEgb5.out | apply pw_below_drewN | apply below_drew1) : Below w.heap.size w w1004); have n1_ := Aside0.mk (by rw [hw]; (with_reducible repeat (first | refine blk_drewN ?_ _ | refine blk_drew ?_ | refine blk_alloc ?_ _)); refine blk_put (cs := #[.int .i64 ((rd_T146 l1 x1).f0), .bool ((rd_T146 l1 x1).f1), .slice none 0 0]) ?_ 2 _ rfl; (with_reducible repeat (first | refine blk_drewN ?_ _ | refine blk_drew ?_ | refine blk_alloc ?_ _)); refine blk_put (cs := #[.int .i64 ((rd_T146 l1 x1).f0), .bool false, .slice none 0 0]) ?_ 1 _ rfl; (with_reducible repeat (first | refine blk_drewN ?_ _ | refine blk_drew ?_ | refine blk_alloc ?_ _)); refine blk_put (cs := #[.int .i64 0, .bool false, .slice none 0 0]) ?_ 0 _ rfl; (with_reducible repeat (first | refine blk_drewN ?_ _ | refine blk_drew ?_ | refine blk_alloc ?_ _)); exact BKgb5.out : w1004.heap[gb5]? = some (Obj.cells #[.int .i64 ((rd_T146 l1 x1).f0), .bool ((rd_T146 l1 x1).f1), .slice A4_2 ((rd_T146 l1 x1).f2).length c4_2] 146 (0, 0))); clear HB BKgb5; have HB := n0_; have BKgb5 := n1_; clear n0_ n1_; replace hx2_0 := (HB.out.cell (World.block_lt_of_cell? w _ HXhx2_0.out)).trans HXhx2_0.out; replace hx2_1 := (HB.out.cell (World.block_lt_of_cell? w _ HXhx2_1.out)).trans HXhx2_1.out; replace hx2_2 := (HB.out.cell (World.block_lt_of_cell? w _ HXhx2_2.out)).trans HXhx2_2.out; replace hx4_0 := (HB.out.cell (World.block_lt_of_cell? w _ HXhx4_0.out)).trans HXhx4_0.out; replace hx4_1 := (HB.out.cell (World.block_lt_of_cell? w _ HXhx4_1.out)).trans HXhx4_1.out; replace hx4_2 := (HB.out.cell (World.block_lt_of_cell? w _ HXhx4_2.out)).trans HXhx4_2.out; have n_ := Aside0.mk ((by rw [hw]; (repeat (first | refine blk_drewN ?_ _ | refine blk_far ?_ NBgb3_gb5.out _)); exact BKgb3.out : w1004.heap[gb3]? = some (Obj.cells #[.int .i64 ((rd_T146 l0 x1).f0), .bool ((rd_T146 l0 x1).f1), .slice A2_2 ((rd_T146 l0 x1).f2).length c2_2] 146 (0, 0)))); clear BKgb3; have BKgb3 := n_; clear n_; replace hxgb3_0 : _ = some (.int .i64 ((rd_T146 l0 x1).f0) : Value) := (blk_cell BKgb3.out 0).trans rfl; replace hfgb3_0 := blk_frozen BKgb3.out 0; replace hxgb3_1 : _ = some (.bool ((rd_T146 l0 x1).f1) : Value) := (blk_cell BKgb3.out 1).trans rfl; replace hfgb3_1 := blk_frozen BKgb3.out 1; replace hxgb3_2 : _ = some (.slice A2_2 ((rd_T146 l0 x1).f2).length c2_2 : Value) := (blk_cell BKgb3.out 2).trans rfl; replace hfgb3_2 := blk_frozen BKgb3.out 2; replace hxgb5_0 : _ = some (.int .i64 ((rd_T146 l1 x1).f0) : Value) := (blk_cell BKgb5.out 0).trans rfl; replace hfgb5_0 := blk_frozen BKgb5.out 0; replace hxgb5_1 : _ = some (.bool ((rd_T146 l1 x1).f1) : Value) := (blk_cell BKgb5.out 1).trans rfl; replace hfgb5_1 := blk_frozen BKgb5.out 1; replace hxgb5_2 : _ = some (.slice A4_2 ((rd_T146 l1 x1).f2).length c4_2 : Value) := (blk_cell BKgb5.out 2).trans rfl; replace hfgb5_2 := blk_frozen BKgb5.out 2; clear hw))
              go_at_call 111
              (with_reducible refine (impl_SamePools_1.calls k1 ((rd_T146 l0 x1).f0) ((rd_T146 l0 x1).f1) A2_2 c2_2 ((rd_T146 l0 x1).f2) ((rd_T146 l1 x1).f0) ((rd_T146 l1 x1).f1) A4_2 c4_2 ((rd_T146 l1 x1).f2) t6 _ ?side1 ?side2 ?side3 ?side4 A7.out).mono ?_)
              (case side1 => repeat (first | exact (Kd.C_below HR2_2.out HB.out) | (with_reducible refine Kd.C_alloc ?_ _) | (with_reducible refine Kd.C_drewN ?_ _) | (with_reducible refine Kd.C_drew ?_)))
              (case side2 => exact HC2_2.out)
              (case side3 => repeat (first | exact (Kd.C_below HR4_2.out HB.out) | (with_reducible refine Kd.C_alloc ?_ _) | (with_reducible refine Kd.C_drewN ?_ _) | (with_reducible refine Kd.C_drew ?_)))
              (case side4 => exact HC4_2.out)
              rintro e w1005 ⟨rfl, hb⟩; have n0_ := Aside0.mk (below_step (by repeat (first | (with_reducible first | exact HB.out | apply below_alloc | apply pw_below_drewN | apply below_drew1) | exact HB.out)) hb); clear HB; have HB := n0_; clear n0_; replace hx2_0 := (HB.out.cell (World.block_lt_of_cell? w _ HXhx2_0.out)).trans HXhx2_0.out; replace hx2_1 := (HB.out.cell (World.block_lt_of_cell? w _ HXhx2_1.out)).trans HXhx2_1.out; replace hx2_2 := (HB.out.cell (World.block_lt_of_cell? w _ HXhx2_2.out)).trans HXhx2_2.out; replace hx4_0 := (HB.out.cell (World.block_lt_of_cell? w _ HXhx4_0.out)).trans HXhx4_0.out; replace hx4_1 := (HB.out.cell (World.block_lt_of_cell? w _ HXhx4_1.out)).trans HXhx4_1.out; replace hx4_2 := (HB.out.cell (World.block_lt_of_cell? w _ HXhx4_2.out)).trans HXhx4_2.out; have n_ := Aside0.mk (blk_belowR hb BKgb3.out); clear BKgb3; have BKgb3 := n_; clear n_; replace hxgb3_0 : _ = some (.int .i64 ((rd_T146 l0 x1).f0) : Value) := (blk_cell BKgb3.out 0).trans rfl; replace hfgb3_0 := blk_frozen BKgb3.out 0; replace hxgb3_1 : _ = some (.bool ((rd_T146 l0 x1).f1) : Value) := (blk_cell BKgb3.out 1).trans rfl; replace hfgb3_1 := blk_frozen BKgb3.out 1; replace hxgb3_2 : _ = some (.slice A2_2 ((rd_T146 l0 x1).f2).length c2_2 : Value) := (blk_cell BKgb3.out 2).trans rfl; replace hfgb3_2 := blk_frozen BKgb3.out 2; have n_ := Aside0.mk (blk_belowR hb BKgb5.out); clear BKgb5; have BKgb5 := n_; clear n_; replace hxgb5_0 : _ = some (.int .i64 ((rd_T146 l1 x1).f0) : Value) := (blk_cell BKgb5.out 0).trans rfl; replace hfgb5_0 := blk_frozen BKgb5.out 0; replace hxgb5_1 : _ = some (.bool ((rd_T146 l1 x1).f1) : Value) := (blk_cell BKgb5.out 1).trans rfl; replace hfgb5_1 := blk_frozen BKgb5.out 1; replace hxgb5_2 : _ = some (.slice A4_2 ((rd_T146 l1 x1).f2).length c4_2 : Value) := (blk_cell BKgb5.out 2).trans rfl; replace hfgb5_2 := blk_frozen BKgb5.out 2; (try clear hb)
              by_cases c5 : t6 = true
              · rw [if_pos c5] at H
                have c5b0 : t6 = true := c5
                try clear c5
                have H' := Aside0.mk H
                clear H
                go_wp2_with (fail)
                go_roundg k1
                case measure => have := HK1.out; omega
                case rel => exact ⟨((wrap64 (x1 + 1))), (by first | rfl | (simp; done) | (simp [*]; done)), H', ⟨by have := HK1.out; omega⟩, ⟨by repeat (first | (with_reducible first | exact HB.out | apply below_alloc | apply pw_below_drewN | apply below_drew1) | exact HB.out)⟩⟩
              · rw [if_neg c5] at H
                have c5b0 : t6 = false := (Bool.eq_false_iff.2 c5)
                try clear c5
                obtain rfl := Option.some.inj H
                go_wp2_with (fail)
                go_ret
                exact ⟨by first | rfl | (simp <;> rfl) | (simp [*] <;> rfl), by repeat (first | (with_reducible first | exact HB.out | apply below_alloc | apply pw_below_drewN | apply below_drew1 | refine below_set ?_ GEgb3.out | refine below_set ?_ GEgb5.out) | exact HB.out)⟩
            · rw [if_neg c4] at H
              exact absurd H (by simp)
          · rw [if_neg c3] at H
            exact absurd H (by simp)
        · rw [if_neg c2] at H
          have c2b0 : decide (x1 < (l0.length : Int)) = false := decide_eq_false c2
          clear c2
          obtain rfl := Option.some.inj H
          go_wp2_with (fail)
          go_ret
          exact ⟨by first | rfl | (simp <;> rfl) | (simp [*] <;> rfl), by repeat (first | (with_reducible first | exact HB.out | apply below_alloc | apply pw_below_drewN | apply below_drew1) | exact HB.out)⟩
  · rw [if_neg c1] at H
    have c1b0 : ((l0.length : Int) == (l1.length : Int)) = false := beq_eq_false_iff_ne.mpr c1
    have c1b1 : ((l0.length : Int) != (l1.length : Int)) = true := bne_iff_ne.mpr c1
    have c1b2 : (l0.length == l1.length) = false := beq_eq_false_iff_ne.mpr (by omega)
    obtain rfl := Option.some.inj H
    go_wp2_with (fail)
    go_ret
    exact ⟨by first | rfl | (simp <;> rfl) | (simp [*] <;> rfl), by repeat (first | (with_reducible first | exact HB.out | apply below_alloc | apply pw_below_drewN | apply below_drew1) | exact HB.out)⟩

/-! ### impl_SamePools: function 62 -/
def impl_SamePools.f (k : Nat) (l0_0 : List (S146)) (l0_1 : List (S143)) (l0_2 : List (S125)) (l1_0 : List (S146)) (l1_1 : List (S143)) (l1_2 : List (S125)) : Option (Bool) := (impl_Vol.f k l0_2 l1_2).bind fun t3 => (if t3 = true then ((impl_Block.f k l0_1 l1_1).bind fun t5 => (if t5 = true then ((q_slices_EqualFunc_impl_Node_impl_Node_impl_Node_impl_Node_111.f k l0_0 l1_0).bind fun t7 => (some t7)) else (some false))) else (some false))
theorem impl_SamePools.mono : ∀ a0 a1 a2 a3 a4 a5 k, LeO (impl_SamePools.f k a0 a1 a2 a3 a4 a5) (impl_SamePools.f (k + 1) a0 a1 a2 a3 a4 a5) := by
  intro a0 a1 a2 a3 a4 a5 k
  unfold impl_SamePools.f
  repeat' first
      | (with_reducible exact impl_Block.mono _ _ _)
      | (with_reducible exact impl_Vol.mono _ _ _)
      | (with_reducible exact q_slices_EqualFunc_impl_Node_impl_Node_impl_Node_impl_Node_111.mono _ _ _)
      | (with_reducible exact LeO.refl _)
      | (with_reducible exact LeO.none _)
      | (with_reducible refine LeO.ite ?_ ?_)
      | (with_reducible refine LeO.bind ?_ (fun _ => ?_))
      | exact impl_Block.mono _ _ _
      | exact impl_Vol.mono _ _ _
      | exact q_slices_EqualFunc_impl_Node_impl_Node_impl_Node_impl_Node_111.mono _ _ _
      | exact LeO.none _
      | refine LeO.ite ?_ ?_
      | refine LeO.bind ?_ (fun _ => ?_)
set_option maxHeartbeats 8000000 in
set_option maxRecDepth 100000 in
theorem impl_SamePools.calls (k : Nat) (A0_0 : Option Addr) (c0_0 : Nat) (l0_0 : List (S146)) (A0_1 : Option Addr) (c0_1 : Nat) (l0_1 : List (S143)) (A0_2 : Option Addr) (c0_2 : Nat) (l0_2 : List (S125)) (A1_0 : Option Addr) (c1_0 : Nat) (l1_0 : List (S146)) (A1_1 : Option Addr) (c1_1 : Nat) (l1_1 : List (S143)) (A1_2 : Option Addr) (c1_2 : Nat) (l1_2 : List (S125)) (r : Bool) (w : World) (hr0_0 : Kd.C k146 w A0_0 l0_0.length l0_0) (hc0_0 : l0_0.length ≤ c0_0) (hr0_1 : Kd.C k143 w A0_1 l0_1.length l0_1) (hc0_1 : l0_1.length ≤ c0_1) (hr0_2 : Kd.C k125 w A0_2 l0_2.length l0_2) (hc0_2 : l0_2.length ≤ c0_2) (hr1_0 : Kd.C k146 w A1_0 l1_0.length l1_0) (hc1_0 : l1_0.length ≤ c1_0) (hr1_1 : Kd.C k143 w A1_1 l1_1.length l1_1) (hc1_1 : l1_1.length ≤ c1_1) (hr1_2 : Kd.C k125 w A1_2 l1_2.length l1_2) (hc1_2 : l1_2.length ≤ c1_2) (h : impl_SamePools.f k l0_0 l0_1 l0_2 l1_0 l1_1 l1_2 = some r) :
    Calls Try.prog 62 #[.agg #[.slice A0_0 l0_0.length c0_0, .slice A0_1 l0_1.length c0_1, .slice A0_2 l0_2.length c0_2], .agg #[.slice A1_0 l1_0.length c1_0, .slice A1_1 l1_1.length c1_1, .slice A1_2 l1_2.length c1_2]] w fun e w' => e = .returned (.bool r) ∧ Below w.heap.size w w' := by
  have hu55 := Try.underlying55
  have hu57 := Try.underlying57
  have HR0_0 := Aside0.mk hr0_0
  have HC0_0 := Aside0.mk hc0_0
  have HR0_1 := Aside0.mk hr0_1
  have HC0_1 := Aside0.mk hc0_1
  have HR0_2 := Aside0.mk hr0_2
  have HC0_2 := Aside0.mk hc0_2
  have HR1_0 := Aside0.mk hr1_0
  have HC1_0 := Aside0.mk hc1_0
  have HR1_1 := Aside0.mk hr1_1
  have HC1_1 := Aside0.mk hc1_1
  have HR1_2 := Aside0.mk hr1_2
  have HC1_2 := Aside0.mk hc1_2
  clear hr0_0 hc0_0 hr0_1 hc0_1 hr0_2 hc0_2 hr1_0 hc1_0 hr1_1 hc1_1 hr1_2 hc1_2
  have HB := Aside0.mk (Below.refl w.heap.size w)
  have H : ((impl_Vol.f k l0_2 l1_2).bind fun t3 => (if t3 = true then ((impl_Block.f k l0_1 l1_1).bind fun t5 => (if t5 = true then ((q_slices_EqualFunc_impl_Node_impl_Node_impl_Node_impl_Node_111.f k l0_0 l1_0).bind fun t7 => (some t7)) else (some false))) else (some false))) = some r := h
  clear h
  go_enter Try.func62, Try.ntmps62
  replace H := Option.bind_eq_some_iff.mp H
  obtain ⟨t3, A40, H⟩ := H
  replace H : (if t3 = true then ((impl_Block.f k l0_1 l1_1).bind fun t5 => (if t5 = true then ((q_slices_EqualFunc_impl_Node_impl_Node_impl_Node_impl_Node_111.f k l0_0 l1_0).bind fun t7 => (some t7)) else (some false))) else (some false)) = some r := H
  have A4 := Aside0.mk A40
  clear A40
  go_wp2_with (first | ((with_reducible refine gate_dst (N := 2) rfl ?_); refine box_event ?hg (N := 2) ?hd (cs := #[.slice A0_0 l0_0.length c0_0, .slice A0_1 l0_1.length c0_1, .slice A0_2 l0_2.length c0_2]) (t := 57) ?hr ?_; (case hd => rfl); (case hg => rfl); (case hr => first | (go_simp; done) | (go_simp; rfl)); intro gb1 hg w1001 hbox hb; have n0_ := Aside0.mk (below_step (by repeat (first | (with_reducible first | exact HB.out | apply below_alloc | apply pw_below_drewN | apply below_drew1) | exact HB.out)) hb); have GEgb1 := Aside0.mk ((by rw [hg]; exact (below_size (by repeat (first | (with_reducible first | exact HB.out | apply below_alloc | apply pw_below_drewN | apply below_drew1) | exact HB.out))) : w.heap.size ≤ gb1)); clear HB; have HB := n0_; clear n0_; have BKgb1 := Aside0.mk hbox; have hxgb1_0 : _ = some (.slice A0_0 l0_0.length c0_0 : Value) := (blk_cell BKgb1.out 0).trans rfl; have hfgb1_0 := blk_frozen BKgb1.out 0; have hxgb1_1 : _ = some (.slice A0_1 l0_1.length c0_1 : Value) := (blk_cell BKgb1.out 1).trans rfl; have hfgb1_1 := blk_frozen BKgb1.out 1; have hxgb1_2 : _ = some (.slice A0_2 l0_2.length c0_2 : Value) := (blk_cell BKgb1.out 2).trans rfl; have hfgb1_2 := blk_frozen BKgb1.out 2; clear hb hbox hg) | ((with_reducible refine gate_dst (N := 3) rfl ?_); refine box_event ?hg (N := 3) ?hd (cs := #[.slice A1_0 l1_0.length c1_0, .slice A1_1 l1_1.length c1_1, .slice A1_2 l1_2.length c1_2]) (t := 57) ?hr ?_; (case hd => rfl); (case hg => rfl); (case hr => first | (go_simp; done) | (go_simp; rfl)); intro gb2 hg w1002 hbox hb; have NBgb1_gb2 := Aside0.mk (by rw [hg]; exact Nat.ne_of_lt (blk_lt BKgb1.out) : gb1 ≠ gb2); have n0_ := Aside0.mk (below_step (by repeat (first | (with_reducible first | exact HB.out | apply below_alloc | apply pw_below_drewN | apply below_drew1) | exact HB.out)) hb); have GEgb2 := Aside0.mk ((by rw [hg]; exact (below_size (by repeat (first | (with_reducible first | exact HB.out | apply below_alloc | apply pw_below_drewN | apply below_drew1) | exact HB.out))) : w.heap.size ≤ gb2)); clear HB; have HB := n0_; clear n0_; have n_ := Aside0.mk (blk_belowR hb BKgb1.out); clear BKgb1; have BKgb1 := n_; clear n_; replace hxgb1_0 : _ = some (.slice A0_0 l0_0.length c0_0 : Value) := (blk_cell BKgb1.out 0).trans rfl; replace hfgb1_0 := blk_frozen BKgb1.out 0; replace hxgb1_1 : _ = some (.slice A0_1 l0_1.length c0_1 : Value) := (blk_cell BKgb1.out 1).trans rfl; replace hfgb1_1 := blk_frozen BKgb1.out 1; replace hxgb1_2 : _ = some (.slice A0_2 l0_2.length c0_2 : Value) := (blk_cell BKgb1.out 2).trans rfl; replace hfgb1_2 := blk_frozen BKgb1.out 2; have BKgb2 := Aside0.mk hbox; have hxgb2_0 : _ = some (.slice A1_0 l1_0.length c1_0 : Value) := (blk_cell BKgb2.out 0).trans rfl; have hfgb2_0 := blk_frozen BKgb2.out 0; have hxgb2_1 : _ = some (.slice A1_1 l1_1.length c1_1 : Value) := (blk_cell BKgb2.out 1).trans rfl; have hfgb2_1 := blk_frozen BKgb2.out 1; have hxgb2_2 : _ = some (.slice A1_2 l1_2.length c1_2 : Value) := (blk_cell BKgb2.out 2).trans rfl; have hfgb2_2 := blk_frozen BKgb2.out 2; clear hb hbox hg))
  go_at_call 108
  (with_reducible refine (impl_Vol.calls k A0_2 c0_2 l0_2 A1_2 c1_2 l1_2 t3 _ ?side1 ?side2 ?side3 ?side4 A4.out).mono ?_)
  (case side1 => repeat (first | exact (Kd.C_below HR0_2.out HB.out) | (with_reducible refine Kd.C_alloc ?_ _) | (with_reducible refine Kd.C_drewN ?_ _) | (with_reducible refine Kd.C_drew ?_)))
  (case side2 => exact HC0_2.out)
  (case side3 => repeat (first | exact (Kd.C_below HR1_2.out HB.out) | (with_reducible refine Kd.C_alloc ?_ _) | (with_reducible refine Kd.C_drewN ?_ _) | (with_reducible refine Kd.C_drew ?_)))
  (case side4 => exact HC1_2.out)
  rintro e w1003 ⟨rfl, ⟨nd, rfl⟩⟩
  by_cases c1 : t3 = true
  · rw [if_pos c1] at H
    have c1b0 : t3 = true := c1
    try clear c1
    replace H := Option.bind_eq_some_iff.mp H
    obtain ⟨t5, A60, H⟩ := H
    replace H : (if t5 = true then ((q_slices_EqualFunc_impl_Node_impl_Node_impl_Node_impl_Node_111.f k l0_0 l1_0).bind fun t7 => (some t7)) else (some false)) = some r := H
    have A6 := Aside0.mk A60
    clear A60
    go_wp2_with (fail)
    go_at_call 109
    (with_reducible refine (impl_Block.calls k A0_1 c0_1 l0_1 A1_1 c1_1 l1_1 t5 _ ?side1 ?side2 ?side3 ?side4 A6.out).mono ?_)
    (case side1 => repeat (first | exact (Kd.C_below HR0_1.out HB.out) | (with_reducible refine Kd.C_alloc ?_ _) | (with_reducible refine Kd.C_drewN ?_ _) | (with_reducible refine Kd.C_drew ?_)))
    (case side2 => exact HC0_1.out)
    (case side3 => repeat (first | exact (Kd.C_below HR1_1.out HB.out) | (with_reducible refine Kd.C_alloc ?_ _) | (with_reducible refine Kd.C_drewN ?_ _) | (with_reducible refine Kd.C_drew ?_)))
    (case side4 => exact HC1_1.out)
    rintro e w1004 ⟨rfl, ⟨nd, rfl⟩⟩
    by_cases c2 : t5 = true
    · rw [if_pos c2] at H
      have c2b0 : t5 = true := c2
      try clear c2
      replace H := Option.bind_eq_some_iff.mp H
      obtain ⟨t7, A80, H⟩ := H
      replace H : (some t7) = some r := H
      have A8 := Aside0.mk A80
      clear A80
      go_wp2_with (fail)
      go_at_call 110
      (with_reducible refine (q_slices_EqualFunc_impl_Node_impl_Node_impl_Node_impl_Node_111.calls k A0_0 c0_0 l0_0 A1_0 c1_0 l1_0 t7 _ ?side1 ?side2 ?side3 ?side4 A8.out).mono ?_)
      (case side1 => repeat (first | exact (Kd.C_below HR0_0.out HB.out) | (with_reducible refine Kd.C_alloc ?_ _) | (with_reducible refine Kd.C_drewN ?_ _) | (with_reducible refine Kd.C_drew ?_)))
      (case side2 => exact HC0_0.out)
      (case side3 => repeat (first | exact (Kd.C_below HR1_0.out HB.out) | (with_reducible refine Kd.C_alloc ?_ _) | (with_reducible refine Kd.C_drewN ?_ _) | (with_reducible refine Kd.C_drew ?_)))
      (case side4 => exact HC1_0.out)
      rintro e w1005 ⟨rfl, hb⟩; have n0_ := Aside0.mk (below_step (by repeat (first | (with_reducible first | exact HB.out | apply below_alloc | apply pw_below_drewN | apply below_drew1) | exact HB.out)) hb); clear HB; have HB := n0_; clear n0_; have n_ := Aside0.mk (blk_belowR hb BKgb1.out); clear BKgb1; have BKgb1 := n_; clear n_; replace hxgb1_0 : _ = some (.slice A0_0 l0_0.length c0_0 : Value) := (blk_cell BKgb1.out 0).trans rfl; replace hfgb1_0 := blk_frozen BKgb1.out 0; replace hxgb1_1 : _ = some (.slice A0_1 l0_1.length c0_1 : Value) := (blk_cell BKgb1.out 1).trans rfl; replace hfgb1_1 := blk_frozen BKgb1.out 1; replace hxgb1_2 : _ = some (.slice A0_2 l0_2.length c0_2 : Value) := (blk_cell BKgb1.out 2).trans rfl; replace hfgb1_2 := blk_frozen BKgb1.out 2; have n_ := Aside0.mk (blk_belowR hb BKgb2.out); clear BKgb2; have BKgb2 := n_; clear n_; replace hxgb2_0 : _ = some (.slice A1_0 l1_0.length c1_0 : Value) := (blk_cell BKgb2.out 0).trans rfl; replace hfgb2_0 := blk_frozen BKgb2.out 0; replace hxgb2_1 : _ = some (.slice A1_1 l1_1.length c1_1 : Value) := (blk_cell BKgb2.out 1).trans rfl; replace hfgb2_1 := blk_frozen BKgb2.out 1; replace hxgb2_2 : _ = some (.slice A1_2 l1_2.length c1_2 : Value) := (blk_cell BKgb2.out 2).trans rfl; replace hfgb2_2 := blk_frozen BKgb2.out 2; (try clear hb)
      obtain rfl := Option.some.inj H
      go_wp2_with (fail)
      go_ret
      exact ⟨by first | rfl | (simp <;> rfl) | (simp [*] <;> rfl), by repeat (first | (with_reducible first | exact HB.out | apply below_alloc | apply pw_below_drewN | apply below_drew1 | refine below_set ?_ GEgb1.out | refine below_set ?_ GEgb2.out) | exact HB.out)⟩
    · rw [if_neg c2] at H
      have c2b0 : t5 = false := (Bool.eq_false_iff.2 c2)
      try clear c2
      obtain rfl := Option.some.inj H
      go_wp2_with (fail)
      go_ret
      exact ⟨by first | rfl | (simp <;> rfl) | (simp [*] <;> rfl), by repeat (first | (with_reducible first | exact HB.out | apply below_alloc | apply pw_below_drewN | apply below_drew1 | refine below_set ?_ GEgb1.out | refine below_set ?_ GEgb2.out) | exact HB.out)⟩
  · rw [if_neg c1] at H
    have c1b0 : t3 = false := (Bool.eq_false_iff.2 c1)
    try clear c1
    obtain rfl := Option.some.inj H
    go_wp2_with (fail)
    go_ret
    exact ⟨by first | rfl | (simp <;> rfl) | (simp [*] <;> rfl), by repeat (first | (with_reducible first | exact HB.out | apply below_alloc | apply pw_below_drewN | apply below_drew1 | refine below_set ?_ GEgb1.out | refine below_set ?_ GEgb2.out) | exact HB.out)⟩

/-! ### impl_Session: function 63 -/
def impl_Session.l0 : Nat → List (S108) → List (S108) → Int → Int → Option (Bool)
  | 0, _, _, _, _ => none
  | k + 1, x0, x1, x12, x13 => if x13 < x12 then (if 0 ≤ x13 then (if x13 < (x0.length : Int) then (if x13 < (x1.length : Int) then (if (!(((rd_T108 x0 x13).f0) == ((rd_T108 x1 x13).f0)) || (!(((rd_T108 x0 x13).f1) == ((rd_T108 x1 x13).f1)) || (!(((rd_T108 x0 x13).f2) == ((rd_T108 x1 x13).f2)) || (!(((rd_T108 x0 x13).f3) == ((rd_T108 x1 x13).f3)))))) = true then (some false) else (impl_Session.l0 k x0 x1 x12 (wrap64 (x13 + 1)))) else (none)) else (none)) else (none)) else (some true)
def impl_Session.f (k : Nat) (l0 : List (S108)) (l1 : List (S108)) : Option (Bool) := if (l0.length : Int) = (l1.length : Int) then (impl_Session.l0 k l0 l1 (l0.length : Int) 0) else (some false)
theorem impl_Session.mono_l : ∀ k, (∀ y0 y1 y2 y3, LeO (impl_Session.l0 k y0 y1 y2 y3) (impl_Session.l0 (k + 1) y0 y1 y2 y3))
  | 0 => fun _ _ _ _ r h => by simp [impl_Session.l0] at h
  | k + 1 => by
    have ih0 := impl_Session.mono_l k
    · intro y0 y1 y2 y3
      unfold impl_Session.l0
      repeat' first
      | (with_reducible exact ih0 _ _ _ _)
      | (with_reducible exact LeO.refl _)
      | (with_reducible exact LeO.none _)
      | (with_reducible refine LeO.ite ?_ ?_)
      | (with_reducible refine LeO.bind ?_ (fun _ => ?_))
      | exact ih0 _ _ _ _
      | exact LeO.none _
      | refine LeO.ite ?_ ?_
      | refine LeO.bind ?_ (fun _ => ?_)
theorem impl_Session.mono : ∀ a0 a1 k, LeO (impl_Session.f k a0 a1) (impl_Session.f (k + 1) a0 a1) := by
  intro a0 a1 k
  have ih0 := impl_Session.mono_l k
  unfold impl_Session.f
  repeat' first
      | (with_reducible exact ih0 _ _ _ _)
      | (with_reducible exact LeO.refl _)
      | (with_reducible exact LeO.none _)
      | (with_reducible refine LeO.ite ?_ ?_)
      | (with_reducible refine LeO.bind ?_ (fun _ => ?_))
      | exact ih0 _ _ _ _
      | exact LeO.none _
      | refine LeO.ite ?_ ?_
      | refine LeO.bind ?_ (fun _ => ?_)
set_option maxHeartbeats 8000000 in
set_option maxRecDepth 100000 in
theorem impl_Session.calls (k : Nat) (A0 : Option Addr) (c0 : Nat) (l0 : List (S108)) (A1 : Option Addr) (c1 : Nat) (l1 : List (S108)) (r : Bool) (w : World) (hr0 : Kd.C k108 w A0 l0.length l0) (hc0 : l0.length ≤ c0) (hr1 : Kd.C k108 w A1 l1.length l1) (hc1 : l1.length ≤ c1) (h : impl_Session.f k l0 l1 = some r) :
    Calls Try.prog 63 #[.slice A0 l0.length c0, .slice A1 l1.length c1] w fun e w' => e = .returned (.bool r) ∧ Drawn0 w w' := by
  have hu108 := Try.underlying108
  have HR0 := Aside0.mk hr0
  have HC0 := Aside0.mk hc0
  clear hr0 hc0
  have HR1 := Aside0.mk hr1
  have HC1 := Aside0.mk hc1
  clear hr1 hc1
  have H : (if (l0.length : Int) = (l1.length : Int) then (impl_Session.l0 k l0 l1 (l0.length : Int) 0) else (some false)) = some r := h
  clear h
  by_cases c3 : (l0.length : Int) = (l1.length : Int)
  · rw [if_pos c3] at H
    have c3b0 : ((l0.length : Int) == (l1.length : Int)) = true := beq_iff_eq.mpr c3
    have c3b1 : ((l0.length : Int) != (l1.length : Int)) = false := bne_eq_false_iff_eq.mpr c3
    have c3b2 : (l0.length == l1.length) = true := by first | simpa using c3 | (simp at c3 ⊢; omega)
    clear c3
    have H' := Aside0.mk H
    clear H
    go_enter Try.func63, Try.ntmps63
    go_wp2
    repeat (go_quiet (fail); try go_wp2)
    go_loopg [13] k (fun kq v13 w' => ∃ (x13_1 : Int), v13 = .int .i64 x13_1 ∧ Aside0 (impl_Session.l0 kq l0 l1 (l0.length : Int) x13_1 = some r) ∧ Aside0 (kq ≤ k) ∧ Drawn0 w w')
    case atStart => exact ⟨(0), (by first | rfl | (simp; done) | (simp [*]; done)), H', ⟨Nat.le_refl _⟩, by repeat (first | exact Drawn0.refl _ | apply Drawn0.step)⟩
    case round =>
      clear H'
      try clear c1
      try clear p2
      try clear c3
      try clear c3b0
      try clear c3b1
      try clear c3b2
      obtain ⟨x13_1, rfl, HA, HK1, ⟨m1, rfl⟩⟩ := hrel
      cases gk with
      | zero => exact absurd HA.out (by simp [impl_Session.l0])
      | succ k1 =>
        have H := HA.out
        clear HA
        simp only [impl_Session.l0] at H
        by_cases c4 : x13_1 < (l0.length : Int)
        · rw [if_pos c4] at H
          have c4b0 : decide (x13_1 < (l0.length : Int)) = true := decide_eq_true c4
          clear c4
          by_cases c5 : 0 ≤ x13_1
          · rw [if_pos c5] at H
            have c5b0 : decide (0 ≤ x13_1) = true := decide_eq_true c5
            clear c5
            by_cases c6 : x13_1 < (l0.length : Int)
            · rw [if_pos c6] at H
              have c6b0 : decide (x13_1 < (l0.length : Int)) = true := decide_eq_true c6
              clear c6
              by_cases c7 : x13_1 < (l1.length : Int)
              · rw [if_pos c7] at H
                have c7b0 : decide (x13_1 < (l1.length : Int)) = true := decide_eq_true c7
                clear c7
                by_cases c8 : (!(((rd_T108 l0 x13_1).f0) == ((rd_T108 l1 x13_1).f0)) || (!(((rd_T108 l0 x13_1).f1) == ((rd_T108 l1 x13_1).f1)) || (!(((rd_T108 l0 x13_1).f2) == ((rd_T108 l1 x13_1).f2)) || (!(((rd_T108 l0 x13_1).f3) == ((rd_T108 l1 x13_1).f3)))))) = true
                · rw [if_pos c8] at H
                  have c8b0 : (!(((rd_T108 l0 x13_1).f0) == ((rd_T108 l1 x13_1).f0)) || (!(((rd_T108 l0 x13_1).f1) == ((rd_T108 l1 x13_1).f1)) || (!(((rd_T108 l0 x13_1).f2) == ((rd_T108 l1 x13_1).f2)) || (!(((rd_T108 l0 x13_1).f3) == ((rd_T108 l1 x13_1).f3)))))) = true := c8
                  clear c8
                  obtain rfl := Option.some.inj H
                  have p227 : 0 ≤ (x13_1 : Int) := of_decide_eq_true (by first | (with_reducible assumption) | assumption)
                  have q227 : x13_1 < (l0.length : Int) := of_decide_eq_true (by first | (with_reducible assumption) | assumption)
                  obtain ⟨ad227, e227, hx227_0, hx227_1, hx227_2, hx227_3⟩ := at_T108 HR0.out x13_1 p227 q227
                  cases e227
                  replace p227 := eq_true p227
                  replace q227 := eq_true q227
                  have p228 : 0 ≤ (x13_1 : Int) := of_decide_eq_true (by first | (with_reducible assumption) | assumption)
                  have q228 : x13_1 < (l1.length : Int) := of_decide_eq_true (by first | (with_reducible assumption) | assumption)
                  obtain ⟨ad228, e228, hx228_0, hx228_1, hx228_2, hx228_3⟩ := at_T108 HR1.out x13_1 p228 q228
                  cases e228
                  replace p228 := eq_true p228
                  replace q228 := eq_true q228
                  go_wp2
                  repeat (go_quiet (fail); try go_wp2)
                  go_ret
                  exact ⟨by first | rfl | (simp; done) | (simp [*]; done), by repeat (first | exact Drawn0.refl _ | apply Drawn0.step)⟩
                · rw [if_neg c8] at H
                  have c8b0 : (!(((rd_T108 l0 x13_1).f0) == ((rd_T108 l1 x13_1).f0)) || (!(((rd_T108 l0 x13_1).f1) == ((rd_T108 l1 x13_1).f1)) || (!(((rd_T108 l0 x13_1).f2) == ((rd_T108 l1 x13_1).f2)) || (!(((rd_T108 l0 x13_1).f3) == ((rd_T108 l1 x13_1).f3)))))) = false := by simpa using c8
                  clear c8
                  have H' := Aside0.mk H
                  clear H
                  have p227 : 0 ≤ (x13_1 : Int) := of_decide_eq_true (by first | (with_reducible assumption) | assumption)
                  have q227 : x13_1 < (l0.length : Int) := of_decide_eq_true (by first | (with_reducible assumption) | assumption)
                  obtain ⟨ad227, e227, hx227_0, hx227_1, hx227_2, hx227_3⟩ := at_T108 HR0.out x13_1 p227 q227
                  cases e227
                  replace p227 := eq_true p227
                  replace q227 := eq_true q227
                  have p228 : 0 ≤ (x13_1 : Int) := of_decide_eq_true (by first | (with_reducible assumption) | assumption)
                  have q228 : x13_1 < (l1.length : Int) := of_decide_eq_true (by first | (with_reducible assumption) | assumption)
                  obtain ⟨ad228, e228, hx228_0, hx228_1, hx228_2, hx228_3⟩ := at_T108 HR1.out x13_1 p228 q228
                  cases e228
                  replace p228 := eq_true p228
                  replace q228 := eq_true q228
                  go_wp2
                  repeat (go_quiet (fail); try go_wp2)
                  go_roundg k1
                  case measure => have := HK1.out; omega
                  case rel => exact ⟨(wrap64 (x13_1 + 1)), (by first | rfl | (simp; done) | (simp [*]; done)), H', ⟨by have := HK1.out; omega⟩, by repeat (first | exact Drawn0.refl _ | apply Drawn0.step)⟩
              · rw [if_neg c7] at H
                exact absurd H (by simp)
            · rw [if_neg c6] at H
              exact absurd H (by simp)
          · rw [if_neg c5] at H
            exact absurd H (by simp)
        · rw [if_neg c4] at H
          have c4b0 : decide (x13_1 < (l0.length : Int)) = false := decide_eq_false c4
          clear c4
          obtain rfl := Option.some.inj H
          go_wp2
          repeat (go_quiet (fail); try go_wp2)
          go_ret
          exact ⟨by first | rfl | (simp; done) | (simp [*]; done), by repeat (first | exact Drawn0.refl _ | apply Drawn0.step)⟩
  · rw [if_neg c3] at H
    have c3b0 : ((l0.length : Int) == (l1.length : Int)) = false := beq_eq_false_iff_ne.mpr c3
    have c3b1 : ((l0.length : Int) != (l1.length : Int)) = true := bne_iff_ne.mpr c3
    have c3b2 : (l0.length == l1.length) = false := by first | simpa using c3 | (simp at c3 ⊢; omega)
    obtain rfl := Option.some.inj H
    go_enter Try.func63, Try.ntmps63
    go_wp2
    repeat (go_quiet (fail); try go_wp2)
    go_ret
    exact ⟨by first | rfl | (simp; done) | (simp [*]; done), by repeat (first | exact Drawn0.refl _ | apply Drawn0.step)⟩

/-! ### impl_SameMachines: function 21 -/
def impl_SameMachines.f (k : Nat) (l0_0 : List (S146)) (l0_1 : List (S143)) (l0_2 : List (S125)) (l0_3 : List (S108)) (l1_0 : List (S146)) (l1_1 : List (S143)) (l1_2 : List (S125)) (l1_3 : List (S108)) : Option (Bool) := (impl_SamePools.f k l0_0 l0_1 l0_2 l1_0 l1_1 l1_2).bind fun t231 => (if t231 = true then ((impl_Session.f k l0_3 l1_3).bind fun t232 => (some t232)) else (some false))
theorem impl_SameMachines.mono : ∀ a0 a1 a2 a3 a4 a5 a6 a7 k, LeO (impl_SameMachines.f k a0 a1 a2 a3 a4 a5 a6 a7) (impl_SameMachines.f (k + 1) a0 a1 a2 a3 a4 a5 a6 a7) := by
  intro a0 a1 a2 a3 a4 a5 a6 a7 k
  unfold impl_SameMachines.f
  repeat' first
      | (with_reducible exact impl_SamePools.mono _ _ _ _ _ _ _)
      | (with_reducible exact impl_Session.mono _ _ _)
      | (with_reducible exact LeO.refl _)
      | (with_reducible exact LeO.none _)
      | (with_reducible refine LeO.ite ?_ ?_)
      | (with_reducible refine LeO.bind ?_ (fun _ => ?_))
      | exact impl_SamePools.mono _ _ _ _ _ _ _
      | exact impl_Session.mono _ _ _
      | exact LeO.none _
      | refine LeO.ite ?_ ?_
      | refine LeO.bind ?_ (fun _ => ?_)
set_option maxHeartbeats 8000000 in
set_option maxRecDepth 100000 in
theorem impl_SameMachines.calls (k : Nat) (A0_0 : Option Addr) (c0_0 : Nat) (l0_0 : List (S146)) (A0_1 : Option Addr) (c0_1 : Nat) (l0_1 : List (S143)) (A0_2 : Option Addr) (c0_2 : Nat) (l0_2 : List (S125)) (A0_3 : Option Addr) (c0_3 : Nat) (l0_3 : List (S108)) (A1_0 : Option Addr) (c1_0 : Nat) (l1_0 : List (S146)) (A1_1 : Option Addr) (c1_1 : Nat) (l1_1 : List (S143)) (A1_2 : Option Addr) (c1_2 : Nat) (l1_2 : List (S125)) (A1_3 : Option Addr) (c1_3 : Nat) (l1_3 : List (S108)) (r : Bool) (w : World) (hr0_0 : Kd.C k146 w A0_0 l0_0.length l0_0) (hc0_0 : l0_0.length ≤ c0_0) (hr0_1 : Kd.C k143 w A0_1 l0_1.length l0_1) (hc0_1 : l0_1.length ≤ c0_1) (hr0_2 : Kd.C k125 w A0_2 l0_2.length l0_2) (hc0_2 : l0_2.length ≤ c0_2) (hr0_3 : Kd.C k108 w A0_3 l0_3.length l0_3) (hc0_3 : l0_3.length ≤ c0_3) (hr1_0 : Kd.C k146 w A1_0 l1_0.length l1_0) (hc1_0 : l1_0.length ≤ c1_0) (hr1_1 : Kd.C k143 w A1_1 l1_1.length l1_1) (hc1_1 : l1_1.length ≤ c1_1) (hr1_2 : Kd.C k125 w A1_2 l1_2.length l1_2) (hc1_2 : l1_2.length ≤ c1_2) (hr1_3 : Kd.C k108 w A1_3 l1_3.length l1_3) (hc1_3 : l1_3.length ≤ c1_3) (h : impl_SameMachines.f k l0_0 l0_1 l0_2 l0_3 l1_0 l1_1 l1_2 l1_3 = some r) :
    Calls Try.prog 21 #[.agg #[.slice A0_0 l0_0.length c0_0, .slice A0_1 l0_1.length c0_1, .slice A0_2 l0_2.length c0_2, .slice A0_3 l0_3.length c0_3], .agg #[.slice A1_0 l1_0.length c1_0, .slice A1_1 l1_1.length c1_1, .slice A1_2 l1_2.length c1_2, .slice A1_3 l1_3.length c1_3]] w fun e w' => e = .returned (.bool r) ∧ Below w.heap.size w w' := by
  have hu60 := Try.underlying60
  have hu57 := Try.underlying57
  have HR0_0 := Aside0.mk hr0_0
  have HC0_0 := Aside0.mk hc0_0
  clear hr0_0 hc0_0
  have HR0_1 := Aside0.mk hr0_1
  have HC0_1 := Aside0.mk hc0_1
  clear hr0_1 hc0_1
  have HR0_2 := Aside0.mk hr0_2
  have HC0_2 := Aside0.mk hc0_2
  clear hr0_2 hc0_2
  have HR0_3 := Aside0.mk hr0_3
  have HC0_3 := Aside0.mk hc0_3
  clear hr0_3 hc0_3
  have HR1_0 := Aside0.mk hr1_0
  have HC1_0 := Aside0.mk hc1_0
  clear hr1_0 hc1_0
  have HR1_1 := Aside0.mk hr1_1
  have HC1_1 := Aside0.mk hc1_1
  clear hr1_1 hc1_1
  have HR1_2 := Aside0.mk hr1_2
  have HC1_2 := Aside0.mk hc1_2
  clear hr1_2 hc1_2
  have HR1_3 := Aside0.mk hr1_3
  have HC1_3 := Aside0.mk hc1_3
  clear hr1_3 hc1_3
  have HB := Aside0.mk (Below.refl w.heap.size w)
  have H : ((impl_SamePools.f k l0_0 l0_1 l0_2 l1_0 l1_1 l1_2).bind fun t231 => (if t231 = true then ((impl_Session.f k l0_3 l1_3).bind fun t232 => (some t232)) else (some false))) = some r := h
  clear h
  replace H := Option.bind_eq_some_iff.mp H
  obtain ⟨t231, A30, H⟩ := H
  replace H : (if t231 = true then ((impl_Session.f k l0_3 l1_3).bind fun t232 => (some t232)) else (some false)) = some r := H
  have A3 := Aside0.mk A30
  clear A30
  by_cases c4 : t231 = true
  · subst c4
    have H1 : ((impl_Session.f k l0_3 l1_3).bind fun t232 => (some t232)) = some r := by rw [if_pos rfl] at H; exact H
    clear H
    have H := H1
    clear H1
    replace H := Option.bind_eq_some_iff.mp H
    obtain ⟨t232, A50, H⟩ := H
    replace H : (some t232) = some r := H
    have A5 := Aside0.mk A50
    clear A50
    obtain rfl := Option.some.inj H
    go_enter Try.func21, Try.ntmps21
    go_wp2_with (first | ((with_reducible refine gate_dst (N := 2) rfl ?_); refine box_event ?hg (N := 2) ?hd (cs := #[.slice A0_0 l0_0.length c0_0, .slice A0_1 l0_1.length c0_1, .slice A0_2 l0_2.length c0_2, .slice A0_3 l0_3.length c0_3]) (t := 60) ?hr ?_; (case hd => rfl); (case hg => rfl); (case hr => first | (go_simp; done) | (go_simp; rfl)); intro gb229 hg w6 hbox hb; have n0_ := Aside0.mk (below_step (by repeat (first | (with_reducible first | exact HB.out | apply below_alloc | apply pw_below_drewN | apply below_drew1) | exact HB.out)) hb); have n1_ := Aside0.mk (hbox); have n2_ := Aside0.mk ((by rw [hg]; exact (below_size (by repeat (first | (with_reducible first | exact HB.out | apply below_alloc | apply pw_below_drewN | apply below_drew1) | exact HB.out))) : w.heap.size ≤ gb229)); have n3_ := Aside0.mk ((by rw [hg]; exact (below_size (by repeat (first | (with_reducible first | exact HB.out | apply below_alloc | apply pw_below_drewN | apply below_drew1) | exact HB.out))) : w.heap.size ≤ gb229)); clear HB; have HB := n0_; have BK229 := n1_; have GW229 := n2_; have GE229 := n3_; clear n0_ n1_ n2_ n3_; clear hb hbox hg) | ((with_reducible refine gate_dst (N := 3) rfl ?_); refine box_event ?hg (N := 3) ?hd (cs := #[.slice A1_0 l1_0.length c1_0, .slice A1_1 l1_1.length c1_1, .slice A1_2 l1_2.length c1_2, .slice A1_3 l1_3.length c1_3]) (t := 60) ?hr ?_; (case hd => rfl); (case hg => rfl); (case hr => first | (go_simp; done) | (go_simp; rfl)); intro gb230 hg w7 hbox hb; have n0_ := Aside0.mk (blk_below (g := gb229) (o := .cells #[.slice A0_0 l0_0.length c0_0, .slice A0_1 l0_1.length c0_1, .slice A0_2 l0_2.length c0_2, .slice A0_3 l0_3.length c0_3] 60 (0, 0)) (by (with_reducible repeat (first | refine blk_drewN ?_ _ | refine blk_drew ?_ | refine blk_alloc ?_ _)); exact BK229.out) hb); have n1_ := Aside0.mk (below_step (by repeat (first | (with_reducible first | exact HB.out | apply below_alloc | apply pw_below_drewN | apply below_drew1 | refine below_set ?_ GE229.out) | exact HB.out)) hb); have n2_ := Aside0.mk (hbox); have n3_ := Aside0.mk ((by rw [hg]; exact (below_size (by repeat (first | (with_reducible first | exact HB.out | apply below_alloc | apply pw_below_drewN | apply below_drew1 | refine below_set ?_ GE229.out) | exact HB.out))) : w.heap.size ≤ gb230)); have n4_ := Aside0.mk ((by rw [hg]; exact (below_size (by repeat (first | (with_reducible first | exact HB.out | apply below_alloc | apply pw_below_drewN | apply below_drew1 | refine below_set ?_ GE229.out) | exact HB.out))) : w.heap.size ≤ gb230)); have n5_ := Aside0.mk ((by rw [hg]; exact Nat.ne_of_lt (blk_lt (g := gb229) (o := .cells #[.slice A0_0 l0_0.length c0_0, .slice A0_1 l0_1.length c0_1, .slice A0_2 l0_2.length c0_2, .slice A0_3 l0_3.length c0_3] 60 (0, 0)) (by (with_reducible repeat (first | refine blk_drewN ?_ _ | refine blk_drew ?_ | refine blk_alloc ?_ _)); exact BK229.out)) : gb229 ≠ gb230)); have n6_ := Aside0.mk ((by rw [hg]; exact Nat.ne_of_gt (blk_lt (g := gb229) (o := .cells #[.slice A0_0 l0_0.length c0_0, .slice A0_1 l0_1.length c0_1, .slice A0_2 l0_2.length c0_2, .slice A0_3 l0_3.length c0_3] 60 (0, 0)) (by (with_reducible repeat (first | refine blk_drewN ?_ _ | refine blk_drew ?_ | refine blk_alloc ?_ _)); exact BK229.out)) : gb230 ≠ gb229)); clear BK229; clear HB; have BK229 := n0_; have HB := n1_; have BK230 := n2_; have GW230 := n3_; have GE230 := n4_; have NB229_230 := n5_; have NB230_229 := n6_; clear n0_ n1_ n2_ n3_ n4_ n5_ n6_; clear hb hbox hg; have hnb8 := NB229_230.out; have hnc8 := NB230_229.out; have hcz9_0 : w7.cell? ⟨gb229, 0, none⟩ = some (.slice A0_0 l0_0.length c0_0) := (blk_cell BK229.out 0).trans rfl; have hcz9_1 : w7.cell? ⟨gb229, 1, none⟩ = some (.slice A0_1 l0_1.length c0_1) := (blk_cell BK229.out 1).trans rfl; have hcz9_2 : w7.cell? ⟨gb229, 2, none⟩ = some (.slice A0_2 l0_2.length c0_2) := (blk_cell BK229.out 2).trans rfl; have hcz9_3 : w7.cell? ⟨gb229, 3, none⟩ = some (.slice A0_3 l0_3.length c0_3) := (blk_cell BK229.out 3).trans rfl; have hfz9_0 := blk_frozen BK229.out 0; have hfz9_1 := blk_frozen BK229.out 1; have hfz9_2 := blk_frozen BK229.out 2; have hfz9_3 := blk_frozen BK229.out 3; have hcz10_0 : w7.cell? ⟨gb230, 0, none⟩ = some (.slice A1_0 l1_0.length c1_0) := (blk_cell BK230.out 0).trans rfl; have hcz10_1 : w7.cell? ⟨gb230, 1, none⟩ = some (.slice A1_1 l1_1.length c1_1) := (blk_cell BK230.out 1).trans rfl; have hcz10_2 : w7.cell? ⟨gb230, 2, none⟩ = some (.slice A1_2 l1_2.length c1_2) := (blk_cell BK230.out 2).trans rfl; have hcz10_3 : w7.cell? ⟨gb230, 3, none⟩ = some (.slice A1_3 l1_3.length c1_3) := (blk_cell BK230.out 3).trans rfl; have hfz10_0 := blk_frozen BK230.out 0; have hfz10_1 := blk_frozen BK230.out 1; have hfz10_2 := blk_frozen BK230.out 2; have hfz10_3 := blk_frozen BK230.out 3) | ((with_reducible refine gate_callee (f := 62) rfl ?_); refine goesL_ (some 9) rfl rfl Try.func62 (by kernel_rfl) rfl #[.agg #[.slice A0_0 l0_0.length c0_0, .slice A0_1 l0_1.length c0_1, .slice A0_2 l0_2.length c0_2], .agg #[.slice A1_0 l1_0.length c1_0, .slice A1_1 l1_1.length c1_1, .slice A1_2 l1_2.length c1_2]] rfl (by (try simp only [List.map_toArray, List.map_cons, List.map_nil]); first | done | rfl | (simp only [List.length_drop, List.length_take]; rfl)) ?_; (with_reducible refine (impl_SamePools.calls k _ _ l0_0 _ _ l0_1 _ _ l0_2 _ _ l1_0 _ _ l1_1 _ _ l1_2 true _ ?side1 ?side2 ?side3 ?side4 ?side5 ?side6 ?side7 ?side8 ?side9 ?side10 ?side11 ?side12 A3.out).mono ?_); (case side1 => repeat (first | exact (Kd.C_below HR0_0.out HB.out) | (with_reducible refine Kd.C_alloc ?_ _) | (with_reducible refine Kd.C_drewN ?_ _) | (with_reducible refine Kd.C_drew ?_))); (case side2 => exact HC0_0.out); (case side3 => repeat (first | exact (Kd.C_below HR0_1.out HB.out) | (with_reducible refine Kd.C_alloc ?_ _) | (with_reducible refine Kd.C_drewN ?_ _) | (with_reducible refine Kd.C_drew ?_))); (case side4 => exact HC0_1.out); (case side5 => repeat (first | exact (Kd.C_below HR0_2.out HB.out) | (with_reducible refine Kd.C_alloc ?_ _) | (with_reducible refine Kd.C_drewN ?_ _) | (with_reducible refine Kd.C_drew ?_))); (case side6 => exact HC0_2.out); (case side7 => repeat (first | exact (Kd.C_below HR1_0.out HB.out) | (with_reducible refine Kd.C_alloc ?_ _) | (with_reducible refine Kd.C_drewN ?_ _) | (with_reducible refine Kd.C_drew ?_))); (case side8 => exact HC1_0.out); (case side9 => repeat (first | exact (Kd.C_below HR1_1.out HB.out) | (with_reducible refine Kd.C_alloc ?_ _) | (with_reducible refine Kd.C_drewN ?_ _) | (with_reducible refine Kd.C_drew ?_))); (case side10 => exact HC1_1.out); (case side11 => repeat (first | exact (Kd.C_below HR1_2.out HB.out) | (with_reducible refine Kd.C_alloc ?_ _) | (with_reducible refine Kd.C_drewN ?_ _) | (with_reducible refine Kd.C_drew ?_))); (case side12 => exact HC1_2.out); rintro e w11 ⟨rfl, hb⟩; refine ⟨_, rfl, ?_⟩; have n0_ := Aside0.mk (blk_below (g := gb229) (o := .cells #[.slice A0_0 l0_0.length c0_0, .slice A0_1 l0_1.length c0_1, .slice A0_2 l0_2.length c0_2, .slice A0_3 l0_3.length c0_3] 60 (0, 0)) (by (with_reducible repeat (first | refine blk_drewN ?_ _ | refine blk_drew ?_ | refine blk_alloc ?_ _)); exact BK229.out) hb); have n1_ := Aside0.mk (blk_below (g := gb230) (o := .cells #[.slice A1_0 l1_0.length c1_0, .slice A1_1 l1_1.length c1_1, .slice A1_2 l1_2.length c1_2, .slice A1_3 l1_3.length c1_3] 60 (0, 0)) (by (with_reducible repeat (first | refine blk_drewN ?_ _ | refine blk_drew ?_ | refine blk_alloc ?_ _)); exact BK230.out) hb); have n2_ := Aside0.mk (below_step (by repeat (first | (with_reducible first | exact HB.out | apply below_alloc | apply pw_below_drewN | apply below_drew1 | refine below_set ?_ GE229.out | refine below_set ?_ GE230.out) | exact HB.out)) hb); clear BK229; clear BK230; clear HB; have BK229 := n0_; have BK230 := n1_; have HB := n2_; clear n0_ n1_ n2_; (try clear hb); (try clear hb2); (try clear hk); (try clear hi); have hcz12_0 : w11.cell? ⟨gb229, 0, none⟩ = some (.slice A0_0 l0_0.length c0_0) := (blk_cell BK229.out 0).trans rfl; have hcz12_1 : w11.cell? ⟨gb229, 1, none⟩ = some (.slice A0_1 l0_1.length c0_1) := (blk_cell BK229.out 1).trans rfl; have hcz12_2 : w11.cell? ⟨gb229, 2, none⟩ = some (.slice A0_2 l0_2.length c0_2) := (blk_cell BK229.out 2).trans rfl; have hcz12_3 : w11.cell? ⟨gb229, 3, none⟩ = some (.slice A0_3 l0_3.length c0_3) := (blk_cell BK229.out 3).trans rfl; have hfz12_0 := blk_frozen BK229.out 0; have hfz12_1 := blk_frozen BK229.out 1; have hfz12_2 := blk_frozen BK229.out 2; have hfz12_3 := blk_frozen BK229.out 3; have hcz13_0 : w11.cell? ⟨gb230, 0, none⟩ = some (.slice A1_0 l1_0.length c1_0) := (blk_cell BK230.out 0).trans rfl; have hcz13_1 : w11.cell? ⟨gb230, 1, none⟩ = some (.slice A1_1 l1_1.length c1_1) := (blk_cell BK230.out 1).trans rfl; have hcz13_2 : w11.cell? ⟨gb230, 2, none⟩ = some (.slice A1_2 l1_2.length c1_2) := (blk_cell BK230.out 2).trans rfl; have hcz13_3 : w11.cell? ⟨gb230, 3, none⟩ = some (.slice A1_3 l1_3.length c1_3) := (blk_cell BK230.out 3).trans rfl; have hfz13_0 := blk_frozen BK230.out 0; have hfz13_1 := blk_frozen BK230.out 1; have hfz13_2 := blk_frozen BK230.out 2; have hfz13_3 := blk_frozen BK230.out 3) | (go_at_call 63; (with_reducible refine (impl_Session.calls k _ _ l0_3 _ _ l1_3 t232 _ ?side1 ?side2 ?side3 ?side4 A5.out).mono ?_); (case side1 => repeat (first | exact (Kd.C_below HR0_3.out HB.out) | (with_reducible refine Kd.C_alloc ?_ _) | (with_reducible refine Kd.C_drewN ?_ _) | (with_reducible refine Kd.C_drew ?_))); (case side2 => exact HC0_3.out); (case side3 => repeat (first | exact (Kd.C_below HR1_3.out HB.out) | (with_reducible refine Kd.C_alloc ?_ _) | (with_reducible refine Kd.C_drewN ?_ _) | (with_reducible refine Kd.C_drew ?_))); (case side4 => exact HC1_3.out); rintro e w' ⟨rfl, ⟨nd, rfl⟩⟩))
    go_ret
    exact ⟨by first | rfl | (simp [errW_none, errW_some] <;> rfl) | (simp [*, errW_none, errW_some] <;> rfl), by repeat (first | (with_reducible first | exact HB.out | apply below_alloc | apply pw_below_drewN | apply below_drew1 | refine below_set ?_ GE229.out | refine below_set ?_ GE230.out) | exact HB.out)⟩
  · replace c4 := Bool.eq_false_iff.mpr c4
    subst c4
    have H1 : (some false) = some r := by rw [if_neg (show ¬ (false = true) by decide)] at H; exact H
    clear H
    have H := H1
    clear H1
    obtain rfl := Option.some.inj H
    go_enter Try.func21, Try.ntmps21
    go_wp2_with (first | ((with_reducible refine gate_dst (N := 2) rfl ?_); refine box_event ?hg (N := 2) ?hd (cs := #[.slice A0_0 l0_0.length c0_0, .slice A0_1 l0_1.length c0_1, .slice A0_2 l0_2.length c0_2, .slice A0_3 l0_3.length c0_3]) (t := 60) ?hr ?_; (case hd => rfl); (case hg => rfl); (case hr => first | (go_simp; done) | (go_simp; rfl)); intro gb229 hg w14 hbox hb; have n0_ := Aside0.mk (below_step (by repeat (first | (with_reducible first | exact HB.out | apply below_alloc | apply pw_below_drewN | apply below_drew1) | exact HB.out)) hb); have n1_ := Aside0.mk (hbox); have n2_ := Aside0.mk ((by rw [hg]; exact (below_size (by repeat (first | (with_reducible first | exact HB.out | apply below_alloc | apply pw_below_drewN | apply below_drew1) | exact HB.out))) : w.heap.size ≤ gb229)); have n3_ := Aside0.mk ((by rw [hg]; exact (below_size (by repeat (first | (with_reducible first | exact HB.out | apply below_alloc | apply pw_below_drewN | apply below_drew1) | exact HB.out))) : w.heap.size ≤ gb229)); clear HB; have HB := n0_; have BK229 := n1_; have GW229 := n2_; have GE229 := n3_; clear n0_ n1_ n2_ n3_; clear hb hbox hg) | ((with_reducible refine gate_dst (N := 3) rfl ?_); refine box_event ?hg (N := 3) ?hd (cs := #[.slice A1_0 l1_0.length c1_0, .slice A1_1 l1_1.length c1_1, .slice A1_2 l1_2.length c1_2, .slice A1_3 l1_3.length c1_3]) (t := 60) ?hr ?_; (case hd => rfl); (case hg => rfl); (case hr => first | (go_simp; done) | (go_simp; rfl)); intro gb230 hg w15 hbox hb; have n0_ := Aside0.mk (blk_below (g := gb229) (o := .cells #[.slice A0_0 l0_0.length c0_0, .slice A0_1 l0_1.length c0_1, .slice A0_2 l0_2.length c0_2, .slice A0_3 l0_3.length c0_3] 60 (0, 0)) (by (with_reducible repeat (first | refine blk_drewN ?_ _ | refine blk_drew ?_ | refine blk_alloc ?_ _)); exact BK229.out) hb); have n1_ := Aside0.mk (below_step (by repeat (first | (with_reducible first | exact HB.out | apply below_alloc | apply pw_below_drewN | apply below_drew1 | refine below_set ?_ GE229.out) | exact HB.out)) hb); have n2_ := Aside0.mk (hbox); have n3_ := Aside0.mk ((by rw [hg]; exact (below_size (by repeat (first | (with_reducible first | exact HB.out | apply below_alloc | apply pw_below_drewN | apply below_drew1 | refine below_set ?_ GE229.out) | exact HB.out))) : w.heap.size ≤ gb230)); have n4_ := Aside0.mk ((by rw [hg]; exact (below_size (by repeat (first | (with_reducible first | exact HB.out | apply below_alloc | apply pw_below_drewN | apply below_drew1 | refine below_set ?_ GE229.out) | exact HB.out))) : w.heap.size ≤ gb230)); have n5_ := Aside0.mk ((by rw [hg]; exact Nat.ne_of_lt (blk_lt (g := gb229) (o := .cells #[.slice A0_0 l0_0.length c0_0, .slice A0_1 l0_1.length c0_1, .slice A0_2 l0_2.length c0_2, .slice A0_3 l0_3.length c0_3] 60 (0, 0)) (by (with_reducible repeat (first | refine blk_drewN ?_ _ | refine blk_drew ?_ | refine blk_alloc ?_ _)); exact BK229.out)) : gb229 ≠ gb230)); have n6_ := Aside0.mk ((by rw [hg]; exact Nat.ne_of_gt (blk_lt (g := gb229) (o := .cells #[.slice A0_0 l0_0.length c0_0, .slice A0_1 l0_1.length c0_1, .slice A0_2 l0_2.length c0_2, .slice A0_3 l0_3.length c0_3] 60 (0, 0)) (by (with_reducible repeat (first | refine blk_drewN ?_ _ | refine blk_drew ?_ | refine blk_alloc ?_ _)); exact BK229.out)) : gb230 ≠ gb229)); clear BK229; clear HB; have BK229 := n0_; have HB := n1_; have BK230 := n2_; have GW230 := n3_; have GE230 := n4_; have NB229_230 := n5_; have NB230_229 := n6_; clear n0_ n1_ n2_ n3_ n4_ n5_ n6_; clear hb hbox hg; have hnb16 := NB229_230.out; have hnc16 := NB230_229.out; have hcz17_0 : w15.cell? ⟨gb229, 0, none⟩ = some (.slice A0_0 l0_0.length c0_0) := (blk_cell BK229.out 0).trans rfl; have hcz17_1 : w15.cell? ⟨gb229, 1, none⟩ = some (.slice A0_1 l0_1.length c0_1) := (blk_cell BK229.out 1).trans rfl; have hcz17_2 : w15.cell? ⟨gb229, 2, none⟩ = some (.slice A0_2 l0_2.length c0_2) := (blk_cell BK229.out 2).trans rfl; have hcz17_3 : w15.cell? ⟨gb229, 3, none⟩ = some (.slice A0_3 l0_3.length c0_3) := (blk_cell BK229.out 3).trans rfl; have hfz17_0 := blk_frozen BK229.out 0; have hfz17_1 := blk_frozen BK229.out 1; have hfz17_2 := blk_frozen BK229.out 2; have hfz17_3 := blk_frozen BK229.out 3; have hcz18_0 : w15.cell? ⟨gb230, 0, none⟩ = some (.slice A1_0 l1_0.length c1_0) := (blk_cell BK230.out 0).trans rfl; have hcz18_1 : w15.cell? ⟨gb230, 1, none⟩ = some (.slice A1_1 l1_1.length c1_1) := (blk_cell BK230.out 1).trans rfl; have hcz18_2 : w15.cell? ⟨gb230, 2, none⟩ = some (.slice A1_2 l1_2.length c1_2) := (blk_cell BK230.out 2).trans rfl; have hcz18_3 : w15.cell? ⟨gb230, 3, none⟩ = some (.slice A1_3 l1_3.length c1_3) := (blk_cell BK230.out 3).trans rfl; have hfz18_0 := blk_frozen BK230.out 0; have hfz18_1 := blk_frozen BK230.out 1; have hfz18_2 := blk_frozen BK230.out 2; have hfz18_3 := blk_frozen BK230.out 3) | ((with_reducible refine gate_callee (f := 62) rfl ?_); refine goesL_ (some 9) rfl rfl Try.func62 (by kernel_rfl) rfl #[.agg #[.slice A0_0 l0_0.length c0_0, .slice A0_1 l0_1.length c0_1, .slice A0_2 l0_2.length c0_2], .agg #[.slice A1_0 l1_0.length c1_0, .slice A1_1 l1_1.length c1_1, .slice A1_2 l1_2.length c1_2]] rfl (by (try simp only [List.map_toArray, List.map_cons, List.map_nil]); first | done | rfl | (simp only [List.length_drop, List.length_take]; rfl)) ?_; (with_reducible refine (impl_SamePools.calls k _ _ l0_0 _ _ l0_1 _ _ l0_2 _ _ l1_0 _ _ l1_1 _ _ l1_2 false _ ?side1 ?side2 ?side3 ?side4 ?side5 ?side6 ?side7 ?side8 ?side9 ?side10 ?side11 ?side12 A3.out).mono ?_); (case side1 => repeat (first | exact (Kd.C_below HR0_0.out HB.out) | (with_reducible refine Kd.C_alloc ?_ _) | (with_reducible refine Kd.C_drewN ?_ _) | (with_reducible refine Kd.C_drew ?_))); (case side2 => exact HC0_0.out); (case side3 => repeat (first | exact (Kd.C_below HR0_1.out HB.out) | (with_reducible refine Kd.C_alloc ?_ _) | (with_reducible refine Kd.C_drewN ?_ _) | (with_reducible refine Kd.C_drew ?_))); (case side4 => exact HC0_1.out); (case side5 => repeat (first | exact (Kd.C_below HR0_2.out HB.out) | (with_reducible refine Kd.C_alloc ?_ _) | (with_reducible refine Kd.C_drewN ?_ _) | (with_reducible refine Kd.C_drew ?_))); (case side6 => exact HC0_2.out); (case side7 => repeat (first | exact (Kd.C_below HR1_0.out HB.out) | (with_reducible refine Kd.C_alloc ?_ _) | (with_reducible refine Kd.C_drewN ?_ _) | (with_reducible refine Kd.C_drew ?_))); (case side8 => exact HC1_0.out); (case side9 => repeat (first | exact (Kd.C_below HR1_1.out HB.out) | (with_reducible refine Kd.C_alloc ?_ _) | (with_reducible refine Kd.C_drewN ?_ _) | (with_reducible refine Kd.C_drew ?_))); (case side10 => exact HC1_1.out); (case side11 => repeat (first | exact (Kd.C_below HR1_2.out HB.out) | (with_reducible refine Kd.C_alloc ?_ _) | (with_reducible refine Kd.C_drewN ?_ _) | (with_reducible refine Kd.C_drew ?_))); (case side12 => exact HC1_2.out); rintro e w19 ⟨rfl, hb⟩; refine ⟨_, rfl, ?_⟩; have n0_ := Aside0.mk (blk_below (g := gb229) (o := .cells #[.slice A0_0 l0_0.length c0_0, .slice A0_1 l0_1.length c0_1, .slice A0_2 l0_2.length c0_2, .slice A0_3 l0_3.length c0_3] 60 (0, 0)) (by (with_reducible repeat (first | refine blk_drewN ?_ _ | refine blk_drew ?_ | refine blk_alloc ?_ _)); exact BK229.out) hb); have n1_ := Aside0.mk (blk_below (g := gb230) (o := .cells #[.slice A1_0 l1_0.length c1_0, .slice A1_1 l1_1.length c1_1, .slice A1_2 l1_2.length c1_2, .slice A1_3 l1_3.length c1_3] 60 (0, 0)) (by (with_reducible repeat (first | refine blk_drewN ?_ _ | refine blk_drew ?_ | refine blk_alloc ?_ _)); exact BK230.out) hb); have n2_ := Aside0.mk (below_step (by repeat (first | (with_reducible first | exact HB.out | apply below_alloc | apply pw_below_drewN | apply below_drew1 | refine below_set ?_ GE229.out | refine below_set ?_ GE230.out) | exact HB.out)) hb); clear BK229; clear BK230; clear HB; have BK229 := n0_; have BK230 := n1_; have HB := n2_; clear n0_ n1_ n2_; (try clear hb); (try clear hb2); (try clear hk); (try clear hi)))
    go_ret
    exact ⟨by first | rfl | (simp [errW_none, errW_some] <;> rfl) | (simp [*, errW_none, errW_some] <;> rfl), by repeat (first | (with_reducible first | exact HB.out | apply below_alloc | apply pw_below_drewN | apply below_drew1 | refine below_set ?_ GE229.out | refine below_set ?_ GE230.out) | exact HB.out)⟩

end Go.Proofs.Ytompkmjpikabkaa.PFnExactSameMachines
