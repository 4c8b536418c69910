/- Functions of the law FnExactCountDoers as Lean functions, and proofs that the calls come to what they tell. -/
import Derived.Test.YtajhhmoglfgijaaPFnExactCountDoersx0
import Derived.Test.YtajhhmoglfgijaaPFnExactCountDoersx4
import Derived.Test.YtajhhmoglfgijaaPFnExactCountDoersx7
namespace Go.Proofs.Ytajhhmoglfgijaa.PFnExactCountDoers
open Go.RowKit Go.Proofs.YtajhhmoglfgijaaW.PrintWords Go.Proofs.YtajhhmoglfgijaaW.PrintLast Go.Proofs.YtajhhmoglfgijaaW.PrintMore
attribute [local go_sem] max2_int min2_int max_two min_two max_three min_three max_four min_four
set_option linter.unusedVariables false
set_option linter.unusedSimpArgs false


/-! ### q_impl_Replica_doers: function 62 -/
def q_impl_Replica_doers.l0 : Nat → Int → Int → Int → Bool → Int → (List (S95)) → Int → (List (Int)) → (List (Bool)) → (List (S70)) → Int → Int → Option (Int)
  | 0, _, _, _, _, _, _, _, _, _, _, _, _ => none
  | k + 1, a0_0, a0_1, a0_2, a0_3, a0_4, l0_5, a0_6, l0_7, l0_8, l0_9, x1, x2 => if x2 < (l0_9.length : Int) then (if 0 ≤ x2 then (if ((rd_T70 l0_9 x2).f0) = true then (if x2 = a0_0 then (q_impl_Replica_doers.l0 k a0_0 a0_1 a0_2 a0_3 a0_4 l0_5 a0_6 l0_7 l0_8 l0_9 x1 (wrap64 (x2 + 1))) else (q_impl_Replica_doers.l0 k a0_0 a0_1 a0_2 a0_3 a0_4 l0_5 a0_6 l0_7 l0_8 l0_9 (wrap64 (x1 + 1)) (wrap64 (x2 + 1)))) else (q_impl_Replica_doers.l0 k a0_0 a0_1 a0_2 a0_3 a0_4 l0_5 a0_6 l0_7 l0_8 l0_9 x1 (wrap64 (x2 + 1)))) else (none)) else (some x1)
def q_impl_Replica_doers.f (k : Nat) (a0_0 : Int) (a0_1 : Int) (a0_2 : Int) (a0_3 : Bool) (a0_4 : Int) (l0_5 : List (S95)) (a0_6 : Int) (l0_7 : List (Int)) (l0_8 : List (Bool)) (l0_9 : List (S70)) : Option (Int) := q_impl_Replica_doers.l0 k a0_0 a0_1 a0_2 a0_3 a0_4 l0_5 a0_6 l0_7 l0_8 l0_9 1 0
theorem q_impl_Replica_doers.mono_l : ∀ k, (∀ y0 y1 y2 y3 y4 y5 y6 y7 y8 y9 y10 y11, LeO (q_impl_Replica_doers.l0 k y0 y1 y2 y3 y4 y5 y6 y7 y8 y9 y10 y11) (q_impl_Replica_doers.l0 (k + 1) y0 y1 y2 y3 y4 y5 y6 y7 y8 y9 y10 y11))
  | 0 => fun _ _ _ _ _ _ _ _ _ _ _ _ r h => by simp [q_impl_Replica_doers.l0] at h
  | k + 1 => by
    have ih0 := q_impl_Replica_doers.mono_l k
    · intro y0 y1 y2 y3 y4 y5 y6 y7 y8 y9 y10 y11
      unfold q_impl_Replica_doers.l0
      repeat' first
      | (with_reducible exact ih0 _ _ _ _ _ _ _ _ _ _ _ _)
      | (with_reducible exact LeO.refl _)
      | (with_reducible exact LeO.none _)
      | (with_reducible refine LeO.ite ?_ ?_)
      | (with_reducible refine LeO.bind ?_ (fun _ => ?_))
      | exact ih0 _ _ _ _ _ _ _ _ _ _ _ _
      | exact LeO.none _
      | refine LeO.ite ?_ ?_
      | refine LeO.bind ?_ (fun _ => ?_)
theorem q_impl_Replica_doers.mono : ∀ a0 a1 a2 a3 a4 a5 a6 a7 a8 a9 k, LeO (q_impl_Replica_doers.f k a0 a1 a2 a3 a4 a5 a6 a7 a8 a9) (q_impl_Replica_doers.f (k + 1) a0 a1 a2 a3 a4 a5 a6 a7 a8 a9) := by
  intro a0 a1 a2 a3 a4 a5 a6 a7 a8 a9 k
  have ih0 := q_impl_Replica_doers.mono_l k
  unfold q_impl_Replica_doers.f
  repeat' first
      | (with_reducible exact ih0 _ _ _ _ _ _ _ _ _ _ _ _)
      | (with_reducible exact LeO.refl _)
      | (with_reducible exact LeO.none _)
      | (with_reducible refine LeO.ite ?_ ?_)
      | (with_reducible refine LeO.bind ?_ (fun _ => ?_))
      | exact ih0 _ _ _ _ _ _ _ _ _ _ _ _
      | exact LeO.none _
      | refine LeO.ite ?_ ?_
      | refine LeO.bind ?_ (fun _ => ?_)
set_option maxHeartbeats 8000000 in
set_option maxRecDepth 100000 in
theorem q_impl_Replica_doers.calls (k : Nat) (p0 : Addr) (a0_0 : Int) (a0_1 : Int) (a0_2 : Int) (a0_3 : Bool) (a0_4 : Int) (A0_5 : Option Addr) (c0_5 : Nat) (l0_5 : List (S95)) (a0_6 : Int) (A0_7 : Option Addr) (c0_7 : Nat) (l0_7 : List (Int)) (A0_8 : Option Addr) (c0_8 : Nat) (l0_8 : List (Bool)) (A0_9 : Option Addr) (c0_9 : Nat) (l0_9 : List (S70)) (r : Int) (w : World) (hp0 : CellsAt w p0 [.int .i64 a0_0, .int .i64 a0_1, .int .i64 a0_2, .bool a0_3, .int .i64 a0_4, .slice A0_5 l0_5.length c0_5, .int .i64 a0_6, .slice A0_7 l0_7.length c0_7, .slice A0_8 l0_8.length c0_8, .slice A0_9 l0_9.length c0_9]) (hr0_5 : Kd.C k95 w A0_5 l0_5.length l0_5) (hc0_5 : l0_5.length ≤ c0_5) (hr0_7 : Kd.C (Kd.int .i64) w A0_7 l0_7.length l0_7) (hc0_7 : l0_7.length ≤ c0_7) (hr0_8 : Kd.C Kd.bool w A0_8 l0_8.length l0_8) (hc0_8 : l0_8.length ≤ c0_8) (hr0_9 : Kd.C k70 w A0_9 l0_9.length l0_9) (hc0_9 : l0_9.length ≤ c0_9) (h : q_impl_Replica_doers.f k a0_0 a0_1 a0_2 a0_3 a0_4 l0_5 a0_6 l0_7 l0_8 l0_9 = some r) :
    Calls Try.prog 62 #[.pointer (some p0)] w fun e w' => e = .returned (.int .i64 r) ∧ Below w.heap.size w w' := by
  have hu33 := Try.underlying33
  have hu70 := Try.underlying70
  have HP0 := Aside0.mk hp0
  have HR0_5 := Aside0.mk hr0_5
  have HC0_5 := Aside0.mk hc0_5
  have HR0_7 := Aside0.mk hr0_7
  have HC0_7 := Aside0.mk hc0_7
  have HR0_8 := Aside0.mk hr0_8
  have HC0_8 := Aside0.mk hc0_8
  have HR0_9 := Aside0.mk hr0_9
  have HC0_9 := Aside0.mk hc0_9
  clear hp0 hr0_5 hc0_5 hr0_7 hc0_7 hr0_8 hc0_8 hr0_9 hc0_9
  have HB := Aside0.mk (Below.refl w.heap.size w)
  have H : (q_impl_Replica_doers.l0 k a0_0 a0_1 a0_2 a0_3 a0_4 l0_5 a0_6 l0_7 l0_8 l0_9 1 0) = some r := h
  clear h
  have HXhp0_0 : Aside0 (w.cell? p0 = some (.int .i64 a0_0)) := ⟨HP0.out.zero rfl⟩
  have hp0_0 := (HB.out.cell (World.block_lt_of_cell? w _ HXhp0_0.out)).trans HXhp0_0.out
  have HXhp0_1 : Aside0 (w.cell? ⟨p0.block, p0.off + 1, none⟩ = some (.int .i64 a0_1)) := ⟨HP0.out.get 0 rfl⟩
  have hp0_1 := (HB.out.cell (World.block_lt_of_cell? w _ HXhp0_1.out)).trans HXhp0_1.out
  have HXhp0_2 : Aside0 (w.cell? ⟨p0.block, p0.off + 2, none⟩ = some (.int .i64 a0_2)) := ⟨HP0.out.get 1 rfl⟩
  have hp0_2 := (HB.out.cell (World.block_lt_of_cell? w _ HXhp0_2.out)).trans HXhp0_2.out
  have HXhp0_3 : Aside0 (w.cell? ⟨p0.block, p0.off + 3, none⟩ = some (.bool a0_3)) := ⟨HP0.out.get 2 rfl⟩
  have hp0_3 := (HB.out.cell (World.block_lt_of_cell? w _ HXhp0_3.out)).trans HXhp0_3.out
  have HXhp0_4 : Aside0 (w.cell? ⟨p0.block, p0.off + 4, none⟩ = some (.int .i64 a0_4)) := ⟨HP0.out.get 3 rfl⟩
  have hp0_4 := (HB.out.cell (World.block_lt_of_cell? w _ HXhp0_4.out)).trans HXhp0_4.out
  have HXhp0_5 : Aside0 (w.cell? ⟨p0.block, p0.off + 5, none⟩ = some (.slice A0_5 l0_5.length c0_5)) := ⟨HP0.out.get 4 rfl⟩
  have hp0_5 := (HB.out.cell (World.block_lt_of_cell? w _ HXhp0_5.out)).trans HXhp0_5.out
  have HXhp0_6 : Aside0 (w.cell? ⟨p0.block, p0.off + 6, none⟩ = some (.int .i64 a0_6)) := ⟨HP0.out.get 5 rfl⟩
  have hp0_6 := (HB.out.cell (World.block_lt_of_cell? w _ HXhp0_6.out)).trans HXhp0_6.out
  have HXhp0_7 : Aside0 (w.cell? ⟨p0.block, p0.off + 7, none⟩ = some (.slice A0_7 l0_7.length c0_7)) := ⟨HP0.out.get 6 rfl⟩
  have hp0_7 := (HB.out.cell (World.block_lt_of_cell? w _ HXhp0_7.out)).trans HXhp0_7.out
  have HXhp0_8 : Aside0 (w.cell? ⟨p0.block, p0.off + 8, none⟩ = some (.slice A0_8 l0_8.length c0_8)) := ⟨HP0.out.get 7 rfl⟩
  have hp0_8 := (HB.out.cell (World.block_lt_of_cell? w _ HXhp0_8.out)).trans HXhp0_8.out
  have HXhp0_9 : Aside0 (w.cell? ⟨p0.block, p0.off + 9, none⟩ = some (.slice A0_9 l0_9.length c0_9)) := ⟨HP0.out.get 8 rfl⟩
  have hp0_9 := (HB.out.cell (World.block_lt_of_cell? w _ HXhp0_9.out)).trans HXhp0_9.out
  go_enter Try.func62, Try.ntmps62
  have H' := Aside0.mk H
  clear H
  go_wp2_with (fail)
  go_loopg [3, 11] k (fun kq v3 v11 w' => ∃ (x1 : Int) (x2 : Int), v3 = .int .i64 x1 ∧ v11 = .int .i64 x2 ∧ Aside0 (q_impl_Replica_doers.l0 kq a0_0 a0_1 a0_2 a0_3 a0_4 l0_5 a0_6 l0_7 l0_8 l0_9 x1 x2 = some r) ∧ Aside0 (kq ≤ k) ∧ Aside0 (Below w.heap.size w w'))
  case atStart => exact ⟨(1), (0), (by first | rfl | (simp; done) | (simp [*]; done)), (by first | rfl | (simp; done) | (simp [*]; done)), H', ⟨Nat.le_refl _⟩, ⟨by repeat (first | (with_reducible first | exact HB.out | apply below_alloc | apply pw_below_drewN | apply below_drew1) | exact HB.out)⟩⟩
  case round =>
    clear H'
    obtain ⟨x1, x2, rfl, rfl, HA, HK1, HB⟩ := hrel
    cases gk with
    | zero => exact absurd HA.out (by simp [q_impl_Replica_doers.l0])
    | succ k1 =>
      have H := HA.out
      clear HA
      simp only [q_impl_Replica_doers.l0] at H
      have hp0_0 := (HB.out.cell (World.block_lt_of_cell? w _ HXhp0_0.out)).trans HXhp0_0.out
      have hp0_1 := (HB.out.cell (World.block_lt_of_cell? w _ HXhp0_1.out)).trans HXhp0_1.out
      have hp0_2 := (HB.out.cell (World.block_lt_of_cell? w _ HXhp0_2.out)).trans HXhp0_2.out
      have hp0_3 := (HB.out.cell (World.block_lt_of_cell? w _ HXhp0_3.out)).trans HXhp0_3.out
      have hp0_4 := (HB.out.cell (World.block_lt_of_cell? w _ HXhp0_4.out)).trans HXhp0_4.out
      have hp0_5 := (HB.out.cell (World.block_lt_of_cell? w _ HXhp0_5.out)).trans HXhp0_5.out
      have hp0_6 := (HB.out.cell (World.block_lt_of_cell? w _ HXhp0_6.out)).trans HXhp0_6.out
      have hp0_7 := (HB.out.cell (World.block_lt_of_cell? w _ HXhp0_7.out)).trans HXhp0_7.out
      have hp0_8 := (HB.out.cell (World.block_lt_of_cell? w _ HXhp0_8.out)).trans HXhp0_8.out
      have hp0_9 := (HB.out.cell (World.block_lt_of_cell? w _ HXhp0_9.out)).trans HXhp0_9.out
      by_cases c1 : x2 < (l0_9.length : Int)
      · rw [if_pos c1] at H
        have c1b0 : decide (x2 < (l0_9.length : Int)) = true := decide_eq_true c1
        clear c1
        by_cases c2 : 0 ≤ x2
        · rw [if_pos c2] at H
          have c2b0 : decide (0 ≤ x2) = true := decide_eq_true c2
          clear c2
          by_cases c3 : ((rd_T70 l0_9 x2).f0) = true
          · rw [if_pos c3] at H
            have c3b0 : ((rd_T70 l0_9 x2).f0) = true := c3
            clear c3
            by_cases c4 : x2 = a0_0
            · rw [if_pos c4] at H
              have c4b0 : (x2 == a0_0) = true := beq_iff_eq.mpr c4
              have c4b1 : (x2 != a0_0) = false := bne_eq_false_iff_eq.mpr c4
              clear c4
              have H' := Aside0.mk H
              clear H
              have p3 : 0 ≤ (x2 : Int) := of_decide_eq_true (by first | (with_reducible assumption) | assumption)
              have q3 : (x2 : Int) < (l0_9.length : Int) := of_decide_eq_true (by first | (with_reducible assumption) | assumption)
              obtain ⟨ad3, A3_2, c3_2, e3, hx3_0, hx3_1, hx3_2, hx3_3, hl3_2, hi3_2⟩ := at_T70 HR0_9.out x2 p3 q3
              cases e3
              have HXhx3_0 := Aside0.mk hx3_0
              replace hx3_0 := (HB.out.cell (World.block_lt_of_cell? w _ HXhx3_0.out)).trans HXhx3_0.out
              have HXhx3_1 := Aside0.mk hx3_1
              replace hx3_1 := (HB.out.cell (World.block_lt_of_cell? w _ HXhx3_1.out)).trans HXhx3_1.out
              have HXhx3_2 := Aside0.mk hx3_2
              replace hx3_2 := (HB.out.cell (World.block_lt_of_cell? w _ HXhx3_2.out)).trans HXhx3_2.out
              have HXhx3_3 := Aside0.mk hx3_3
              replace hx3_3 := (HB.out.cell (World.block_lt_of_cell? w _ HXhx3_3.out)).trans HXhx3_3.out
              have HR3_2 := Aside0.mk hi3_2
              have HC3_2 := Aside0.mk hl3_2
              clear hi3_2 hl3_2
              replace p3 := eq_true p3
              replace q3 := eq_true q3
              go_wp2_with (first | ((with_reducible refine gate_dst (N := 5) rfl ?_); refine box_event ?hg (N := 5) ?hd (cs := #[.bool false, .int .i64 0, .slice none 0 0, .int .i64 0]) (t := 70) ?hr ?_; (case hd => rfl); (case hg => rfl); (case hr => first | (go_simp; done) | (go_simp; rfl)); intro gb4 hg w1001 hbox hb; have n0_ := Aside0.mk (below_step (by repeat (first | (with_reducible first | exact HB.out | apply below_alloc | apply pw_below_drewN | apply below_drew1) | exact HB.out)) hb); have GEgb4 := Aside0.mk ((by rw [hg]; exact (below_size (by repeat (first | (with_reducible first | exact HB.out | apply below_alloc | apply pw_below_drewN | apply below_drew1) | exact HB.out))) : w.heap.size ≤ gb4)); clear HB; have HB := n0_; clear n0_; replace hp0_0 := (HB.out.cell (World.block_lt_of_cell? w _ HXhp0_0.out)).trans HXhp0_0.out; replace hp0_1 := (HB.out.cell (World.block_lt_of_cell? w _ HXhp0_1.out)).trans HXhp0_1.out; replace hp0_2 := (HB.out.cell (World.block_lt_of_cell? w _ HXhp0_2.out)).trans HXhp0_2.out; replace hp0_3 := (HB.out.cell (World.block_lt_of_cell? w _ HXhp0_3.out)).trans HXhp0_3.out; replace hp0_4 := (HB.out.cell (World.block_lt_of_cell? w _ HXhp0_4.out)).trans HXhp0_4.out; replace hp0_5 := (HB.out.cell (World.block_lt_of_cell? w _ HXhp0_5.out)).trans HXhp0_5.out; replace hp0_6 := (HB.out.cell (World.block_lt_of_cell? w _ HXhp0_6.out)).trans HXhp0_6.out; replace hp0_7 := (HB.out.cell (World.block_lt_of_cell? w _ HXhp0_7.out)).trans HXhp0_7.out; replace hp0_8 := (HB.out.cell (World.block_lt_of_cell? w _ HXhp0_8.out)).trans HXhp0_8.out; replace hp0_9 := (HB.out.cell (World.block_lt_of_cell? w _ HXhp0_9.out)).trans HXhp0_9.out; replace hx3_0 := (HB.out.cell (World.block_lt_of_cell? w _ HXhx3_0.out)).trans HXhx3_0.out; replace hx3_1 := (HB.out.cell (World.block_lt_of_cell? w _ HXhx3_1.out)).trans HXhx3_1.out; replace hx3_2 := (HB.out.cell (World.block_lt_of_cell? w _ HXhx3_2.out)).trans HXhx3_2.out; replace hx3_3 := (HB.out.cell (World.block_lt_of_cell? w _ HXhx3_3.out)).trans HXhx3_3.out; have BKgb4 := Aside0.mk hbox; have hxgb4_0 : _ = some (.bool false : Value) := (blk_cell BKgb4.out 0).trans rfl; have hfgb4_0 := blk_frozen BKgb4.out 0; have hxgb4_1 : _ = some (.int .i64 0 : Value) := (blk_cell BKgb4.out 1).trans rfl; have hfgb4_1 := blk_frozen BKgb4.out 1; have hxgb4_2 : _ = some (.slice none 0 0 : Value) := (blk_cell BKgb4.out 2).trans rfl; have hfgb4_2 := blk_frozen BKgb4.out 2; have hxgb4_3 : _ = some (.int .i64 0 : Value) := (blk_cell BKgb4.out 3).trans rfl; have hfgb4_3 := blk_frozen BKgb4.out 3; clear hb hbox hg) | (refine store_box gb4 0 [.bool ((rd_T70 l0_9 x2).f0), .int .i64 ((rd_T70 l0_9 x2).f1), .slice A3_2 ((rd_T70 l0_9 x2).f2).length c3_2, .int .i64 ((rd_T70 l0_9 x2).f3)] (t := 70) (p := 5) (v := ?vo_w1002) ?hg ?ho ?hn ?hr ?_; (case ho => rfl); (case hg => rfl); (case hn => rfl); (case hr => simp only [setRow, Nat.reduceAdd]; first | (go_simp; done) | (go_simp; rfl)); intro w1002 hw; simp only [setRow, Nat.reduceAdd] at hw; have n0_ := Aside0.mk (by rw [hw]; repeat (first | exact HB.out | refine below_set ?_ GEgb4.out | apply pw_below_drewN | apply below_drew1) : Below w.heap.size w w1002); have n1_ := Aside0.mk (by rw [hw]; (with_reducible repeat (first | refine blk_drewN ?_ _ | refine blk_drew ?_ | refine blk_alloc ?_ _)); refine blk_put (cs := #[.bool ((rd_T70 l0_9 x2).f0), .int .i64 ((rd_T70 l0_9 x2).f1), .slice A3_2 ((rd_T70 l0_9 x2).f2).length c3_2, .int .i64 0]) ?_ 3 _ rfl; (with_reducible repeat (first | refine blk_drewN ?_ _ | refine blk_drew ?_ | refine blk_alloc ?_ _)); refine blk_put (cs := #[.bool ((rd_T70 l0_9 x2).f0), .int .i64 ((rd_T70 l0_9 x2).f1), .slice none 0 0, .int .i64 0]) ?_ 2 _ rfl; (with_reducible repeat (first | refine blk_drewN ?_ _ | refine blk_drew ?_ | refine blk_alloc ?_ _)); refine blk_put (cs := #[.bool ((rd_T70 l0_9 x2).f0), .int .i64 0, .slice none 0 0, .int .i64 0]) ?_ 1 _ rfl; (with_reducible repeat (first | refine blk_drewN ?_ _ | refine blk_drew ?_ | refine blk_alloc ?_ _)); refine blk_put (cs := #[.bool false, .int .i64 0, .slice none 0 0, .int .i64 0]) ?_ 0 _ rfl; (with_reducible repeat (first | refine blk_drewN ?_ _ | refine blk_drew ?_ | refine blk_alloc ?_ _)); exact BKgb4.out : w1002.heap[gb4]? = some (Obj.cells #[.bool ((rd_T70 l0_9 x2).f0), .int .i64 ((rd_T70 l0_9 x2).f1), .slice A3_2 ((rd_T70 l0_9 x2).f2).length c3_2, .int .i64 ((rd_T70 l0_9 x2).f3)] 70 (0, 0))); clear HB BKgb4; have HB := n0_; have BKgb4 := n1_; clear n0_ n1_; replace hp0_0 := (HB.out.cell (World.block_lt_of_cell? w _ HXhp0_0.out)).trans HXhp0_0.out; replace hp0_1 := (HB.out.cell (World.block_lt_of_cell? w _ HXhp0_1.out)).trans HXhp0_1.out; replace hp0_2 := (HB.out.cell (World.block_lt_of_cell? w _ HXhp0_2.out)).trans HXhp0_2.out; replace hp0_3 := (HB.out.cell (World.block_lt_of_cell? w _ HXhp0_3.out)).trans HXhp0_3.out; replace hp0_4 := (HB.out.cell (World.block_lt_of_cell? w _ HXhp0_4.out)).trans HXhp0_4.out; replace hp0_5 := (HB.out.cell (World.block_lt_of_cell? w _ HXhp0_5.out)).trans HXhp0_5.out; replace hp0_6 := (HB.out.cell (World.block_lt_of_cell? w _ HXhp0_6.out)).trans HXhp0_6.out; replace hp0_7 := (HB.out.cell (World.block_lt_of_cell? w _ HXhp0_7.out)).trans HXhp0_7.out; replace hp0_8 := (HB.out.cell (World.block_lt_of_cell? w _ HXhp0_8.out)).trans HXhp0_8.out; replace hp0_9 := (HB.out.cell (World.block_lt_of_cell? w _ HXhp0_9.out)).trans HXhp0_9.out; replace hx3_0 := (HB.out.cell (World.block_lt_of_cell? w _ HXhx3_0.out)).trans HXhx3_0.out; replace hx3_1 := (HB.out.cell (World.block_lt_of_cell? w _ HXhx3_1.out)).trans HXhx3_1.out; replace hx3_2 := (HB.out.cell (World.block_lt_of_cell? w _ HXhx3_2.out)).trans HXhx3_2.out; replace hx3_3 := (HB.out.cell (World.block_lt_of_cell? w _ HXhx3_3.out)).trans HXhx3_3.out; replace hxgb4_0 : _ = some (.bool ((rd_T70 l0_9 x2).f0) : Value) := (blk_cell BKgb4.out 0).trans rfl; replace hfgb4_0 := blk_frozen BKgb4.out 0; replace hxgb4_1 : _ = some (.int .i64 ((rd_T70 l0_9 x2).f1) : Value) := (blk_cell BKgb4.out 1).trans rfl; replace hfgb4_1 := blk_frozen BKgb4.out 1; replace hxgb4_2 : _ = some (.slice A3_2 ((rd_T70 l0_9 x2).f2).length c3_2 : Value) := (blk_cell BKgb4.out 2).trans rfl; replace hfgb4_2 := blk_frozen BKgb4.out 2; replace hxgb4_3 : _ = some (.int .i64 ((rd_T70 l0_9 x2).f3) : Value) := (blk_cell BKgb4.out 3).trans rfl; replace hfgb4_3 := blk_frozen BKgb4.out 3; clear hw))
              go_roundg k1
              case measure => have := HK1.out; omega
              case rel => exact ⟨(x1), ((wrap64 (x2 + 1))), (by first | rfl | (simp; done) | (simp [*]; done)), (by first | rfl | (simp; done) | (simp [*]; done)), H', ⟨by have := HK1.out; omega⟩, ⟨by repeat (first | (with_reducible first | exact HB.out | apply below_alloc | apply pw_below_drewN | apply below_drew1) | exact HB.out)⟩⟩
            · rw [if_neg c4] at H
              have c4b0 : (x2 == a0_0) = false := beq_eq_false_iff_ne.mpr c4
              have c4b1 : (x2 != a0_0) = true := bne_iff_ne.mpr c4
              have H' := Aside0.mk H
              clear H
              have p3 : 0 ≤ (x2 : Int) := of_decide_eq_true (by first | (with_reducible assumption) | assumption)
              have q3 : (x2 : Int) < (l0_9.length : Int) := of_decide_eq_true (by first | (with_reducible assumption) | assumption)
              obtain ⟨ad3, A3_2, c3_2, e3, hx3_0, hx3_1, hx3_2, hx3_3, hl3_2, hi3_2⟩ := at_T70 HR0_9.out x2 p3 q3
              cases e3
              have HXhx3_0 := Aside0.mk hx3_0
              replace hx3_0 := (HB.out.cell (World.block_lt_of_cell? w _ HXhx3_0.out)).trans HXhx3_0.out
              have HXhx3_1 := Aside0.mk hx3_1
              replace hx3_1 := (HB.out.cell (World.block_lt_of_cell? w _ HXhx3_1.out)).trans HXhx3_1.out
              have HXhx3_2 := Aside0.mk hx3_2
              replace hx3_2 := (HB.out.cell (World.block_lt_of_cell? w _ HXhx3_2.out)).trans HXhx3_2.out
              have HXhx3_3 := Aside0.mk hx3_3
              replace hx3_3 := (HB.out.cell (World.block_lt_of_cell? w _ HXhx3_3.out)).trans HXhx3_3.out
              have HR3_2 := Aside0.mk hi3_2
              have HC3_2 := Aside0.mk hl3_2
              clear hi3_2 hl3_2
              replace p3 := eq_true p3
              replace q3 := eq_true q3
              go_wp2_with (first | ((with_reducible refine gate_dst (N := 5) rfl ?_); refine box_event ?hg (N := 5) ?hd (cs := #[.bool false, .int .i64 0, .slice none 0 0, .int .i64 0]) (t := 70) ?hr ?_; (case hd => rfl); (case hg => rfl); (case hr => first | (go_simp; done) | (go_simp; rfl)); intro gb4 hg w1003 hbox hb; have n0_ := Aside0.mk (below_step (by repeat (first | (with_reducible first | exact HB.out | apply below_alloc | apply pw_below_drewN | apply below_drew1) | exact HB.out)) hb); have GEgb4 := Aside0.mk ((by rw [hg]; exact (below_size (by repeat (first | (with_reducible first | exact HB.out | apply below_alloc | apply pw_below_drewN | apply below_drew1) | exact HB.out))) : w.heap.size ≤ gb4)); clear HB; have HB := n0_; clear n0_; replace hp0_0 := (HB.out.cell (World.block_lt_of_cell? w _ HXhp0_0.out)).trans HXhp0_0.out; replace hp0_1 := (HB.out.cell (World.block_lt_of_cell? w _ HXhp0_1.out)).trans HXhp0_1.out; replace hp0_2 := (HB.out.cell (World.block_lt_of_cell? w _ HXhp0_2.out)).trans HXhp0_2.out; replace hp0_3 := (HB.out.cell (World.block_lt_of_cell? w _ HXhp0_3.out)).trans HXhp0_3.out; replace hp0_4 := (HB.out.cell (World.block_lt_of_cell? w _ HXhp0_4.out)).trans HXhp0_4.out; replace hp0_5 := (HB.out.cell (World.block_lt_of_cell? w _ HXhp0_5.out)).trans HXhp0_5.out; replace hp0_6 := (HB.out.cell (World.block_lt_of_cell? w _ HXhp0_6.out)).trans HXhp0_6.out; replace hp0_7 := (HB.out.cell (World.block_lt_of_cell? w _ HXhp0_7.out)).trans HXhp0_7.out; replace hp0_8 := (HB.out.cell (World.block_lt_of_cell? w _ HXhp0_8.out)).trans HXhp0_8.out; replace hp0_9 := (HB.out.cell (World.block_lt_of_cell? w _ HXhp0_9.out)).trans HXhp0_9.out; replace hx3_0 := (HB.out.cell (World.block_lt_of_cell? w _ HXhx3_0.out)).trans HXhx3_0.out; replace hx3_1 := (HB.out.cell (World.block_lt_of_cell? w _ HXhx3_1.out)).trans HXhx3_1.out; replace hx3_2 := (HB.out.cell (World.block_lt_of_cell? w _ HXhx3_2.out)).trans HXhx3_2.out; replace hx3_3 := (HB.out.cell (World.block_lt_of_cell? w _ HXhx3_3.out)).trans HXhx3_3.out; have BKgb4 := Aside0.mk hbox; have hxgb4_0 : _ = some (.bool false : Value) := (blk_cell BKgb4.out 0).trans rfl; have hfgb4_0 := blk_frozen BKgb4.out 0; have hxgb4_1 : _ = some (.int .i64 0 : Value) := (blk_cell BKgb4.out 1).trans rfl; have hfgb4_1 := blk_frozen BKgb4.out 1; have hxgb4_2 : _ = some (.slice none 0 0 : Value) := (blk_cell BKgb4.out 2).trans rfl; have hfgb4_2 := blk_frozen BKgb4.out 2; have hxgb4_3 : _ = some (.int .i64 0 : Value) := (blk_cell BKgb4.out 3).trans rfl; have hfgb4_3 := blk_frozen BKgb4.out 3; clear hb hbox hg) | (refine store_box gb4 0 [.bool ((rd_T70 l0_9 x2).f0), .int .i64 ((rd_T70 l0_9 x2).f1), .slice A3_2 ((rd_T70 l0_9 x2).f2).length c3_2, .int .i64 ((rd_T70 l0_9 x2).f3)] (t := 70) (p := 5) (v := ?vo_w1004) ?hg ?ho ?hn ?hr ?_; (case ho => rfl); (case hg => rfl); (case hn => rfl); (case hr => simp only [setRow, Nat.reduceAdd]; first | (go_simp; done) | (go_simp; rfl)); intro w1004 hw; simp only [setRow, Nat.reduceAdd] at hw; have n0_ := Aside0.mk (by rw [hw]; repeat (first | exact HB.out | refine below_set ?_ GEgb4.out | apply pw_below_drewN | apply below_drew1) : Below w.heap.size w w1004); have n1_ := Aside0.mk (by rw [hw]; (with_reducible repeat (first | refine blk_drewN ?_ _ | refine blk_drew ?_ | refine blk_alloc ?_ _)); refine blk_put (cs := #[.bool ((rd_T70 l0_9 x2).f0), .int .i64 ((rd_T70 l0_9 x2).f1), .slice A3_2 ((rd_T70 l0_9 x2).f2).length c3_2, .int .i64 0]) ?_ 3 _ rfl; (with_reducible repeat (first | refine blk_drewN ?_ _ | refine blk_drew ?_ | refine blk_alloc ?_ _)); refine blk_put (cs := #[.bool ((rd_T70 l0_9 x2).f0), .int .i64 ((rd_T70 l0_9 x2).f1), .slice none 0 0, .int .i64 0]) ?_ 2 _ rfl; (with_reducible repeat (first | refine blk_drewN ?_ _ | refine blk_drew ?_ | refine blk_alloc ?_ _)); refine blk_put (cs := #[.bool ((rd_T70 l0_9 x2).f0), .int .i64 0, .slice none 0 0, .int .i64 0]) ?_ 1 _ rfl; (with_reducible repeat (first | refine blk_drewN ?_ _ | refine blk_drew ?_ | refine blk_alloc ?_ _)); refine blk_put (cs := #[.bool false, .int .i64 0, .slice none 0 0, .int .i64 0]) ?_ 0 _ rfl; (with_reducible repeat (first | refine blk_drewN ?_ _ | refine blk_drew ?_ | refine blk_alloc ?_ _)); exact BKgb4.out : w1004.heap[gb4]? = some (Obj.cells #[.bool ((rd_T70 l0_9 x2).f0), .int .i64 ((rd_T70 l0_9 x2).f1), .slice A3_2 ((rd_T70 l0_9 x2).f2).length c3_2, .int .i64 ((rd_T70 l0_9 x2).f3)] 70 (0, 0))); clear HB BKgb4; have HB := n0_; have BKgb4 := n1_; clear n0_ n1_; replace hp0_0 := (HB.out.cell (World.block_lt_of_cell? w _ HXhp0_0.out)).trans HXhp0_0.out; replace hp0_1 := (HB.out.cell (World.block_lt_of_cell? w _ HXhp0_1.out)).trans HXhp0_1.out; replace hp0_2 := (HB.out.cell (World.block_lt_of_cell? w _ HXhp0_2.out)).trans HXhp0_2.out; replace hp0_3 := (HB.out.cell (World.block_lt_of_cell? w _ HXhp0_3.out)).trans HXhp0_3.out; replace hp0_4 := (HB.out.cell (World.block_lt_of_cell? w _ HXhp0_4.out)).trans HXhp0_4.out; replace hp0_5 := (HB.out.cell (World.block_lt_of_cell? w _ HXhp0_5.out)).trans HXhp0_5.out; replace hp0_6 := (HB.out.cell (World.block_lt_of_cell? w _ HXhp0_6.out)).trans HXhp0_6.out; replace hp0_7 := (HB.out.cell (World.block_lt_of_cell? w _ HXhp0_7.out)).trans HXhp0_7.out; replace hp0_8 := (HB.out.cell (World.block_lt_of_cell? w _ HXhp0_8.out)).trans HXhp0_8.out; replace hp0_9 := (HB.out.cell (World.block_lt_of_cell? w _ HXhp0_9.out)).trans HXhp0_9.out; replace hx3_0 := (HB.out.cell (World.block_lt_of_cell? w _ HXhx3_0.out)).trans HXhx3_0.out; replace hx3_1 := (HB.out.cell (World.block_lt_of_cell? w _ HXhx3_1.out)).trans HXhx3_1.out; replace hx3_2 := (HB.out.cell (World.block_lt_of_cell? w _ HXhx3_2.out)).trans HXhx3_2.out; replace hx3_3 := (HB.out.cell (World.block_lt_of_cell? w _ HXhx3_3.out)).trans HXhx3_3.out; replace hxgb4_0 : _ = some (.bool ((rd_T70 l0_9 x2).f0) : Value) := (blk_cell BKgb4.out 0).trans rfl; replace hfgb4_0 := blk_frozen BKgb4.out 0; replace hxgb4_1 : _ = some (.int .i64 ((rd_T70 l0_9 x2).f1) : Value) := (blk_cell BKgb4.out 1).trans rfl; replace hfgb4_1 := blk_frozen BKgb4.out 1; replace hxgb4_2 : _ = some (.slice A3_2 ((rd_T70 l0_9 x2).f2).length c3_2 : Value) := (blk_cell BKgb4.out 2).trans rfl; replace hfgb4_2 := blk_frozen BKgb4.out 2; replace hxgb4_3 : _ = some (.int .i64 ((rd_T70 l0_9 x2).f3) : Value) := (blk_cell BKgb4.out 3).trans rfl; replace hfgb4_3 := blk_frozen BKgb4.out 3; clear hw))
              go_roundg k1
              case measure => have := HK1.out; omega
              case rel => exact ⟨((wrap64 (x1 + 1))), ((wrap64 (x2 + 1))), (by first | rfl | (simp; done) | (simp [*]; done)), (by first | rfl | (simp; done) | (simp [*]; done)), H', ⟨by have := HK1.out; omega⟩, ⟨by repeat (first | (with_reducible first | exact HB.out | apply below_alloc | apply pw_below_drewN | apply below_drew1) | exact HB.out)⟩⟩
          · rw [if_neg c3] at H
            have c3b0 : ((rd_T70 l0_9 x2).f0) = false := (Bool.eq_false_iff.2 c3)
            clear c3
            have H' := Aside0.mk H
            clear H
            have p3 : 0 ≤ (x2 : Int) := of_decide_eq_true (by first | (with_reducible assumption) | assumption)
            have q3 : (x2 : Int) < (l0_9.length : Int) := of_decide_eq_true (by first | (with_reducible assumption) | assumption)
            obtain ⟨ad3, A3_2, c3_2, e3, hx3_0, hx3_1, hx3_2, hx3_3, hl3_2, hi3_2⟩ := at_T70 HR0_9.out x2 p3 q3
            cases e3
            have HXhx3_0 := Aside0.mk hx3_0
            replace hx3_0 := (HB.out.cell (World.block_lt_of_cell? w _ HXhx3_0.out)).trans HXhx3_0.out
            have HXhx3_1 := Aside0.mk hx3_1
            replace hx3_1 := (HB.out.cell (World.block_lt_of_cell? w _ HXhx3_1.out)).trans HXhx3_1.out
            have HXhx3_2 := Aside0.mk hx3_2
            replace hx3_2 := (HB.out.cell (World.block_lt_of_cell? w _ HXhx3_2.out)).trans HXhx3_2.out
            have HXhx3_3 := Aside0.mk hx3_3
            replace hx3_3 := (HB.out.cell (World.block_lt_of_cell? w _ HXhx3_3.out)).trans HXhx3_3.out
            have HR3_2 := Aside0.mk hi3_2
            have HC3_2 := Aside0.mk hl3_2
            clear hi3_2 hl3_2
            replace p3 := eq_true p3
            replace q3 := eq_true q3
            go_wp2_with (first | ((with_reducible refine gate_dst (N := 5) rfl ?_); refine box_event ?hg (N := 5) ?hd (cs := #[.bool false, .int .i64 0, .slice none 0 0, .int .i64 0]) (t := 70) ?hr ?_; (case hd => rfl); (case hg => rfl); (case hr => first | (go_simp; done) | (go_simp; rfl)); intro gb4 hg w1005 hbox hb; have n0_ := Aside0.mk (below_step (by repeat (first | (with_reducible first | exact HB.out | apply below_alloc | apply pw_below_drewN | apply below_drew1) | exact HB.out)) hb); have GEgb4 := Aside0.mk ((by rw [hg]; exact (below_size (by repeat (first | (with_reducible first | exact HB.out | apply below_alloc | apply pw_below_drewN | apply below_drew1) | exact HB.out))) : w.heap.size ≤ gb4)); clear HB; have HB := n0_; clear n0_; replace hp0_0 := (HB.out.cell (World.block_lt_of_cell? w _ HXhp0_0.out)).trans HXhp0_0.out; replace hp0_1 := (HB.out.cell (World.block_lt_of_cell? w _ HXhp0_1.out)).trans HXhp0_1.out; replace hp0_2 := (HB.out.cell (World.block_lt_of_cell? w _ HXhp0_2.out)).trans HXhp0_2.out; replace hp0_3 := (HB.out.cell (World.block_lt_of_cell? w _ HXhp0_3.out)).trans HXhp0_3.out; replace hp0_4 := (HB.out.cell (World.block_lt_of_cell? w _ HXhp0_4.out)).trans HXhp0_4.out; replace hp0_5 := (HB.out.cell (World.block_lt_of_cell? w _ HXhp0_5.out)).trans HXhp0_5.out; replace hp0_6 := (HB.out.cell (World.block_lt_of_cell? w _ HXhp0_6.out)).trans HXhp0_6.out; replace hp0_7 := (HB.out.cell (World.block_lt_of_cell? w _ HXhp0_7.out)).trans HXhp0_7.out; replace hp0_8 := (HB.out.cell (World.block_lt_of_cell? w _ HXhp0_8.out)).trans HXhp0_8.out; replace hp0_9 := (HB.out.cell (World.block_lt_of_cell? w _ HXhp0_9.out)).trans HXhp0_9.out; replace hx3_0 := (HB.out.cell (World.block_lt_of_cell? w _ HXhx3_0.out)).trans HXhx3_0.out; replace hx3_1 := (HB.out.cell (World.block_lt_of_cell? w _ HXhx3_1.out)).trans HXhx3_1.out; replace hx3_2 := (HB.out.cell (World.block_lt_of_cell? w _ HXhx3_2.out)).trans HXhx3_2.out; replace hx3_3 := (HB.out.cell (World.block_lt_of_cell? w _ HXhx3_3.out)).trans HXhx3_3.out; have BKgb4 := Aside0.mk hbox; have hxgb4_0 : _ = some (.bool false : Value) := (blk_cell BKgb4.out 0).trans rfl; have hfgb4_0 := blk_frozen BKgb4.out 0; have hxgb4_1 : _ = some (.int .i64 0 : Value) := (blk_cell BKgb4.out 1).trans rfl; have hfgb4_1 := blk_frozen BKgb4.out 1; have hxgb4_2 : _ = some (.slice none 0 0 : Value) := (blk_cell BKgb4.out 2).trans rfl; have hfgb4_2 := blk_frozen BKgb4.out 2; have hxgb4_3 : _ = some (.int .i64 0 : Value) := (blk_cell BKgb4.out 3).trans rfl; have hfgb4_3 := blk_frozen BKgb4.out 3; clear hb hbox hg) | (refine store_box gb4 0 [.bool ((rd_T70 l0_9 x2).f0), .int .i64 ((rd_T70 l0_9 x2).f1), .slice A3_2 ((rd_T70 l0_9 x2).f2).length c3_2, .int .i64 ((rd_T70 l0_9 x2).f3)] (t := 70) (p := 5) (v := ?vo_w1006) ?hg ?ho ?hn ?hr ?_; (case ho => rfl); (case hg => rfl); (case hn => rfl); (case hr => simp only [setRow, Nat.reduceAdd]; first | (go_simp; done) | (go_simp; rfl)); intro w1006 hw; simp only [setRow, Nat.reduceAdd] at hw; have n0_ := Aside0.mk (by rw [hw]; repeat (first | exact HB.out | refine below_set ?_ GEgb4.out | apply pw_below_drewN | apply below_drew1) : Below w.heap.size w w1006); have n1_ := Aside0.mk (by rw [hw]; (with_reducible repeat (first | refine blk_drewN ?_ _ | refine blk_drew ?_ | refine blk_alloc ?_ _)); refine blk_put (cs := #[.bool ((rd_T70 l0_9 x2).f0), .int .i64 ((rd_T70 l0_9 x2).f1), .slice A3_2 ((rd_T70 l0_9 x2).f2).length c3_2, .int .i64 0]) ?_ 3 _ rfl; (with_reducible repeat (first | refine blk_drewN ?_ _ | refine blk_drew ?_ | refine blk_alloc ?_ _)); refine blk_put (cs := #[.bool ((rd_T70 l0_9 x2).f0), .int .i64 ((rd_T70 l0_9 x2).f1), .slice none 0 0, .int .i64 0]) ?_ 2 _ rfl; (with_reducible repeat (first | refine blk_drewN ?_ _ | refine blk_drew ?_ | refine blk_alloc ?_ _)); refine blk_put (cs := #[.bool ((rd_T70 l0_9 x2).f0), .int .i64 0, .slice none 0 0, .int .i64 0]) ?_ 1 _ rfl; (with_reducible repeat (first | refine blk_drewN ?_ _ | refine blk_drew ?_ | refine blk_alloc ?_ _)); refine blk_put (cs := #[.bool false, .int .i64 0, .slice none 0 0, .int .i64 0]) ?_ 0 _ rfl; (with_reducible repeat (first | refine blk_drewN ?_ _ | refine blk_drew ?_ | refine blk_alloc ?_ _)); exact BKgb4.out : w1006.heap[gb4]? = some (Obj.cells #[.bool ((rd_T70 l0_9 x2).f0), .int .i64 ((rd_T70 l0_9 x2).f1), .slice A3_2 ((rd_T70 l0_9 x2).f2).length c3_2, .int .i64 ((rd_T70 l0_9 x2).f3)] 70 (0, 0))); clear HB BKgb4; have HB := n0_; have BKgb4 := n1_; clear n0_ n1_; replace hp0_0 := (HB.out.cell (World.block_lt_of_cell? w _ HXhp0_0.out)).trans HXhp0_0.out; replace hp0_1 := (HB.out.cell (World.block_lt_of_cell? w _ HXhp0_1.out)).trans HXhp0_1.out; replace hp0_2 := (HB.out.cell (World.block_lt_of_cell? w _ HXhp0_2.out)).trans HXhp0_2.out; replace hp0_3 := (HB.out.cell (World.block_lt_of_cell? w _ HXhp0_3.out)).trans HXhp0_3.out; replace hp0_4 := (HB.out.cell (World.block_lt_of_cell? w _ HXhp0_4.out)).trans HXhp0_4.out; replace hp0_5 := (HB.out.cell (World.block_lt_of_cell? w _ HXhp0_5.out)).trans HXhp0_5.out; replace hp0_6 := (HB.out.cell (World.block_lt_of_cell? w _ HXhp0_6.out)).trans HXhp0_6.out; replace hp0_7 := (HB.out.cell (World.block_lt_of_cell? w _ HXhp0_7.out)).trans HXhp0_7.out; replace hp0_8 := (HB.out.cell (World.block_lt_of_cell? w _ HXhp0_8.out)).trans HXhp0_8.out; replace hp0_9 := (HB.out.cell (World.block_lt_of_cell? w _ HXhp0_9.out)).trans HXhp0_9.out; replace hx3_0 := (HB.out.cell (World.block_lt_of_cell? w _ HXhx3_0.out)).trans HXhx3_0.out; replace hx3_1 := (HB.out.cell (World.block_lt_of_cell? w _ HXhx3_1.out)).trans HXhx3_1.out; replace hx3_2 := (HB.out.cell (World.block_lt_of_cell? w _ HXhx3_2.out)).trans HXhx3_2.out; replace hx3_3 := (HB.out.cell (World.block_lt_of_cell? w _ HXhx3_3.out)).trans HXhx3_3.out; replace hxgb4_0 : _ = some (.bool ((rd_T70 l0_9 x2).f0) : Value) := (blk_cell BKgb4.out 0).trans rfl; replace hfgb4_0 := blk_frozen BKgb4.out 0; replace hxgb4_1 : _ = some (.int .i64 ((rd_T70 l0_9 x2).f1) : Value) := (blk_cell BKgb4.out 1).trans rfl; replace hfgb4_1 := blk_frozen BKgb4.out 1; replace hxgb4_2 : _ = some (.slice A3_2 ((rd_T70 l0_9 x2).f2).length c3_2 : Value) := (blk_cell BKgb4.out 2).trans rfl; replace hfgb4_2 := blk_frozen BKgb4.out 2; replace hxgb4_3 : _ = some (.int .i64 ((rd_T70 l0_9 x2).f3) : Value) := (blk_cell BKgb4.out 3).trans rfl; replace hfgb4_3 := blk_frozen BKgb4.out 3; clear hw))
            go_roundg k1
            case measure => have := HK1.out; omega
            case rel => exact ⟨(x1), ((wrap64 (x2 + 1))), (by first | rfl | (simp; done) | (simp [*]; done)), (by first | rfl | (simp; done) | (simp [*]; done)), H', ⟨by have := HK1.out; omega⟩, ⟨by repeat (first | (with_reducible first | exact HB.out | apply below_alloc | apply pw_below_drewN | apply below_drew1) | exact HB.out)⟩⟩
        · rw [if_neg c2] at H
          exact absurd H (by simp)
      · rw [if_neg c1] at H
        have c1b0 : decide (x2 < (l0_9.length : Int)) = false := decide_eq_false c1
        clear c1
        obtain rfl := Option.some.inj H
        go_wp2_with (fail)
        go_ret
        exact ⟨by first | rfl | (simp <;> rfl) | (simp [*] <;> rfl), by repeat (first | (with_reducible first | exact HB.out | apply below_alloc | apply pw_below_drewN | apply below_drew1) | exact HB.out)⟩



/-! ### impl_CountDoers: function 23 -/
def impl_CountDoers.f (k : Nat) (a0_0 : Int) (a0_1 : Int) (a0_2 : Int) (a0_3 : Bool) (a0_4 : Int) (l0_5 : List (S95)) (a0_6 : Int) (l0_7 : List Int) (l0_8 : List Bool) (l0_9 : List (S70)) : Option (Int × Int) := (q_impl_Replica_doers.f k a0_0 a0_1 a0_2 a0_3 a0_4 l0_5 a0_6 l0_7 l0_8 l0_9).bind fun t => impl_counted.f a0_0 a0_1 a0_2 a0_3 a0_4 l0_5 a0_6 l0_7 l0_8 l0_9 t
theorem impl_CountDoers.mono : ∀ a0_0 a0_1 a0_2 a0_3 a0_4 l0_5 a0_6 l0_7 l0_8 l0_9 k, LeO (impl_CountDoers.f k a0_0 a0_1 a0_2 a0_3 a0_4 l0_5 a0_6 l0_7 l0_8 l0_9) (impl_CountDoers.f (k + 1) a0_0 a0_1 a0_2 a0_3 a0_4 l0_5 a0_6 l0_7 l0_8 l0_9) := by
  intro a0_0 a0_1 a0_2 a0_3 a0_4 l0_5 a0_6 l0_7 l0_8 l0_9 k
  unfold impl_CountDoers.f
  exact LeO.bind (q_impl_Replica_doers.mono a0_0 a0_1 a0_2 a0_3 a0_4 l0_5 a0_6 l0_7 l0_8 l0_9 k) (fun _ => LeO.refl _)
set_option maxHeartbeats 8000000 in
set_option maxRecDepth 100000 in
theorem impl_CountDoers.calls (k : Nat) (a0_0 : Int) (a0_1 : Int) (a0_2 : Int) (a0_3 : Bool) (a0_4 : Int) (A0_5 : Option Addr) (c0_5 : Nat) (l0_5 : List (S95)) (a0_6 : Int) (A0_7 : Option Addr) (c0_7 : Nat) (l0_7 : List Int) (A0_8 : Option Addr) (c0_8 : Nat) (l0_8 : List Bool) (A0_9 : Option Addr) (c0_9 : Nat) (l0_9 : List (S70)) (r1 : Int) (r2 : Int) (w : World) (hr0_5 : Kd.C k95 w A0_5 l0_5.length l0_5) (hc0_5 : l0_5.length ≤ c0_5) (hr0_7 : Kd.C (Kd.int .i64) w A0_7 l0_7.length l0_7) (hc0_7 : l0_7.length ≤ c0_7) (hr0_8 : Kd.C Kd.bool w A0_8 l0_8.length l0_8) (hc0_8 : l0_8.length ≤ c0_8) (hr0_9 : Kd.C k70 w A0_9 l0_9.length l0_9) (hc0_9 : l0_9.length ≤ c0_9) (h : impl_CountDoers.f k a0_0 a0_1 a0_2 a0_3 a0_4 l0_5 a0_6 l0_7 l0_8 l0_9 = some (r1, r2)) :
    Calls Try.prog 23 #[.agg #[.int .i64 a0_0, .int .i64 a0_1, .int .i64 a0_2, .bool a0_3, .int .i64 a0_4, .slice A0_5 l0_5.length c0_5, .int .i64 a0_6, .slice A0_7 l0_7.length c0_7, .slice A0_8 l0_8.length c0_8, .slice A0_9 l0_9.length c0_9]] w fun e w' => e = .returned (.agg #[.int .i64 r1, .int .i64 r2]) ∧ Below w.heap.size w w' := by
  have hu := Try.underlying45
  have hu2 := Try.underlying33
  obtain ⟨t, h1, h2⟩ := Option.bind_eq_some_iff.1 h
  have H1 := Aside0.mk h1
  have H2 := Aside0.mk h2
  have HP := Aside0.mk (CellsAt.of_blk (blk_alloc (blk_new w (.cells #[.int .i64 a0_0, .int .i64 a0_1, .int .i64 a0_2, .bool a0_3, .int .i64 a0_4, .slice A0_5 l0_5.length c0_5, .int .i64 a0_6, .slice A0_7 l0_7.length c0_7, .slice A0_8 l0_8.length c0_8, .slice A0_9 l0_9.length c0_9] 33)) (.cells #[.int .i64 0, .int .i64 0] 45)))
  have HR5 := Aside0.mk hr0_5
  have HR7 := Aside0.mk hr0_7
  have HR8 := Aside0.mk hr0_8
  have HR9 := Aside0.mk hr0_9
  have HC5 := Aside0.mk hc0_5
  have HC7 := Aside0.mk hc0_7
  have HC8 := Aside0.mk hc0_8
  have HC9 := Aside0.mk hc0_9
  clear h h1 h2 hr0_5 hc0_5 hr0_7 hc0_7 hr0_8 hc0_8 hr0_9 hc0_9
  have RB : Aside0 (((w.alloc (.cells #[.int .i64 a0_0, .int .i64 a0_1, .int .i64 a0_2, .bool a0_3, .int .i64 a0_4, .slice A0_5 l0_5.length c0_5, .int .i64 a0_6, .slice A0_7 l0_7.length c0_7, .slice A0_8 l0_8.length c0_8, .slice A0_9 l0_9.length c0_9] 33)).alloc (.cells #[.int .i64 0, .int .i64 0] 45)).drew.heap[w.heap.size + 1]? = some (.cells #[.int .i64 0, .int .i64 0] 45 (0, 0))) := ⟨by
    have h := blk_new (w.alloc (.cells #[.int .i64 a0_0, .int .i64 a0_1, .int .i64 a0_2, .bool a0_3, .int .i64 a0_4, .slice A0_5 l0_5.length c0_5, .int .i64 a0_6, .slice A0_7 l0_7.length c0_7, .slice A0_8 l0_8.length c0_8, .slice A0_9 l0_9.length c0_9] 33)) (.cells #[.int .i64 0, .int .i64 0] 45)
    rw [show (w.alloc (.cells #[.int .i64 a0_0, .int .i64 a0_1, .int .i64 a0_2, .bool a0_3, .int .i64 a0_4, .slice A0_5 l0_5.length c0_5, .int .i64 a0_6, .slice A0_7 l0_7.length c0_7, .slice A0_8 l0_8.length c0_8, .slice A0_9 l0_9.length c0_9] 33)).heap.size = w.heap.size + 1 by simp] at h
    exact h⟩
  go_enter Try.func23, Try.ntmps23
  go_wp2
  go_region_with (first
    | (go_at_call 62; (with_reducible refine (q_impl_Replica_doers.calls k _ a0_0 a0_1 a0_2 a0_3 a0_4 A0_5 c0_5 l0_5 a0_6 A0_7 c0_7 l0_7 A0_8 c0_8 l0_8 A0_9 c0_9 l0_9 t _ ?sideP ?side1 HC5.out ?side2 HC7.out ?side3 HC8.out ?side4 HC9.out H1.out).mono ?_); (case sideP => exact HP.out); (case side1 => exact Kd.C_drew (Kd.C_alloc (Kd.C_alloc HR5.out _) _)); (case side2 => exact Kd.C_drew (Kd.C_alloc (Kd.C_alloc HR7.out _) _)); (case side3 => exact Kd.C_drew (Kd.C_alloc (Kd.C_alloc HR8.out _) _)); (case side4 => exact Kd.C_drew (Kd.C_alloc (Kd.C_alloc HR9.out _) _)); rintro e w1 ⟨rfl, hb⟩; have HX1 : Aside0 (CellsAt w1 ⟨w.heap.size, 0, none⟩ [.int .i64 a0_0, .int .i64 a0_1, .int .i64 a0_2, .bool a0_3, .int .i64 a0_4, .slice A0_5 l0_5.length c0_5, .int .i64 a0_6, .slice A0_7 l0_7.length c0_7, .slice A0_8 l0_8.length c0_8, .slice A0_9 l0_9.length c0_9]) := ⟨CellsAt.below (w := ((w.alloc _).alloc _).drew) HP.out hb⟩; have hy0 := HX1.out.zero rfl; have hy1 := HX1.out.get 0 rfl; have hy2 := HX1.out.get 1 rfl; have hy3 := HX1.out.get 2 rfl; have hy4 := HX1.out.get 3 rfl; have hy5 := HX1.out.get 4 rfl; have hy6 := HX1.out.get 5 rfl; have hy7 := HX1.out.get 6 rfl; have hy8 := HX1.out.get 7 rfl; have hy9 := HX1.out.get 8 rfl; have HB1 := Aside0.mk (below_step (below_drew (below_alloc (below_alloc (Below.refl _ _) _) _)) hb); have RB1 : Aside0 (w1.heap[w.heap.size + 1]? = some (.cells #[.int .i64 0, .int .i64 0] 45 (0, 0))) := ⟨blk_belowR hb RB.out⟩; clear hb)
    | (go_at_call 59; (with_reducible refine (impl_counted.calls a0_0 a0_1 a0_2 a0_3 a0_4 A0_5 c0_5 l0_5 a0_6 A0_7 c0_7 l0_7 A0_8 c0_8 l0_8 A0_9 c0_9 l0_9 t r1 r2 _ ?side1 HC5.out ?side2 HC7.out ?side3 HC8.out ?side4 HC9.out H2.out).mono ?_); (case side1 => exact Kd.C_below HR5.out HB1.out); (case side2 => exact Kd.C_below HR7.out HB1.out); (case side3 => exact Kd.C_below HR8.out HB1.out); (case side4 => exact Kd.C_below HR9.out HB1.out); rintro e w2 ⟨rfl, hb⟩; have HB2 := Aside0.mk (below_step HB1.out hb); have RB2 : Aside0 (w2.heap[w.heap.size + 1]? = some (.cells #[.int .i64 0, .int .i64 0] 45 (0, 0))) := ⟨blk_belowR hb RB1.out⟩; have hc0 : w2.cell? ⟨w.heap.size + 1, 0, none⟩ = some (.int .i64 0) := (blk_cell RB2.out 0).trans rfl; have hc1 : w2.cell? ⟨w.heap.size + 1, 1, none⟩ = some (.int .i64 0) := (blk_cell RB2.out 1).trans rfl; have hd0 := blk_frozen RB2.out 0; have hd1 := blk_frozen RB2.out 1; clear hb))
  all_goals go_wp2
  all_goals refine bodyPost_ret (results_cell_row rfl _ _ (w.heap.size + 1) 45 #[.int .i64 r1, .int .i64 r2] (0, 0) _ rfl (by refine blk_put (cs := #[.int .i64 r1, .int .i64 0]) ?_ 1 _ rfl; refine blk_put (cs := #[.int .i64 0, .int .i64 0]) ?_ 0 _ rfl; exact RB2.out) Try.underlying45 rfl (by kernel_rfl)) rfl ?_
  all_goals exact ⟨rfl, below_set (below_set HB2.out (by omega)) (by omega)⟩


end Go.Proofs.Ytajhhmoglfgijaa.PFnExactCountDoers
