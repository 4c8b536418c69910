/- Functions of the law FnExactCountDoers as Lean functions, and proofs that the calls come to what they tell. -/
import Derived.Test.YtajhhmoglfgijaaPFnExactCountDoersx0
import Derived.Test.YtajhhmoglfgijaaPFnExactCountDoersx4
import Derived.Test.YtajhhmoglfgijaaPFnExactCountDoersx5
namespace Go.Proofs.Ytajhhmoglfgijaa.PFnExactCountDoers
open Go.RowKit Go.Proofs.YtajhhmoglfgijaaW.PrintWords Go.Proofs.YtajhhmoglfgijaaW.PrintLast Go.Proofs.YtajhhmoglfgijaaW.PrintMore
attribute [local go_sem] max2_int min2_int max_two min_two max_three min_three max_four min_four
set_option linter.unusedVariables false
set_option linter.unusedSimpArgs false

/-! ### spec_l10Doers: function 61 -/
def spec_l10Doers.l0 : Nat → Int → Int → Int → Int → Int → Bool → Int → List (S95) → Int → List Int → List Bool → List (S70) → Option (Int × Int × Int × Int × Bool × Int × Int)
  | 0, _, _, _, _, _, _, _, _, _, _, _, _ => none
  | k + 1, x3, x4, x1000, x1001, x1002, x1003, x1004, x1005, x1006, x1007, x1008, x1009 => if x4 < (x1009.length : Int) then (if x4 = x1000 then (spec_l10Doers.l0 k x3 (wrap64 (x4 + 1)) x1000 x1001 x1002 x1003 x1004 x1005 x1006 x1007 x1008 x1009) else (if 0 ≤ x4 then (if (rd_T70 x1009 x4).f0 = true then (spec_l10Doers.l0 k (wrap64 (x3 + 1)) (wrap64 (x4 + 1)) x1000 x1001 x1002 x1003 x1004 x1005 x1006 x1007 x1008 x1009) else (spec_l10Doers.l0 k x3 (wrap64 (x4 + 1)) x1000 x1001 x1002 x1003 x1004 x1005 x1006 x1007 x1008 x1009)) else (none))) else (some (x3, x1000, x1001, x1002, x1003, x1004, x1006))
def spec_l10Doers.f (k : Nat) (s0_0 : Int) (s0_1 : Int) (s0_2 : Int) (s0_3 : Bool) (s0_4 : Int) (s0_5 : List (S95)) (s0_6 : Int) (s0_7 : List Int) (s0_8 : List Bool) (s0_9 : List (S70)) : Option (Int × Int × Int × Int × Bool × Int × Int) := spec_l10Doers.l0 k 1 0 s0_0 s0_1 s0_2 s0_3 s0_4 s0_5 s0_6 s0_7 s0_8 s0_9
theorem spec_l10Doers.mono_l : ∀ k, (∀ y0 y1 y2 y3 y4 y5 y6 y7 y8 y9 y10 y11, LeO (spec_l10Doers.l0 k y0 y1 y2 y3 y4 y5 y6 y7 y8 y9 y10 y11) (spec_l10Doers.l0 (k + 1) y0 y1 y2 y3 y4 y5 y6 y7 y8 y9 y10 y11))
  | 0 => fun _ _ _ _ _ _ _ _ _ _ _ _ r h => by simp [spec_l10Doers.l0] at h
  | k + 1 => by
    have ih0 := spec_l10Doers.mono_l k
    · intro y0 y1 y2 y3 y4 y5 y6 y7 y8 y9 y10 y11
      unfold spec_l10Doers.l0
      repeat' first
      | (with_reducible exact ih0 _ _ _ _ _ _ _ _ _ _ _ _)
      | (with_reducible exact LeO.refl _)
      | (with_reducible exact LeO.none _)
      | (with_reducible refine LeO.ite ?_ ?_)
      | (with_reducible refine LeO.bind ?_ (fun _ => ?_))
      | exact ih0 _ _ _ _ _ _ _ _ _ _ _ _
      | exact LeO.none _
      | refine LeO.ite ?_ ?_
      | refine LeO.bind ?_ (fun _ => ?_)
theorem spec_l10Doers.mono : ∀ a0 a1 a2 a3 a4 a5 a6 a7 a8 a9 k, LeO (spec_l10Doers.f k a0 a1 a2 a3 a4 a5 a6 a7 a8 a9) (spec_l10Doers.f (k + 1) a0 a1 a2 a3 a4 a5 a6 a7 a8 a9) := by
  intro a0 a1 a2 a3 a4 a5 a6 a7 a8 a9 k
  have ih0 := spec_l10Doers.mono_l k
  unfold spec_l10Doers.f
  repeat' first
      | (with_reducible exact ih0 _ _ _ _ _ _ _ _ _ _ _ _)
      | (with_reducible exact LeO.refl _)
      | (with_reducible exact LeO.none _)
      | (with_reducible refine LeO.ite ?_ ?_)
      | (with_reducible refine LeO.bind ?_ (fun _ => ?_))
      | exact ih0 _ _ _ _ _ _ _ _ _ _ _ _
      | exact LeO.none _
      | refine LeO.ite ?_ ?_
      | refine LeO.bind ?_ (fun _ => ?_)
set_option maxHeartbeats 8000000 in
set_option maxRecDepth 100000 in
theorem spec_l10Doers.calls (k : Nat) (g : Nat) (s0_0 : Int) (s0_1 : Int) (s0_2 : Int) (s0_3 : Bool) (s0_4 : Int) (s0_5 : List (S95)) (s0_6 : Int) (s0_7 : List Int) (s0_8 : List Bool) (s0_9 : List (S70)) (r1 : Int) (r2 : Int) (r3 : Int) (r4 : Int) (r5 : Bool) (r6 : Int) (r7 : Int) (w0 w : World) (hI : IsS33 w0 w g s0_0 s0_1 s0_2 s0_3 s0_4 s0_5 s0_6 s0_7 s0_8 s0_9) (hB : Below w0.heap.size w0 w) (h : spec_l10Doers.f k s0_0 s0_1 s0_2 s0_3 s0_4 s0_5 s0_6 s0_7 s0_8 s0_9 = some (r1, r2, r3, r4, r5, r6, r7)) :
    Calls Try.prog 61 #[.pointer (some ⟨g, 0, none⟩)] w fun e w' => e = .returned (.int .i64 r1) ∧ IsS33 w0 w' g r2 r3 r4 r5 r6 s0_5 r7 s0_7 s0_8 s0_9 ∧ Below w0.heap.size w0 w' ∧ KeepBut w w' g none := by
  have HI0 := Aside0.mk hI
  have HK := Aside0.mk (KeepBut.refl w g none)
  have HL := Aside0.mk hB.size
  clear hI
  have HW0 := Aside0.mk hB.size
  have HB := Aside0.mk hB
  clear hB
  have H : (spec_l10Doers.l0 k 1 0 s0_0 s0_1 s0_2 s0_3 s0_4 s0_5 s0_6 s0_7 s0_8 s0_9) = some (r1, r2, r3, r4, r5, r6, r7) := h
  clear h
  have H' := Aside0.mk H
  clear H
  go_enter Try.func61, Try.ntmps61
  go_wp2
  go_loopg [3, 4] k (fun kq v3 v4 w' => ∃ (x3_1 : Int) (x4_1 : Int), v3 = .int .i64 x3_1 ∧ v4 = .int .i64 x4_1 ∧ Aside0 (spec_l10Doers.l0 kq x3_1 x4_1 s0_0 s0_1 s0_2 s0_3 s0_4 s0_5 s0_6 s0_7 s0_8 s0_9 = some (r1, r2, r3, r4, r5, r6, r7)) ∧ Aside0 (kq ≤ k) ∧ Aside0 (IsS33 w0 w' g s0_0 s0_1 s0_2 s0_3 s0_4 s0_5 s0_6 s0_7 s0_8 s0_9) ∧ Aside0 (KeepBut w w' g none) ∧ Aside0 (Below w0.heap.size w0 w'))
  case atStart => exact ⟨(1), (0), (by first | rfl | (simp; done) | (simp [*]; done)), (by first | rfl | (simp; done) | (simp [*]; done)), H', ⟨Nat.le_refl _⟩, ⟨by repeat (first | (with_reducible first | exact HI0.out | apply IsS33.alloc | apply IsS33.drewN | apply IsS33.drew | apply IsS33.set_0 | apply IsS33.set_1 | apply IsS33.set_2 | apply IsS33.set_3 | apply IsS33.set_4 | apply IsS33.set_6) | exact HI0.out)⟩, ⟨by repeat (first | (with_reducible first | exact HK.out | apply KeepBut.set_ | apply keep_drewN | apply keep_drew | apply keep_alloc) | exact HK.out)⟩, ⟨by repeat (first | (with_reducible first | exact HB.out | apply below_alloc | apply pw_below_drewN | apply below_drew1 | refine below_set ?_ (IsS33.ge HI0.out)) | exact HB.out)⟩⟩
  case round =>
    clear H'
    obtain ⟨x3_1, x4_1, rfl, rfl, HA, HK1, HI0, HK, HB⟩ := hrel
    cases gk with
    | zero => exact absurd HA.out (by simp [spec_l10Doers.l0])
    | succ k1 =>
      have H := HA.out
      clear HA
      simp only [spec_l10Doers.l0] at H
      by_cases c2 : x4_1 < (s0_9.length : Int)
      · rw [if_pos c2] at H
        have c2b0 : decide (x4_1 < (s0_9.length : Int)) = true := decide_eq_true c2
        clear c2
        by_cases c3 : x4_1 = s0_0
        · rw [if_pos c3] at H
          have c3b0 : (x4_1 == s0_0) = true := beq_iff_eq.mpr c3
          have c3b1 : (x4_1 != s0_0) = false := bne_eq_false_iff_eq.mpr c3
          clear c3
          have H' := Aside0.mk H
          clear H
          obtain ⟨ASz4_5, cSz4_5, ASz4_7, cSz4_7, ASz4_8, cSz4_8, ASz4_9, cSz4_9, HGz4, hgz4, HSz4_5, HSz4_7, HSz4_8, HSz4_9⟩ := HI0.out
          have hcz4_0 := cellS33_0 HGz4
          have hcz4_1 := cellS33_1 HGz4
          have hcz4_2 := cellS33_2 HGz4
          have hcz4_3 := cellS33_3 HGz4
          have hcz4_4 := cellS33_4 HGz4
          have hcz4_5 := cellS33_5 HGz4
          have hcz4_6 := cellS33_6 HGz4
          have hcz4_7 := cellS33_7 HGz4
          have hcz4_8 := cellS33_8 HGz4
          have hcz4_9 := cellS33_9 HGz4
          have hfz4_0 := blk_frozen HGz4 0
          have hfz4_1 := blk_frozen HGz4 1
          have hfz4_2 := blk_frozen HGz4 2
          have hfz4_3 := blk_frozen HGz4 3
          have hfz4_4 := blk_frozen HGz4 4
          have hfz4_6 := blk_frozen HGz4 6
          clear HGz4 hgz4
          go_wp2
          go_roundg k1
          case measure => have := HK1.out; omega
          case rel => exact ⟨(x3_1), (wrap64 (x4_1 + 1)), (by first | rfl | (simp; done) | (simp [*]; done)), (by first | rfl | (simp; done) | (simp [*]; done)), H', ⟨by have := HK1.out; omega⟩, ⟨by repeat (first | (with_reducible first | exact HI0.out | apply IsS33.alloc | apply IsS33.drewN | apply IsS33.drew | apply IsS33.set_0 | apply IsS33.set_1 | apply IsS33.set_2 | apply IsS33.set_3 | apply IsS33.set_4 | apply IsS33.set_6) | exact HI0.out)⟩, ⟨by repeat (first | (with_reducible first | exact HK.out | apply KeepBut.set_ | apply keep_drewN | apply keep_drew | apply keep_alloc) | exact HK.out)⟩, ⟨by repeat (first | (with_reducible first | exact HB.out | apply below_alloc | apply pw_below_drewN | apply below_drew1 | refine below_set ?_ (IsS33.ge HI0.out)) | exact HB.out)⟩⟩
        · rw [if_neg c3] at H
          have c3b0 : (x4_1 == s0_0) = false := beq_eq_false_iff_ne.mpr c3
          have c3b1 : (x4_1 != s0_0) = true := bne_iff_ne.mpr c3
          by_cases c5 : 0 ≤ x4_1
          · rw [if_pos c5] at H
            have c5b0 : decide (0 ≤ x4_1) = true := decide_eq_true c5
            clear c5
            obtain ⟨bq6, hbq6⟩ : ∃ b_ : Bool, b_ = ((rd_T70 s0_9 x4_1).f0) := ⟨_, rfl⟩
            replace H : (if bq6 = true then (spec_l10Doers.l0 k1 (wrap64 (x3_1 + 1)) (wrap64 (x4_1 + 1)) s0_0 s0_1 s0_2 s0_3 s0_4 s0_5 s0_6 s0_7 s0_8 s0_9) else (spec_l10Doers.l0 k1 x3_1 (wrap64 (x4_1 + 1)) s0_0 s0_1 s0_2 s0_3 s0_4 s0_5 s0_6 s0_7 s0_8 s0_9)) = some (r1, r2, r3, r4, r5, r6, r7) := by rw [← hbq6] at H; exact H
            have Nbq6 := Aside0.mk hbq6
            clear hbq6
            by_cases c7 : bq6 = true
            · subst c7
              have H1 : (spec_l10Doers.l0 k1 (wrap64 (x3_1 + 1)) (wrap64 (x4_1 + 1)) s0_0 s0_1 s0_2 s0_3 s0_4 s0_5 s0_6 s0_7 s0_8 s0_9) = some (r1, r2, r3, r4, r5, r6, r7) := by rw [if_pos rfl] at H; exact H
              clear H
              have H := H1
              clear H1
              have H' := Aside0.mk H
              clear H
              obtain ⟨ASz8_5, cSz8_5, ASz8_7, cSz8_7, ASz8_8, cSz8_8, ASz8_9, cSz8_9, HGz8, hgz8, HSz8_5, HSz8_7, HSz8_8, HSz8_9⟩ := HI0.out
              have hcz8_0 := cellS33_0 HGz8
              have hcz8_1 := cellS33_1 HGz8
              have hcz8_2 := cellS33_2 HGz8
              have hcz8_3 := cellS33_3 HGz8
              have hcz8_4 := cellS33_4 HGz8
              have hcz8_5 := cellS33_5 HGz8
              have hcz8_6 := cellS33_6 HGz8
              have hcz8_7 := cellS33_7 HGz8
              have hcz8_8 := cellS33_8 HGz8
              have hcz8_9 := cellS33_9 HGz8
              have hfz8_0 := blk_frozen HGz8 0
              have hfz8_1 := blk_frozen HGz8 1
              have hfz8_2 := blk_frozen HGz8 2
              have hfz8_3 := blk_frozen HGz8 3
              have hfz8_4 := blk_frozen HGz8 4
              have hfz8_6 := blk_frozen HGz8 6
              clear HGz8 hgz8
              have p213 : 0 ≤ (x4_1 : Int) := of_decide_eq_true (by first | (with_reducible assumption) | assumption)
              have q213 : x4_1 < (s0_9.length : Int) := of_decide_eq_true (by first | (with_reducible assumption) | assumption)
              obtain ⟨ad213, A213_2, c213_2, e213, hx213_0, hx213_1, hx213_2, hx213_3, hl213_2, hi213_2⟩ := at_T70 HSz8_9 x4_1 p213 q213
              (try rw [← Nbq6.out] at hx213_0)
              cases e213
              replace hx213_0 := pw_cell_below HB.out hx213_0
              replace hx213_1 := pw_cell_below HB.out hx213_1
              replace hx213_2 := pw_cell_below HB.out hx213_2
              replace hx213_3 := pw_cell_below HB.out hx213_3
              have HR213_2 := Aside0.mk hi213_2
              have HC213_2 := Aside0.mk hl213_2
              clear hi213_2 hl213_2
              replace p213 := eq_true p213
              replace q213 := eq_true q213
              go_wp2
              go_roundg k1
              case measure => have := HK1.out; omega
              case rel => exact ⟨(wrap64 (x3_1 + 1)), (wrap64 (x4_1 + 1)), (by first | rfl | (simp; done) | (simp [*]; done)), (by first | rfl | (simp; done) | (simp [*]; done)), H', ⟨by have := HK1.out; omega⟩, ⟨by repeat (first | (with_reducible first | exact HI0.out | apply IsS33.alloc | apply IsS33.drewN | apply IsS33.drew | apply IsS33.set_0 | apply IsS33.set_1 | apply IsS33.set_2 | apply IsS33.set_3 | apply IsS33.set_4 | apply IsS33.set_6) | exact HI0.out)⟩, ⟨by repeat (first | (with_reducible first | exact HK.out | apply KeepBut.set_ | apply keep_drewN | apply keep_drew | apply keep_alloc) | exact HK.out)⟩, ⟨by repeat (first | (with_reducible first | exact HB.out | apply below_alloc | apply pw_below_drewN | apply below_drew1 | refine below_set ?_ (IsS33.ge HI0.out)) | exact HB.out)⟩⟩
            · replace c7 := Bool.eq_false_iff.mpr c7
              subst c7
              have H1 : (spec_l10Doers.l0 k1 x3_1 (wrap64 (x4_1 + 1)) s0_0 s0_1 s0_2 s0_3 s0_4 s0_5 s0_6 s0_7 s0_8 s0_9) = some (r1, r2, r3, r4, r5, r6, r7) := by rw [if_neg (show ¬ (false = true) by decide)] at H; exact H
              clear H
              have H := H1
              clear H1
              have H' := Aside0.mk H
              clear H
              obtain ⟨ASz9_5, cSz9_5, ASz9_7, cSz9_7, ASz9_8, cSz9_8, ASz9_9, cSz9_9, HGz9, hgz9, HSz9_5, HSz9_7, HSz9_8, HSz9_9⟩ := HI0.out
              have hcz9_0 := cellS33_0 HGz9
              have hcz9_1 := cellS33_1 HGz9
              have hcz9_2 := cellS33_2 HGz9
              have hcz9_3 := cellS33_3 HGz9
              have hcz9_4 := cellS33_4 HGz9
              have hcz9_5 := cellS33_5 HGz9
              have hcz9_6 := cellS33_6 HGz9
              have hcz9_7 := cellS33_7 HGz9
              have hcz9_8 := cellS33_8 HGz9
              have hcz9_9 := cellS33_9 HGz9
              have hfz9_0 := blk_frozen HGz9 0
              have hfz9_1 := blk_frozen HGz9 1
              have hfz9_2 := blk_frozen HGz9 2
              have hfz9_3 := blk_frozen HGz9 3
              have hfz9_4 := blk_frozen HGz9 4
              have hfz9_6 := blk_frozen HGz9 6
              clear HGz9 hgz9
              have p213 : 0 ≤ (x4_1 : Int) := of_decide_eq_true (by first | (with_reducible assumption) | assumption)
              have q213 : x4_1 < (s0_9.length : Int) := of_decide_eq_true (by first | (with_reducible assumption) | assumption)
              obtain ⟨ad213, A213_2, c213_2, e213, hx213_0, hx213_1, hx213_2, hx213_3, hl213_2, hi213_2⟩ := at_T70 HSz9_9 x4_1 p213 q213
              (try rw [← Nbq6.out] at hx213_0)
              cases e213
              replace hx213_0 := pw_cell_below HB.out hx213_0
              replace hx213_1 := pw_cell_below HB.out hx213_1
              replace hx213_2 := pw_cell_below HB.out hx213_2
              replace hx213_3 := pw_cell_below HB.out hx213_3
              have HR213_2 := Aside0.mk hi213_2
              have HC213_2 := Aside0.mk hl213_2
              clear hi213_2 hl213_2
              replace p213 := eq_true p213
              replace q213 := eq_true q213
              go_wp2
              go_roundg k1
              case measure => have := HK1.out; omega
              case rel => exact ⟨(x3_1), (wrap64 (x4_1 + 1)), (by first | rfl | (simp; done) | (simp [*]; done)), (by first | rfl | (simp; done) | (simp [*]; done)), H', ⟨by have := HK1.out; omega⟩, ⟨by repeat (first | (with_reducible first | exact HI0.out | apply IsS33.alloc | apply IsS33.drewN | apply IsS33.drew | apply IsS33.set_0 | apply IsS33.set_1 | apply IsS33.set_2 | apply IsS33.set_3 | apply IsS33.set_4 | apply IsS33.set_6) | exact HI0.out)⟩, ⟨by repeat (first | (with_reducible first | exact HK.out | apply KeepBut.set_ | apply keep_drewN | apply keep_drew | apply keep_alloc) | exact HK.out)⟩, ⟨by repeat (first | (with_reducible first | exact HB.out | apply below_alloc | apply pw_below_drewN | apply below_drew1 | refine below_set ?_ (IsS33.ge HI0.out)) | exact HB.out)⟩⟩
          · rw [if_neg c5] at H
            exact absurd H (by simp)
      · rw [if_neg c2] at H
        have c2b0 : decide (x4_1 < (s0_9.length : Int)) = false := decide_eq_false c2
        clear c2
        simp only [Option.some.injEq, Prod.mk.injEq] at H
        obtain ⟨rfl, rfl, rfl, rfl, rfl, rfl, rfl⟩ := H
        obtain ⟨ASz10_5, cSz10_5, ASz10_7, cSz10_7, ASz10_8, cSz10_8, ASz10_9, cSz10_9, HGz10, hgz10, HSz10_5, HSz10_7, HSz10_8, HSz10_9⟩ := HI0.out
        have hcz10_0 := cellS33_0 HGz10
        have hcz10_1 := cellS33_1 HGz10
        have hcz10_2 := cellS33_2 HGz10
        have hcz10_3 := cellS33_3 HGz10
        have hcz10_4 := cellS33_4 HGz10
        have hcz10_5 := cellS33_5 HGz10
        have hcz10_6 := cellS33_6 HGz10
        have hcz10_7 := cellS33_7 HGz10
        have hcz10_8 := cellS33_8 HGz10
        have hcz10_9 := cellS33_9 HGz10
        have hfz10_0 := blk_frozen HGz10 0
        have hfz10_1 := blk_frozen HGz10 1
        have hfz10_2 := blk_frozen HGz10 2
        have hfz10_3 := blk_frozen HGz10 3
        have hfz10_4 := blk_frozen HGz10 4
        have hfz10_6 := blk_frozen HGz10 6
        clear HGz10 hgz10
        go_wp2
        go_ret
        exact ⟨by first | rfl | (simp [errW_none, errW_some] <;> rfl) | (simp [*, errW_none, errW_some] <;> rfl), by repeat (first | (with_reducible first | exact HI0.out | apply IsS33.alloc | apply IsS33.drewN | apply IsS33.drew | apply IsS33.set_0 | apply IsS33.set_1 | apply IsS33.set_2 | apply IsS33.set_3 | apply IsS33.set_4 | apply IsS33.set_6) | exact HI0.out), by repeat (first | (with_reducible first | exact HB.out | apply below_alloc | apply pw_below_drewN | apply below_drew1 | refine below_set ?_ (IsS33.ge HI0.out)) | exact HB.out), by repeat (first | (with_reducible first | exact HK.out | apply KeepBut.set_ | apply keep_drewN | apply keep_drew | apply keep_alloc) | exact HK.out)⟩


/-! ### q_spec_l10Doers: function 61 -/
def q_spec_l10Doers.l0 : Nat → Int → Int → Int → Bool → Int → (List (S95)) → Int → (List (Int)) → (List (Bool)) → (List (S70)) → Int → Int → Option (Int)
  | 0, _, _, _, _, _, _, _, _, _, _, _, _ => none
  | k + 1, a0_0, a0_1, a0_2, a0_3, a0_4, l0_5, a0_6, l0_7, l0_8, l0_9, x1, x2 => if x2 < (l0_9.length : Int) then (if x2 = a0_0 then (q_spec_l10Doers.l0 k a0_0 a0_1 a0_2 a0_3 a0_4 l0_5 a0_6 l0_7 l0_8 l0_9 x1 (wrap64 (x2 + 1))) else (if 0 ≤ x2 then (if ((rd_T70 l0_9 x2).f0) = true then (q_spec_l10Doers.l0 k a0_0 a0_1 a0_2 a0_3 a0_4 l0_5 a0_6 l0_7 l0_8 l0_9 (wrap64 (x1 + 1)) (wrap64 (x2 + 1))) else (q_spec_l10Doers.l0 k a0_0 a0_1 a0_2 a0_3 a0_4 l0_5 a0_6 l0_7 l0_8 l0_9 x1 (wrap64 (x2 + 1)))) else (none))) else (some x1)
def q_spec_l10Doers.f (k : Nat) (a0_0 : Int) (a0_1 : Int) (a0_2 : Int) (a0_3 : Bool) (a0_4 : Int) (l0_5 : List (S95)) (a0_6 : Int) (l0_7 : List (Int)) (l0_8 : List (Bool)) (l0_9 : List (S70)) : Option (Int) := q_spec_l10Doers.l0 k a0_0 a0_1 a0_2 a0_3 a0_4 l0_5 a0_6 l0_7 l0_8 l0_9 1 0
theorem q_spec_l10Doers.mono_l : ∀ k, (∀ y0 y1 y2 y3 y4 y5 y6 y7 y8 y9 y10 y11, LeO (q_spec_l10Doers.l0 k y0 y1 y2 y3 y4 y5 y6 y7 y8 y9 y10 y11) (q_spec_l10Doers.l0 (k + 1) y0 y1 y2 y3 y4 y5 y6 y7 y8 y9 y10 y11))
  | 0 => fun _ _ _ _ _ _ _ _ _ _ _ _ r h => by simp [q_spec_l10Doers.l0] at h
  | k + 1 => by
    have ih0 := q_spec_l10Doers.mono_l k
    · intro y0 y1 y2 y3 y4 y5 y6 y7 y8 y9 y10 y11
      unfold q_spec_l10Doers.l0
      repeat' first
      | (with_reducible exact ih0 _ _ _ _ _ _ _ _ _ _ _ _)
      | (with_reducible exact LeO.refl _)
      | (with_reducible exact LeO.none _)
      | (with_reducible refine LeO.ite ?_ ?_)
      | (with_reducible refine LeO.bind ?_ (fun _ => ?_))
      | exact ih0 _ _ _ _ _ _ _ _ _ _ _ _
      | exact LeO.none _
      | refine LeO.ite ?_ ?_
      | refine LeO.bind ?_ (fun _ => ?_)
theorem q_spec_l10Doers.mono : ∀ a0 a1 a2 a3 a4 a5 a6 a7 a8 a9 k, LeO (q_spec_l10Doers.f k a0 a1 a2 a3 a4 a5 a6 a7 a8 a9) (q_spec_l10Doers.f (k + 1) a0 a1 a2 a3 a4 a5 a6 a7 a8 a9) := by
  intro a0 a1 a2 a3 a4 a5 a6 a7 a8 a9 k
  have ih0 := q_spec_l10Doers.mono_l k
  unfold q_spec_l10Doers.f
  repeat' first
      | (with_reducible exact ih0 _ _ _ _ _ _ _ _ _ _ _ _)
      | (with_reducible exact LeO.refl _)
      | (with_reducible exact LeO.none _)
      | (with_reducible refine LeO.ite ?_ ?_)
      | (with_reducible refine LeO.bind ?_ (fun _ => ?_))
      | exact ih0 _ _ _ _ _ _ _ _ _ _ _ _
      | exact LeO.none _
      | refine LeO.ite ?_ ?_
      | refine LeO.bind ?_ (fun _ => ?_)
set_option maxHeartbeats 8000000 in
set_option maxRecDepth 100000 in
theorem q_spec_l10Doers.calls (k : Nat) (p0 : Addr) (a0_0 : Int) (a0_1 : Int) (a0_2 : Int) (a0_3 : Bool) (a0_4 : Int) (A0_5 : Option Addr) (c0_5 : Nat) (l0_5 : List (S95)) (a0_6 : Int) (A0_7 : Option Addr) (c0_7 : Nat) (l0_7 : List (Int)) (A0_8 : Option Addr) (c0_8 : Nat) (l0_8 : List (Bool)) (A0_9 : Option Addr) (c0_9 : Nat) (l0_9 : List (S70)) (r : Int) (w : World) (hp0 : CellsAt w p0 [.int .i64 a0_0, .int .i64 a0_1, .int .i64 a0_2, .bool a0_3, .int .i64 a0_4, .slice A0_5 l0_5.length c0_5, .int .i64 a0_6, .slice A0_7 l0_7.length c0_7, .slice A0_8 l0_8.length c0_8, .slice A0_9 l0_9.length c0_9]) (hr0_5 : Kd.C k95 w A0_5 l0_5.length l0_5) (hc0_5 : l0_5.length ≤ c0_5) (hr0_7 : Kd.C (Kd.int .i64) w A0_7 l0_7.length l0_7) (hc0_7 : l0_7.length ≤ c0_7) (hr0_8 : Kd.C Kd.bool w A0_8 l0_8.length l0_8) (hc0_8 : l0_8.length ≤ c0_8) (hr0_9 : Kd.C k70 w A0_9 l0_9.length l0_9) (hc0_9 : l0_9.length ≤ c0_9) (h : q_spec_l10Doers.f k a0_0 a0_1 a0_2 a0_3 a0_4 l0_5 a0_6 l0_7 l0_8 l0_9 = some r) :
    Calls Try.prog 61 #[.pointer (some p0)] w fun e w' => e = .returned (.int .i64 r) ∧ Drawn0 w w' := by
  have hu33 := Try.underlying33
  have hu70 := Try.underlying70
  have HP0 := Aside0.mk hp0
  have HR0_5 := Aside0.mk hr0_5
  have HC0_5 := Aside0.mk hc0_5
  have HR0_7 := Aside0.mk hr0_7
  have HC0_7 := Aside0.mk hc0_7
  have HR0_8 := Aside0.mk hr0_8
  have HC0_8 := Aside0.mk hc0_8
  have HR0_9 := Aside0.mk hr0_9
  have HC0_9 := Aside0.mk hc0_9
  clear hp0 hr0_5 hc0_5 hr0_7 hc0_7 hr0_8 hc0_8 hr0_9 hc0_9
  have HB := Aside0.mk (Below.refl w.heap.size w)
  have HD := Aside0.mk (Drawn0.refl w)
  have H : (q_spec_l10Doers.l0 k a0_0 a0_1 a0_2 a0_3 a0_4 l0_5 a0_6 l0_7 l0_8 l0_9 1 0) = some r := h
  clear h
  have HXhp0_0 : Aside0 (w.cell? p0 = some (.int .i64 a0_0)) := ⟨HP0.out.zero rfl⟩
  have hp0_0 := (HB.out.cell (World.block_lt_of_cell? w _ HXhp0_0.out)).trans HXhp0_0.out
  have HXhp0_1 : Aside0 (w.cell? ⟨p0.block, p0.off + 1, none⟩ = some (.int .i64 a0_1)) := ⟨HP0.out.get 0 rfl⟩
  have hp0_1 := (HB.out.cell (World.block_lt_of_cell? w _ HXhp0_1.out)).trans HXhp0_1.out
  have HXhp0_2 : Aside0 (w.cell? ⟨p0.block, p0.off + 2, none⟩ = some (.int .i64 a0_2)) := ⟨HP0.out.get 1 rfl⟩
  have hp0_2 := (HB.out.cell (World.block_lt_of_cell? w _ HXhp0_2.out)).trans HXhp0_2.out
  have HXhp0_3 : Aside0 (w.cell? ⟨p0.block, p0.off + 3, none⟩ = some (.bool a0_3)) := ⟨HP0.out.get 2 rfl⟩
  have hp0_3 := (HB.out.cell (World.block_lt_of_cell? w _ HXhp0_3.out)).trans HXhp0_3.out
  have HXhp0_4 : Aside0 (w.cell? ⟨p0.block, p0.off + 4, none⟩ = some (.int .i64 a0_4)) := ⟨HP0.out.get 3 rfl⟩
  have hp0_4 := (HB.out.cell (World.block_lt_of_cell? w _ HXhp0_4.out)).trans HXhp0_4.out
  have HXhp0_5 : Aside0 (w.cell? ⟨p0.block, p0.off + 5, none⟩ = some (.slice A0_5 l0_5.length c0_5)) := ⟨HP0.out.get 4 rfl⟩
  have hp0_5 := (HB.out.cell (World.block_lt_of_cell? w _ HXhp0_5.out)).trans HXhp0_5.out
  have HXhp0_6 : Aside0 (w.cell? ⟨p0.block, p0.off + 6, none⟩ = some (.int .i64 a0_6)) := ⟨HP0.out.get 5 rfl⟩
  have hp0_6 := (HB.out.cell (World.block_lt_of_cell? w _ HXhp0_6.out)).trans HXhp0_6.out
  have HXhp0_7 : Aside0 (w.cell? ⟨p0.block, p0.off + 7, none⟩ = some (.slice A0_7 l0_7.length c0_7)) := ⟨HP0.out.get 6 rfl⟩
  have hp0_7 := (HB.out.cell (World.block_lt_of_cell? w _ HXhp0_7.out)).trans HXhp0_7.out
  have HXhp0_8 : Aside0 (w.cell? ⟨p0.block, p0.off + 8, none⟩ = some (.slice A0_8 l0_8.length c0_8)) := ⟨HP0.out.get 7 rfl⟩
  have hp0_8 := (HB.out.cell (World.block_lt_of_cell? w _ HXhp0_8.out)).trans HXhp0_8.out
  have HXhp0_9 : Aside0 (w.cell? ⟨p0.block, p0.off + 9, none⟩ = some (.slice A0_9 l0_9.length c0_9)) := ⟨HP0.out.get 8 rfl⟩
  have hp0_9 := (HB.out.cell (World.block_lt_of_cell? w _ HXhp0_9.out)).trans HXhp0_9.out
  go_enter Try.func61, Try.ntmps61
  have H' := Aside0.mk H
  clear H
  go_wp2_with (fail)
  go_loopg [3, 4] k (fun kq v3 v4 w' => ∃ (x1 : Int) (x2 : Int), v3 = .int .i64 x1 ∧ v4 = .int .i64 x2 ∧ Aside0 (q_spec_l10Doers.l0 kq a0_0 a0_1 a0_2 a0_3 a0_4 l0_5 a0_6 l0_7 l0_8 l0_9 x1 x2 = some r) ∧ Aside0 (kq ≤ k) ∧ Aside0 (Drawn0 w w'))
  case atStart => exact ⟨(1), (0), (by first | rfl | (simp; done) | (simp [*]; done)), (by first | rfl | (simp; done) | (simp [*]; done)), H', ⟨Nat.le_refl _⟩, ⟨by (try rw [World.drewN_drewN]); repeat (first | exact HD.out | exact ⟨⟨_, rfl⟩⟩ | apply Drawn0.step)⟩⟩
  case round =>
    clear H'
    obtain ⟨x1, x2, rfl, rfl, HA, HK1, HD⟩ := hrel
    have HB := Aside0.mk HD.out.below
    cases gk with
    | zero => exact absurd HA.out (by simp [q_spec_l10Doers.l0])
    | succ k1 =>
      have H := HA.out
      clear HA
      simp only [q_spec_l10Doers.l0] at H
      have hp0_0 := (HB.out.cell (World.block_lt_of_cell? w _ HXhp0_0.out)).trans HXhp0_0.out
      have hp0_1 := (HB.out.cell (World.block_lt_of_cell? w _ HXhp0_1.out)).trans HXhp0_1.out
      have hp0_2 := (HB.out.cell (World.block_lt_of_cell? w _ HXhp0_2.out)).trans HXhp0_2.out
      have hp0_3 := (HB.out.cell (World.block_lt_of_cell? w _ HXhp0_3.out)).trans HXhp0_3.out
      have hp0_4 := (HB.out.cell (World.block_lt_of_cell? w _ HXhp0_4.out)).trans HXhp0_4.out
      have hp0_5 := (HB.out.cell (World.block_lt_of_cell? w _ HXhp0_5.out)).trans HXhp0_5.out
      have hp0_6 := (HB.out.cell (World.block_lt_of_cell? w _ HXhp0_6.out)).trans HXhp0_6.out
      have hp0_7 := (HB.out.cell (World.block_lt_of_cell? w _ HXhp0_7.out)).trans HXhp0_7.out
      have hp0_8 := (HB.out.cell (World.block_lt_of_cell? w _ HXhp0_8.out)).trans HXhp0_8.out
      have hp0_9 := (HB.out.cell (World.block_lt_of_cell? w _ HXhp0_9.out)).trans HXhp0_9.out
      by_cases c1 : x2 < (l0_9.length : Int)
      · rw [if_pos c1] at H
        have c1b0 : decide (x2 < (l0_9.length : Int)) = true := decide_eq_true c1
        clear c1
        by_cases c2 : x2 = a0_0
        · rw [if_pos c2] at H
          have c2b0 : (x2 == a0_0) = true := beq_iff_eq.mpr c2
          have c2b1 : (x2 != a0_0) = false := bne_eq_false_iff_eq.mpr c2
          clear c2
          have H' := Aside0.mk H
          clear H
          go_wp2_with (fail)
          go_roundg k1
          case measure => have := HK1.out; omega
          case rel => exact ⟨(x1), ((wrap64 (x2 + 1))), (by first | rfl | (simp; done) | (simp [*]; done)), (by first | rfl | (simp; done) | (simp [*]; done)), H', ⟨by have := HK1.out; omega⟩, ⟨by (try rw [World.drewN_drewN]); repeat (first | exact HD.out | exact ⟨⟨_, rfl⟩⟩ | apply Drawn0.step)⟩⟩
        · rw [if_neg c2] at H
          have c2b0 : (x2 == a0_0) = false := beq_eq_false_iff_ne.mpr c2
          have c2b1 : (x2 != a0_0) = true := bne_iff_ne.mpr c2
          by_cases c3 : 0 ≤ x2
          · rw [if_pos c3] at H
            have c3b0 : decide (0 ≤ x2) = true := decide_eq_true c3
            clear c3
            by_cases c4 : ((rd_T70 l0_9 x2).f0) = true
            · rw [if_pos c4] at H
              have c4b0 : ((rd_T70 l0_9 x2).f0) = true := c4
              clear c4
              have H' := Aside0.mk H
              clear H
              have p3 : 0 ≤ (x2 : Int) := of_decide_eq_true (by first | (with_reducible assumption) | assumption)
              have q3 : (x2 : Int) < (l0_9.length : Int) := of_decide_eq_true (by first | (with_reducible assumption) | assumption)
              obtain ⟨ad3, A3_2, c3_2, e3, hx3_0, hx3_1, hx3_2, hx3_3, hl3_2, hi3_2⟩ := at_T70 HR0_9.out x2 p3 q3
              cases e3
              have HXhx3_0 := Aside0.mk hx3_0
              replace hx3_0 := (HB.out.cell (World.block_lt_of_cell? w _ HXhx3_0.out)).trans HXhx3_0.out
              have HXhx3_1 := Aside0.mk hx3_1
              replace hx3_1 := (HB.out.cell (World.block_lt_of_cell? w _ HXhx3_1.out)).trans HXhx3_1.out
              have HXhx3_2 := Aside0.mk hx3_2
              replace hx3_2 := (HB.out.cell (World.block_lt_of_cell? w _ HXhx3_2.out)).trans HXhx3_2.out
              have HXhx3_3 := Aside0.mk hx3_3
              replace hx3_3 := (HB.out.cell (World.block_lt_of_cell? w _ HXhx3_3.out)).trans HXhx3_3.out
              have HR3_2 := Aside0.mk hi3_2
              have HC3_2 := Aside0.mk hl3_2
              clear hi3_2 hl3_2
              replace p3 := eq_true p3
              replace q3 := eq_true q3
              go_wp2_with (fail)
              go_roundg k1
              case measure => have := HK1.out; omega
              case rel => exact ⟨((wrap64 (x1 + 1))), ((wrap64 (x2 + 1))), (by first | rfl | (simp; done) | (simp [*]; done)), (by first | rfl | (simp; done) | (simp [*]; done)), H', ⟨by have := HK1.out; omega⟩, ⟨by (try rw [World.drewN_drewN]); repeat (first | exact HD.out | exact ⟨⟨_, rfl⟩⟩ | apply Drawn0.step)⟩⟩
            · rw [if_neg c4] at H
              have c4b0 : ((rd_T70 l0_9 x2).f0) = false := (Bool.eq_false_iff.2 c4)
              clear c4
              have H' := Aside0.mk H
              clear H
              have p3 : 0 ≤ (x2 : Int) := of_decide_eq_true (by first | (with_reducible assumption) | assumption)
              have q3 : (x2 : Int) < (l0_9.length : Int) := of_decide_eq_true (by first | (with_reducible assumption) | assumption)
              obtain ⟨ad3, A3_2, c3_2, e3, hx3_0, hx3_1, hx3_2, hx3_3, hl3_2, hi3_2⟩ := at_T70 HR0_9.out x2 p3 q3
              cases e3
              have HXhx3_0 := Aside0.mk hx3_0
              replace hx3_0 := (HB.out.cell (World.block_lt_of_cell? w _ HXhx3_0.out)).trans HXhx3_0.out
              have HXhx3_1 := Aside0.mk hx3_1
              replace hx3_1 := (HB.out.cell (World.block_lt_of_cell? w _ HXhx3_1.out)).trans HXhx3_1.out
              have HXhx3_2 := Aside0.mk hx3_2
              replace hx3_2 := (HB.out.cell (World.block_lt_of_cell? w _ HXhx3_2.out)).trans HXhx3_2.out
              have HXhx3_3 := Aside0.mk hx3_3
              replace hx3_3 := (HB.out.cell (World.block_lt_of_cell? w _ HXhx3_3.out)).trans HXhx3_3.out
              have HR3_2 := Aside0.mk hi3_2
              have HC3_2 := Aside0.mk hl3_2
              clear hi3_2 hl3_2
              replace p3 := eq_true p3
              replace q3 := eq_true q3
              go_wp2_with (fail)
              go_roundg k1
              case measure => have := HK1.out; omega
              case rel => exact ⟨(x1), ((wrap64 (x2 + 1))), (by first | rfl | (simp; done) | (simp [*]; done)), (by first | rfl | (simp; done) | (simp [*]; done)), H', ⟨by have := HK1.out; omega⟩, ⟨by (try rw [World.drewN_drewN]); repeat (first | exact HD.out | exact ⟨⟨_, rfl⟩⟩ | apply Drawn0.step)⟩⟩
          · rw [if_neg c3] at H
            exact absurd H (by simp)
      · rw [if_neg c1] at H
        have c1b0 : decide (x2 < (l0_9.length : Int)) = false := decide_eq_false c1
        clear c1
        obtain rfl := Option.some.inj H
        go_wp2_with (fail)
        go_ret
        exact ⟨by first | rfl | (simp <;> rfl) | (simp [*] <;> rfl), by (try rw [World.drewN_drewN]); repeat (first | exact HD.out | exact ⟨⟨_, rfl⟩⟩ | apply Drawn0.step)⟩

/-! ### spec_CountDoers: function 22 -/
def spec_CountDoers.f (k : Nat) (a0_0 : Int) (a0_1 : Int) (a0_2 : Int) (a0_3 : Bool) (a0_4 : Int) (l0_5 : List (S95)) (a0_6 : Int) (l0_7 : List (Int)) (l0_8 : List (Bool)) (l0_9 : List (S70)) : Option (Int × Int) := (q_spec_l9Fault.f a0_0 a0_1 a0_2 a0_3 a0_4 l0_5 a0_6 l0_7 l0_8 l0_9).bind fun t3 => (if t3 = 0 then ((q_spec_l10Doers.f k a0_0 a0_1 a0_2 a0_3 a0_4 l0_5 a0_6 l0_7 l0_8 l0_9).bind fun t5 => (some (0, t5))) else (some (t3, 0)))
theorem spec_CountDoers.mono : ∀ a0 a1 a2 a3 a4 a5 a6 a7 a8 a9 k, LeO (spec_CountDoers.f k a0 a1 a2 a3 a4 a5 a6 a7 a8 a9) (spec_CountDoers.f (k + 1) a0 a1 a2 a3 a4 a5 a6 a7 a8 a9) := by
  intro a0 a1 a2 a3 a4 a5 a6 a7 a8 a9 k
  unfold spec_CountDoers.f
  repeat' first
      | (with_reducible exact q_spec_l10Doers.mono _ _ _ _ _ _ _ _ _ _ _)
      | (with_reducible exact LeO.refl _)
      | (with_reducible exact LeO.none _)
      | (with_reducible refine LeO.ite ?_ ?_)
      | (with_reducible refine LeO.bind ?_ (fun _ => ?_))
      | exact q_spec_l10Doers.mono _ _ _ _ _ _ _ _ _ _ _
      | exact LeO.none _
      | refine LeO.ite ?_ ?_
      | refine LeO.bind ?_ (fun _ => ?_)
set_option maxHeartbeats 8000000 in
set_option maxRecDepth 100000 in
theorem spec_CountDoers.calls (k : Nat) (a0_0 : Int) (a0_1 : Int) (a0_2 : Int) (a0_3 : Bool) (a0_4 : Int) (A0_5 : Option Addr) (c0_5 : Nat) (l0_5 : List (S95)) (a0_6 : Int) (A0_7 : Option Addr) (c0_7 : Nat) (l0_7 : List (Int)) (A0_8 : Option Addr) (c0_8 : Nat) (l0_8 : List (Bool)) (A0_9 : Option Addr) (c0_9 : Nat) (l0_9 : List (S70)) (r1 : Int) (r2 : Int) (w : World) (hr0_5 : Kd.C k95 w A0_5 l0_5.length l0_5) (hc0_5 : l0_5.length ≤ c0_5) (hr0_7 : Kd.C (Kd.int .i64) w A0_7 l0_7.length l0_7) (hc0_7 : l0_7.length ≤ c0_7) (hr0_8 : Kd.C Kd.bool w A0_8 l0_8.length l0_8) (hc0_8 : l0_8.length ≤ c0_8) (hr0_9 : Kd.C k70 w A0_9 l0_9.length l0_9) (hc0_9 : l0_9.length ≤ c0_9) (h : spec_CountDoers.f k a0_0 a0_1 a0_2 a0_3 a0_4 l0_5 a0_6 l0_7 l0_8 l0_9 = some (r1, r2)) :
    Calls Try.prog 22 #[.agg #[.int .i64 a0_0, .int .i64 a0_1, .int .i64 a0_2, .bool a0_3, .int .i64 a0_4, .slice A0_5 l0_5.length c0_5, .int .i64 a0_6, .slice A0_7 l0_7.length c0_7, .slice A0_8 l0_8.length c0_8, .slice A0_9 l0_9.length c0_9]] w fun e w' => e = .returned (.agg #[.int .i64 r1, .int .i64 r2]) ∧ Below w.heap.size w w' := by
  have hu33 := Try.underlying33
  have hu45 := Try.underlying45
  have HR0_5 := Aside0.mk hr0_5
  have HC0_5 := Aside0.mk hc0_5
  have HR0_7 := Aside0.mk hr0_7
  have HC0_7 := Aside0.mk hc0_7
  have HR0_8 := Aside0.mk hr0_8
  have HC0_8 := Aside0.mk hc0_8
  have HR0_9 := Aside0.mk hr0_9
  have HC0_9 := Aside0.mk hc0_9
  clear hr0_5 hc0_5 hr0_7 hc0_7 hr0_8 hc0_8 hr0_9 hc0_9
  have HB := Aside0.mk (Below.refl w.heap.size w)
  have H : ((q_spec_l9Fault.f a0_0 a0_1 a0_2 a0_3 a0_4 l0_5 a0_6 l0_7 l0_8 l0_9).bind fun t3 => (if t3 = 0 then ((q_spec_l10Doers.f k a0_0 a0_1 a0_2 a0_3 a0_4 l0_5 a0_6 l0_7 l0_8 l0_9).bind fun t5 => (some (0, t5))) else (some (t3, 0)))) = some (r1, r2) := h
  clear h
  go_enter Try.func22, Try.ntmps22
  replace H := Option.bind_eq_some_iff.mp H
  obtain ⟨t3, A40, H⟩ := H
  replace H : (if t3 = 0 then ((q_spec_l10Doers.f k a0_0 a0_1 a0_2 a0_3 a0_4 l0_5 a0_6 l0_7 l0_8 l0_9).bind fun t5 => (some (0, t5))) else (some (t3, 0))) = some (r1, r2) := H
  have A4 := Aside0.mk A40
  clear A40
  go_wp2_with (first | ((with_reducible refine gate_dst (N := 1) rfl ?_); refine box_event ?hg (N := 1) ?hd (cs := #[.int .i64 a0_0, .int .i64 a0_1, .int .i64 a0_2, .bool a0_3, .int .i64 a0_4, .slice A0_5 l0_5.length c0_5, .int .i64 a0_6, .slice A0_7 l0_7.length c0_7, .slice A0_8 l0_8.length c0_8, .slice A0_9 l0_9.length c0_9]) (t := 33) ?hr ?_; (case hd => rfl); (case hg => rfl); (case hr => first | (go_simp; done) | (go_simp; rfl)); intro gb1 hg w1001 hbox hb; have n0_ := Aside0.mk (below_step (by repeat (first | (with_reducible first | exact HB.out | apply below_alloc | apply pw_below_drewN | apply below_drew1) | exact HB.out)) hb); have GEgb1 := Aside0.mk ((by rw [hg]; exact (below_size (by repeat (first | (with_reducible first | exact HB.out | apply below_alloc | apply pw_below_drewN | apply below_drew1) | exact HB.out))) : w.heap.size ≤ gb1)); clear HB; have HB := n0_; clear n0_; have BKgb1 := Aside0.mk hbox; have hxgb1_0 : _ = some (.int .i64 a0_0 : Value) := (blk_cell BKgb1.out 0).trans rfl; have hfgb1_0 := blk_frozen BKgb1.out 0; have hxgb1_1 : _ = some (.int .i64 a0_1 : Value) := (blk_cell BKgb1.out 1).trans rfl; have hfgb1_1 := blk_frozen BKgb1.out 1; have hxgb1_2 : _ = some (.int .i64 a0_2 : Value) := (blk_cell BKgb1.out 2).trans rfl; have hfgb1_2 := blk_frozen BKgb1.out 2; have hxgb1_3 : _ = some (.bool a0_3 : Value) := (blk_cell BKgb1.out 3).trans rfl; have hfgb1_3 := blk_frozen BKgb1.out 3; have hxgb1_4 : _ = some (.int .i64 a0_4 : Value) := (blk_cell BKgb1.out 4).trans rfl; have hfgb1_4 := blk_frozen BKgb1.out 4; have hxgb1_5 : _ = some (.slice A0_5 l0_5.length c0_5 : Value) := (blk_cell BKgb1.out 5).trans rfl; have hfgb1_5 := blk_frozen BKgb1.out 5; have hxgb1_6 : _ = some (.int .i64 a0_6 : Value) := (blk_cell BKgb1.out 6).trans rfl; have hfgb1_6 := blk_frozen BKgb1.out 6; have hxgb1_7 : _ = some (.slice A0_7 l0_7.length c0_7 : Value) := (blk_cell BKgb1.out 7).trans rfl; have hfgb1_7 := blk_frozen BKgb1.out 7; have hxgb1_8 : _ = some (.slice A0_8 l0_8.length c0_8 : Value) := (blk_cell BKgb1.out 8).trans rfl; have hfgb1_8 := blk_frozen BKgb1.out 8; have hxgb1_9 : _ = some (.slice A0_9 l0_9.length c0_9 : Value) := (blk_cell BKgb1.out 9).trans rfl; have hfgb1_9 := blk_frozen BKgb1.out 9; clear hb hbox hg) | ((with_reducible refine gate_dst (N := 2) rfl ?_); refine box_event ?hg (N := 2) ?hd (cs := #[.int .i64 0, .int .i64 0]) (t := 45) ?hr ?_; (case hd => rfl); (case hg => rfl); (case hr => first | (go_simp; done) | (go_simp; rfl)); intro gb2 hg w1002 hbox hb; have NBgb1_gb2 := Aside0.mk (by rw [hg]; exact Nat.ne_of_lt (blk_lt BKgb1.out) : gb1 ≠ gb2); have n0_ := Aside0.mk (below_step (by repeat (first | (with_reducible first | exact HB.out | apply below_alloc | apply pw_below_drewN | apply below_drew1) | exact HB.out)) hb); have GEgb2 := Aside0.mk ((by rw [hg]; exact (below_size (by repeat (first | (with_reducible first | exact HB.out | apply below_alloc | apply pw_below_drewN | apply below_drew1) | exact HB.out))) : w.heap.size ≤ gb2)); clear HB; have HB := n0_; clear n0_; have n_ := Aside0.mk (blk_belowR hb BKgb1.out); clear BKgb1; have BKgb1 := n_; clear n_; replace hxgb1_0 : _ = some (.int .i64 a0_0 : Value) := (blk_cell BKgb1.out 0).trans rfl; replace hfgb1_0 := blk_frozen BKgb1.out 0; replace hxgb1_1 : _ = some (.int .i64 a0_1 : Value) := (blk_cell BKgb1.out 1).trans rfl; replace hfgb1_1 := blk_frozen BKgb1.out 1; replace hxgb1_2 : _ = some (.int .i64 a0_2 : Value) := (blk_cell BKgb1.out 2).trans rfl; replace hfgb1_2 := blk_frozen BKgb1.out 2; replace hxgb1_3 : _ = some (.bool a0_3 : Value) := (blk_cell BKgb1.out 3).trans rfl; replace hfgb1_3 := blk_frozen BKgb1.out 3; replace hxgb1_4 : _ = some (.int .i64 a0_4 : Value) := (blk_cell BKgb1.out 4).trans rfl; replace hfgb1_4 := blk_frozen BKgb1.out 4; replace hxgb1_5 : _ = some (.slice A0_5 l0_5.length c0_5 : Value) := (blk_cell BKgb1.out 5).trans rfl; replace hfgb1_5 := blk_frozen BKgb1.out 5; replace hxgb1_6 : _ = some (.int .i64 a0_6 : Value) := (blk_cell BKgb1.out 6).trans rfl; replace hfgb1_6 := blk_frozen BKgb1.out 6; replace hxgb1_7 : _ = some (.slice A0_7 l0_7.length c0_7 : Value) := (blk_cell BKgb1.out 7).trans rfl; replace hfgb1_7 := blk_frozen BKgb1.out 7; replace hxgb1_8 : _ = some (.slice A0_8 l0_8.length c0_8 : Value) := (blk_cell BKgb1.out 8).trans rfl; replace hfgb1_8 := blk_frozen BKgb1.out 8; replace hxgb1_9 : _ = some (.slice A0_9 l0_9.length c0_9 : Value) := (blk_cell BKgb1.out 9).trans rfl; replace hfgb1_9 := blk_frozen BKgb1.out 9; have BKgb2 := Aside0.mk hbox; have hxgb2_0 : _ = some (.int .i64 0 : Value) := (blk_cell BKgb2.out 0).trans rfl; have hfgb2_0 := blk_frozen BKgb2.out 0; have hxgb2_1 : _ = some (.int .i64 0 : Value) := (blk_cell BKgb2.out 1).trans rfl; have hfgb2_1 := blk_frozen BKgb2.out 1; clear hb hbox hg))
  go_at_call 36
  (with_reducible refine (q_spec_l9Fault.calls ⟨gb1, 0, none⟩ a0_0 a0_1 a0_2 a0_3 a0_4 A0_5 c0_5 l0_5 a0_6 A0_7 c0_7 l0_7 A0_8 c0_8 l0_8 A0_9 c0_9 l0_9 t3 _ ?side1 ?side2 ?side3 ?side4 ?side5 ?side6 ?side7 ?side8 ?side9 A4.out).mono ?_)
  (case side1 => exact cellsAt_mk hxgb1_0 (cf_cons hxgb1_1 (cf_cons hxgb1_2 (cf_cons hxgb1_3 (cf_cons hxgb1_4 (cf_cons hxgb1_5 (cf_cons hxgb1_6 (cf_cons hxgb1_7 (cf_cons hxgb1_8 (cf_cons hxgb1_9 (cf_nil _ _ _)))))))))))
  (case side2 => repeat (first | exact (Kd.C_below HR0_5.out HB.out) | (with_reducible refine Kd.C_alloc ?_ _) | (with_reducible refine Kd.C_drewN ?_ _) | (with_reducible refine Kd.C_drew ?_)))
  (case side3 => exact HC0_5.out)
  (case side4 => repeat (first | exact (Kd.C_below HR0_7.out HB.out) | (with_reducible refine Kd.C_alloc ?_ _) | (with_reducible refine Kd.C_drewN ?_ _) | (with_reducible refine Kd.C_drew ?_)))
  (case side5 => exact HC0_7.out)
  (case side6 => repeat (first | exact (Kd.C_below HR0_8.out HB.out) | (with_reducible refine Kd.C_alloc ?_ _) | (with_reducible refine Kd.C_drewN ?_ _) | (with_reducible refine Kd.C_drew ?_)))
  (case side7 => exact HC0_8.out)
  (case side8 => repeat (first | exact (Kd.C_below HR0_9.out HB.out) | (with_reducible refine Kd.C_alloc ?_ _) | (with_reducible refine Kd.C_drewN ?_ _) | (with_reducible refine Kd.C_drew ?_)))
  (case side9 => exact HC0_9.out)
  rintro e w1003 ⟨rfl, hb⟩; have n0_ := Aside0.mk (below_step (by repeat (first | (with_reducible first | exact HB.out | apply below_alloc | apply pw_below_drewN | apply below_drew1) | exact HB.out)) hb); clear HB; have HB := n0_; clear n0_; have n_ := Aside0.mk (blk_belowR hb BKgb1.out); clear BKgb1; have BKgb1 := n_; clear n_; replace hxgb1_0 : _ = some (.int .i64 a0_0 : Value) := (blk_cell BKgb1.out 0).trans rfl; replace hfgb1_0 := blk_frozen BKgb1.out 0; replace hxgb1_1 : _ = some (.int .i64 a0_1 : Value) := (blk_cell BKgb1.out 1).trans rfl; replace hfgb1_1 := blk_frozen BKgb1.out 1; replace hxgb1_2 : _ = some (.int .i64 a0_2 : Value) := (blk_cell BKgb1.out 2).trans rfl; replace hfgb1_2 := blk_frozen BKgb1.out 2; replace hxgb1_3 : _ = some (.bool a0_3 : Value) := (blk_cell BKgb1.out 3).trans rfl; replace hfgb1_3 := blk_frozen BKgb1.out 3; replace hxgb1_4 : _ = some (.int .i64 a0_4 : Value) := (blk_cell BKgb1.out 4).trans rfl; replace hfgb1_4 := blk_frozen BKgb1.out 4; replace hxgb1_5 : _ = some (.slice A0_5 l0_5.length c0_5 : Value) := (blk_cell BKgb1.out 5).trans rfl; replace hfgb1_5 := blk_frozen BKgb1.out 5; replace hxgb1_6 : _ = some (.int .i64 a0_6 : Value) := (blk_cell BKgb1.out 6).trans rfl; replace hfgb1_6 := blk_frozen BKgb1.out 6; replace hxgb1_7 : _ = some (.slice A0_7 l0_7.length c0_7 : Value) := (blk_cell BKgb1.out 7).trans rfl; replace hfgb1_7 := blk_frozen BKgb1.out 7; replace hxgb1_8 : _ = some (.slice A0_8 l0_8.length c0_8 : Value) := (blk_cell BKgb1.out 8).trans rfl; replace hfgb1_8 := blk_frozen BKgb1.out 8; replace hxgb1_9 : _ = some (.slice A0_9 l0_9.length c0_9 : Value) := (blk_cell BKgb1.out 9).trans rfl; replace hfgb1_9 := blk_frozen BKgb1.out 9; have n_ := Aside0.mk (blk_belowR hb BKgb2.out); clear BKgb2; have BKgb2 := n_; clear n_; replace hxgb2_0 : _ = some (.int .i64 0 : Value) := (blk_cell BKgb2.out 0).trans rfl; replace hfgb2_0 := blk_frozen BKgb2.out 0; replace hxgb2_1 : _ = some (.int .i64 0 : Value) := (blk_cell BKgb2.out 1).trans rfl; replace hfgb2_1 := blk_frozen BKgb2.out 1; (try clear hb)
  by_cases c1 : t3 = 0
  · rw [if_pos c1] at H
    have c1b0 : (t3 == 0) = true := beq_iff_eq.mpr c1
    have c1b1 : (t3 != 0) = false := bne_eq_false_iff_eq.mpr c1
    clear c1
    replace H := Option.bind_eq_some_iff.mp H
    obtain ⟨t5, A60, H⟩ := H
    replace H : (some (0, t5)) = some (r1, r2) := H
    have A6 := Aside0.mk A60
    clear A60
    go_wp2_with (fail)
    go_at_call 61
    (with_reducible refine (q_spec_l10Doers.calls k ⟨gb1, 0, none⟩ a0_0 a0_1 a0_2 a0_3 a0_4 A0_5 c0_5 l0_5 a0_6 A0_7 c0_7 l0_7 A0_8 c0_8 l0_8 A0_9 c0_9 l0_9 t5 _ ?side1 ?side2 ?side3 ?side4 ?side5 ?side6 ?side7 ?side8 ?side9 A6.out).mono ?_)
    (case side1 => exact cellsAt_mk hxgb1_0 (cf_cons hxgb1_1 (cf_cons hxgb1_2 (cf_cons hxgb1_3 (cf_cons hxgb1_4 (cf_cons hxgb1_5 (cf_cons hxgb1_6 (cf_cons hxgb1_7 (cf_cons hxgb1_8 (cf_cons hxgb1_9 (cf_nil _ _ _)))))))))))
    (case side2 => repeat (first | exact (Kd.C_below HR0_5.out HB.out) | (with_reducible refine Kd.C_alloc ?_ _) | (with_reducible refine Kd.C_drewN ?_ _) | (with_reducible refine Kd.C_drew ?_)))
    (case side3 => exact HC0_5.out)
    (case side4 => repeat (first | exact (Kd.C_below HR0_7.out HB.out) | (with_reducible refine Kd.C_alloc ?_ _) | (with_reducible refine Kd.C_drewN ?_ _) | (with_reducible refine Kd.C_drew ?_)))
    (case side5 => exact HC0_7.out)
    (case side6 => repeat (first | exact (Kd.C_below HR0_8.out HB.out) | (with_reducible refine Kd.C_alloc ?_ _) | (with_reducible refine Kd.C_drewN ?_ _) | (with_reducible refine Kd.C_drew ?_)))
    (case side7 => exact HC0_8.out)
    (case side8 => repeat (first | exact (Kd.C_below HR0_9.out HB.out) | (with_reducible refine Kd.C_alloc ?_ _) | (with_reducible refine Kd.C_drewN ?_ _) | (with_reducible refine Kd.C_drew ?_)))
    (case side9 => exact HC0_9.out)
    rintro e w1004 ⟨rfl, ⟨nd, rfl⟩⟩
    simp only [Option.some.injEq, Prod.mk.injEq] at H
    obtain ⟨rfl, rfl⟩ := H
    go_wp2_with ((refine store_box gb2 0 [.int .i64 0, .int .i64 t5] (t := 45) (p := 2) (v := ?vo_w1005) ?hg ?ho ?hn ?hr ?_; (case ho => rfl); (case hg => rfl); (case hn => rfl); (case hr => simp only [setRow, Nat.reduceAdd]; first | (go_simp; done) | (go_simp; rfl)); intro w1005 hw; simp only [setRow, Nat.reduceAdd] at hw; have n0_ := Aside0.mk (by rw [hw]; repeat (first | exact HB.out | refine below_set ?_ GEgb2.out | apply pw_below_drewN | apply below_drew1) : Below w.heap.size w w1005); have n1_ := Aside0.mk (by rw [hw]; (with_reducible repeat (first | refine blk_drewN ?_ _ | refine blk_drew ?_ | refine blk_alloc ?_ _)); refine blk_put (cs := #[.int .i64 0, .int .i64 0]) ?_ 1 _ rfl; (with_reducible repeat (first | refine blk_drewN ?_ _ | refine blk_drew ?_ | refine blk_alloc ?_ _)); refine blk_put (cs := #[.int .i64 0, .int .i64 0]) ?_ 0 _ rfl; (with_reducible repeat (first | refine blk_drewN ?_ _ | refine blk_drew ?_ | refine blk_alloc ?_ _)); exact BKgb2.out : w1005.heap[gb2]? = some (Obj.cells #[.int .i64 0, .int .i64 t5] 45 (0, 0))); clear HB BKgb2; have HB := n0_; have BKgb2 := n1_; clear n0_ n1_; have n_ := Aside0.mk ((by rw [hw]; (repeat (first | refine blk_drewN ?_ _ | refine blk_far ?_ NBgb1_gb2.out _)); exact BKgb1.out : w1005.heap[gb1]? = some (Obj.cells #[.int .i64 a0_0, .int .i64 a0_1, .int .i64 a0_2, .bool a0_3, .int .i64 a0_4, .slice A0_5 l0_5.length c0_5, .int .i64 a0_6, .slice A0_7 l0_7.length c0_7, .slice A0_8 l0_8.length c0_8, .slice A0_9 l0_9.length c0_9] 33 (0, 0)))); clear BKgb1; have BKgb1 := n_; clear n_; replace hxgb1_0 : _ = some (.int .i64 a0_0 : Value) := (blk_cell BKgb1.out 0).trans rfl; replace hfgb1_0 := blk_frozen BKgb1.out 0; replace hxgb1_1 : _ = some (.int .i64 a0_1 : Value) := (blk_cell BKgb1.out 1).trans rfl; replace hfgb1_1 := blk_frozen BKgb1.out 1; replace hxgb1_2 : _ = some (.int .i64 a0_2 : Value) := (blk_cell BKgb1.out 2).trans rfl; replace hfgb1_2 := blk_frozen BKgb1.out 2; replace hxgb1_3 : _ = some (.bool a0_3 : Value) := (blk_cell BKgb1.out 3).trans rfl; replace hfgb1_3 := blk_frozen BKgb1.out 3; replace hxgb1_4 : _ = some (.int .i64 a0_4 : Value) := (blk_cell BKgb1.out 4).trans rfl; replace hfgb1_4 := blk_frozen BKgb1.out 4; replace hxgb1_5 : _ = some (.slice A0_5 l0_5.length c0_5 : Value) := (blk_cell BKgb1.out 5).trans rfl; replace hfgb1_5 := blk_frozen BKgb1.out 5; replace hxgb1_6 : _ = some (.int .i64 a0_6 : Value) := (blk_cell BKgb1.out 6).trans rfl; replace hfgb1_6 := blk_frozen BKgb1.out 6; replace hxgb1_7 : _ = some (.slice A0_7 l0_7.length c0_7 : Value) := (blk_cell BKgb1.out 7).trans rfl; replace hfgb1_7 := blk_frozen BKgb1.out 7; replace hxgb1_8 : _ = some (.slice A0_8 l0_8.length c0_8 : Value) := (blk_cell BKgb1.out 8).trans rfl; replace hfgb1_8 := blk_frozen BKgb1.out 8; replace hxgb1_9 : _ = some (.slice A0_9 l0_9.length c0_9 : Value) := (blk_cell BKgb1.out 9).trans rfl; replace hfgb1_9 := blk_frozen BKgb1.out 9; replace hxgb2_0 : _ = some (.int .i64 0 : Value) := (blk_cell BKgb2.out 0).trans rfl; replace hfgb2_0 := blk_frozen BKgb2.out 0; replace hxgb2_1 : _ = some (.int .i64 t5 : Value) := (blk_cell BKgb2.out 1).trans rfl; replace hfgb2_1 := blk_frozen BKgb2.out 1; clear hw))
    refine bodyPost_ret (results_cell_row rfl _ _ gb2 45 #[.int .i64 0, .int .i64 t5] (0, 0) _ rfl (by (with_reducible repeat (first | refine blk_drewN ?_ _ | refine blk_drew ?_ | refine blk_alloc ?_ _)); exact BKgb2.out) Try.underlying45 rfl (by kernel_rfl)) rfl ?_
    exact ⟨by first | rfl | (simp <;> rfl) | (simp [*] <;> rfl), by repeat (first | (with_reducible first | exact HB.out | apply below_alloc | apply pw_below_drewN | apply below_drew1 | refine below_set ?_ GEgb1.out | refine below_set ?_ GEgb2.out) | exact HB.out)⟩
  · rw [if_neg c1] at H
    have c1b0 : (t3 == 0) = false := beq_eq_false_iff_ne.mpr c1
    have c1b1 : (t3 != 0) = true := bne_iff_ne.mpr c1
    simp only [Option.some.injEq, Prod.mk.injEq] at H
    obtain ⟨rfl, rfl⟩ := H
    go_wp2_with ((refine store_box gb2 0 [.int .i64 t3, .int .i64 0] (t := 45) (p := 2) (v := ?vo_w1006) ?hg ?ho ?hn ?hr ?_; (case ho => rfl); (case hg => rfl); (case hn => rfl); (case hr => simp only [setRow, Nat.reduceAdd]; first | (go_simp; done) | (go_simp; rfl)); intro w1006 hw; simp only [setRow, Nat.reduceAdd] at hw; have n0_ := Aside0.mk (by rw [hw]; repeat (first | exact HB.out | refine below_set ?_ GEgb2.out | apply pw_below_drewN | apply below_drew1) : Below w.heap.size w w1006); have n1_ := Aside0.mk (by rw [hw]; (with_reducible repeat (first | refine blk_drewN ?_ _ | refine blk_drew ?_ | refine blk_alloc ?_ _)); refine blk_put (cs := #[.int .i64 t3, .int .i64 0]) ?_ 1 _ rfl; (with_reducible repeat (first | refine blk_drewN ?_ _ | refine blk_drew ?_ | refine blk_alloc ?_ _)); refine blk_put (cs := #[.int .i64 0, .int .i64 0]) ?_ 0 _ rfl; (with_reducible repeat (first | refine blk_drewN ?_ _ | refine blk_drew ?_ | refine blk_alloc ?_ _)); exact BKgb2.out : w1006.heap[gb2]? = some (Obj.cells #[.int .i64 t3, .int .i64 0] 45 (0, 0))); clear HB BKgb2; have HB := n0_; have BKgb2 := n1_; clear n0_ n1_; have n_ := Aside0.mk ((by rw [hw]; (repeat (first | refine blk_drewN ?_ _ | refine blk_far ?_ NBgb1_gb2.out _)); exact BKgb1.out : w1006.heap[gb1]? = some (Obj.cells #[.int .i64 a0_0, .int .i64 a0_1, .int .i64 a0_2, .bool a0_3, .int .i64 a0_4, .slice A0_5 l0_5.length c0_5, .int .i64 a0_6, .slice A0_7 l0_7.length c0_7, .slice A0_8 l0_8.length c0_8, .slice A0_9 l0_9.length c0_9] 33 (0, 0)))); clear BKgb1; have BKgb1 := n_; clear n_; replace hxgb1_0 : _ = some (.int .i64 a0_0 : Value) := (blk_cell BKgb1.out 0).trans rfl; replace hfgb1_0 := blk_frozen BKgb1.out 0; replace hxgb1_1 : _ = some (.int .i64 a0_1 : Value) := (blk_cell BKgb1.out 1).trans rfl; replace hfgb1_1 := blk_frozen BKgb1.out 1; replace hxgb1_2 : _ = some (.int .i64 a0_2 : Value) := (blk_cell BKgb1.out 2).trans rfl; replace hfgb1_2 := blk_frozen BKgb1.out 2; replace hxgb1_3 : _ = some (.bool a0_3 : Value) := (blk_cell BKgb1.out 3).trans rfl; replace hfgb1_3 := blk_frozen BKgb1.out 3; replace hxgb1_4 : _ = some (.int .i64 a0_4 : Value) := (blk_cell BKgb1.out 4).trans rfl; replace hfgb1_4 := blk_frozen BKgb1.out 4; replace hxgb1_5 : _ = some (.slice A0_5 l0_5.length c0_5 : Value) := (blk_cell BKgb1.out 5).trans rfl; replace hfgb1_5 := blk_frozen BKgb1.out 5; replace hxgb1_6 : _ = some (.int .i64 a0_6 : Value) := (blk_cell BKgb1.out 6).trans rfl; replace hfgb1_6 := blk_frozen BKgb1.out 6; replace hxgb1_7 : _ = some (.slice A0_7 l0_7.length c0_7 : Value) := (blk_cell BKgb1.out 7).trans rfl; replace hfgb1_7 := blk_frozen BKgb1.out 7; replace hxgb1_8 : _ = some (.slice A0_8 l0_8.length c0_8 : Value) := (blk_cell BKgb1.out 8).trans rfl; replace hfgb1_8 := blk_frozen BKgb1.out 8; replace hxgb1_9 : _ = some (.slice A0_9 l0_9.length c0_9 : Value) := (blk_cell BKgb1.out 9).trans rfl; replace hfgb1_9 := blk_frozen BKgb1.out 9; replace hxgb2_0 : _ = some (.int .i64 t3 : Value) := (blk_cell BKgb2.out 0).trans rfl; replace hfgb2_0 := blk_frozen BKgb2.out 0; replace hxgb2_1 : _ = some (.int .i64 0 : Value) := (blk_cell BKgb2.out 1).trans rfl; replace hfgb2_1 := blk_frozen BKgb2.out 1; clear hw))
    refine bodyPost_ret (results_cell_row rfl _ _ gb2 45 #[.int .i64 t3, .int .i64 0] (0, 0) _ rfl (by (with_reducible repeat (first | refine blk_drewN ?_ _ | refine blk_drew ?_ | refine blk_alloc ?_ _)); exact BKgb2.out) Try.underlying45 rfl (by kernel_rfl)) rfl ?_
    exact ⟨by first | rfl | (simp <;> rfl) | (simp [*] <;> rfl), by repeat (first | (with_reducible first | exact HB.out | apply below_alloc | apply pw_below_drewN | apply below_drew1 | refine below_set ?_ GEgb1.out | refine below_set ?_ GEgb2.out) | exact HB.out)⟩

/-! ### impl_within: function 41 -/
def impl_within.f (a0 : Int) (a1 : Int) (a2 : Int) : Option (Bool) := if a1 ≤ a0 then (some (decide (a0 ≤ a2))) else (some false)
set_option maxHeartbeats 8000000 in
set_option maxRecDepth 100000 in
theorem impl_within.calls (a0 : Int) (a1 : Int) (a2 : Int) (r : Bool) (w : World) (h : impl_within.f a0 a1 a2 = some r) :
    Calls Try.prog 41 #[.int .i64 a0, .int .i64 a1, .int .i64 a2] w fun e w' => e = .returned (.bool r) ∧ Drawn0 w w' := by
  have H : (if a1 ≤ a0 then (some (decide (a0 ≤ a2))) else (some false)) = some r := h
  clear h
  by_cases c4 : a1 ≤ a0
  · rw [if_pos c4] at H
    have c4b0 : decide (a1 ≤ a0) = true := decide_eq_true c4
    clear c4
    obtain rfl := Option.some.inj H
    go_enter Try.func41, Try.ntmps41
    go_wp2
    go_ret
    exact ⟨by first | rfl | (simp; done) | (simp [*]; done), by repeat (first | exact Drawn0.refl _ | apply Drawn0.step)⟩
  · rw [if_neg c4] at H
    have c4b0 : decide (a1 ≤ a0) = false := decide_eq_false c4
    clear c4
    obtain rfl := Option.some.inj H
    go_enter Try.func41, Try.ntmps41
    go_wp2
    go_ret
    exact ⟨by first | rfl | (simp; done) | (simp [*]; done), by repeat (first | exact Drawn0.refl _ | apply Drawn0.step)⟩

/-! ### impl_isId: function 99 -/
def impl_isId.f (a0 : Int) : Option (Bool) := (impl_within.f a0 1 99).bind fun t216 => (some t216)
set_option maxHeartbeats 8000000 in
set_option maxRecDepth 100000 in
theorem impl_isId.calls (a0 : Int) (r : Bool) (w : World) (h : impl_isId.f a0 = some r) :
    Calls Try.prog 99 #[.int .i64 a0] w fun e w' => e = .returned (.bool r) ∧ Drawn0 w w' := by
  have H : ((impl_within.f a0 1 99).bind fun t216 => (some t216)) = some r := h
  clear h
  replace H := Option.bind_eq_some_iff.mp H
  obtain ⟨t216, A20, H⟩ := H
  replace H : (some t216) = some r := H
  have A2 := Aside0.mk A20
  clear A20
  obtain rfl := Option.some.inj H
  go_enter Try.func99, Try.ntmps99
  go_wp2_with (first | ((with_reducible refine gate_callee (f := 41) rfl ?_); refine goesL_ (some 4) rfl rfl Try.func41 (by kernel_rfl) rfl #[.int .i64 a0, .int .i64 1, .int .i64 99] rfl (by (try simp only [List.map_toArray, List.map_cons, List.map_nil]); first | done | rfl | (simp only [List.length_drop, List.length_take]; rfl)) ?_; (with_reducible refine (impl_within.calls a0 1 99 t216 _ A2.out).mono ?_); rintro e w' ⟨rfl, ⟨nd, rfl⟩⟩; refine ⟨_, rfl, ?_⟩))
  go_ret
  exact ⟨by first | rfl | (simp; done) | (simp [*]; done), by repeat (first | exact Drawn0.refl _ | apply Drawn0.step)⟩

/-! ### impl_isQuota: function 105 -/
def impl_isQuota.f (a0 : Int) : Option (Bool) := (impl_within.f a0 1 16).bind fun t217 => (some t217)
set_option maxHeartbeats 8000000 in
set_option maxRecDepth 100000 in
theorem impl_isQuota.calls (a0 : Int) (r : Bool) (w : World) (h : impl_isQuota.f a0 = some r) :
    Calls Try.prog 105 #[.int .i64 a0] w fun e w' => e = .returned (.bool r) ∧ Drawn0 w w' := by
  have H : ((impl_within.f a0 1 16).bind fun t217 => (some t217)) = some r := h
  clear h
  replace H := Option.bind_eq_some_iff.mp H
  obtain ⟨t217, A20, H⟩ := H
  replace H : (some t217) = some r := H
  have A2 := Aside0.mk A20
  clear A20
  obtain rfl := Option.some.inj H
  go_enter Try.func105, Try.ntmps105
  go_wp2_with (first | ((with_reducible refine gate_callee (f := 41) rfl ?_); refine goesL_ (some 4) rfl rfl Try.func41 (by kernel_rfl) rfl #[.int .i64 a0, .int .i64 1, .int .i64 16] rfl (by (try simp only [List.map_toArray, List.map_cons, List.map_nil]); first | done | rfl | (simp only [List.length_drop, List.length_take]; rfl)) ?_; (with_reducible refine (impl_within.calls a0 1 16 t217 _ A2.out).mono ?_); rintro e w' ⟨rfl, ⟨nd, rfl⟩⟩; refine ⟨_, rfl, ?_⟩))
  go_ret
  exact ⟨by first | rfl | (simp; done) | (simp [*]; done), by repeat (first | exact Drawn0.refl _ | apply Drawn0.step)⟩

/-! ### impl_isByte: function 106 -/
def impl_isByte.f (a0 : Int) : Option (Bool) := (impl_within.f a0 0 255).bind fun t218 => (some t218)
set_option maxHeartbeats 8000000 in
set_option maxRecDepth 100000 in
theorem impl_isByte.calls (a0 : Int) (r : Bool) (w : World) (h : impl_isByte.f a0 = some r) :
    Calls Try.prog 106 #[.int .i64 a0] w fun e w' => e = .returned (.bool r) ∧ Drawn0 w w' := by
  have H : ((impl_within.f a0 0 255).bind fun t218 => (some t218)) = some r := h
  clear h
  replace H := Option.bind_eq_some_iff.mp H
  obtain ⟨t218, A20, H⟩ := H
  replace H : (some t218) = some r := H
  have A2 := Aside0.mk A20
  clear A20
  obtain rfl := Option.some.inj H
  go_enter Try.func106, Try.ntmps106
  go_wp2_with (first | ((with_reducible refine gate_callee (f := 41) rfl ?_); refine goesL_ (some 4) rfl rfl Try.func41 (by kernel_rfl) rfl #[.int .i64 a0, .int .i64 0, .int .i64 255] rfl (by (try simp only [List.map_toArray, List.map_cons, List.map_nil]); first | done | rfl | (simp only [List.length_drop, List.length_take]; rfl)) ?_; (with_reducible refine (impl_within.calls a0 0 255 t218 _ A2.out).mono ?_); rintro e w' ⟨rfl, ⟨nd, rfl⟩⟩; refine ⟨_, rfl, ?_⟩))
  go_ret
  exact ⟨by first | rfl | (simp; done) | (simp [*]; done), by repeat (first | exact Drawn0.refl _ | apply Drawn0.step)⟩

/-! ### impl_isTreePlace: function 107 -/
def impl_isTreePlace.f (a0 : Int) : Option (Bool) := (impl_within.f a0 0 15).bind fun t219 => (some t219)
set_option maxHeartbeats 8000000 in
set_option maxRecDepth 100000 in
theorem impl_isTreePlace.calls (a0 : Int) (r : Bool) (w : World) (h : impl_isTreePlace.f a0 = some r) :
    Calls Try.prog 107 #[.int .i64 a0] w fun e w' => e = .returned (.bool r) ∧ Drawn0 w w' := by
  have H : ((impl_within.f a0 0 15).bind fun t219 => (some t219)) = some r := h
  clear h
  replace H := Option.bind_eq_some_iff.mp H
  obtain ⟨t219, A20, H⟩ := H
  replace H : (some t219) = some r := H
  have A2 := Aside0.mk A20
  clear A20
  obtain rfl := Option.some.inj H
  go_enter Try.func107, Try.ntmps107
  go_wp2_with (first | ((with_reducible refine gate_callee (f := 41) rfl ?_); refine goesL_ (some 4) rfl rfl Try.func41 (by kernel_rfl) rfl #[.int .i64 a0, .int .i64 0, .int .i64 15] rfl (by (try simp only [List.map_toArray, List.map_cons, List.map_nil]); first | done | rfl | (simp only [List.length_drop, List.length_take]; rfl)) ?_; (with_reducible refine (impl_within.calls a0 0 15 t219 _ A2.out).mono ?_); rintro e w' ⟨rfl, ⟨nd, rfl⟩⟩; refine ⟨_, rfl, ?_⟩))
  go_ret
  exact ⟨by first | rfl | (simp; done) | (simp [*]; done), by repeat (first | exact Drawn0.refl _ | apply Drawn0.step)⟩



/-! ### impl_OpFault: function 100 -/
theorem hd_within (a b c : Int) (w : World) : Calls Try.prog 41 #[.int .i64 a, .int .i64 b, .int .i64 c] w fun e w' => e = .returned (.bool (decide (b ≤ a) && decide (a ≤ c))) ∧ w' = w := by
  by_cases h : b ≤ a
  · have hb : decide (b ≤ a) = true := decide_eq_true h
    go_enter Try.func41, Try.ntmps41
    go_wp2
    go_ret
    exact ⟨by simp [hb], rfl⟩
  · have hb : decide (b ≤ a) = false := decide_eq_false h
    go_enter Try.func41, Try.ntmps41
    go_wp2
    go_ret
    exact ⟨by simp [hb], rfl⟩
theorem hd_isId (a : Int) (w : World) : Calls Try.prog 99 #[.int .i64 a] w fun e w' => e = .returned (.bool (decide (1 ≤ a) && decide (a ≤ 99))) ∧ w' = w := by
  go_enter Try.func99, Try.ntmps99
  go_wp2_with (go_at_call 41; refine (hd_within _ _ _ _).mono ?_; rintro e w' ⟨rfl, rfl⟩)
  go_ret
  exact ⟨rfl, rfl⟩
theorem hd_isQuota (a : Int) (w : World) : Calls Try.prog 105 #[.int .i64 a] w fun e w' => e = .returned (.bool (decide (1 ≤ a) && decide (a ≤ 16))) ∧ w' = w := by
  go_enter Try.func105, Try.ntmps105
  go_wp2_with (go_at_call 41; refine (hd_within _ _ _ _).mono ?_; rintro e w' ⟨rfl, rfl⟩)
  go_ret
  exact ⟨rfl, rfl⟩
theorem hd_isByte (a : Int) (w : World) : Calls Try.prog 106 #[.int .i64 a] w fun e w' => e = .returned (.bool (decide (0 ≤ a) && decide (a ≤ 255))) ∧ w' = w := by
  go_enter Try.func106, Try.ntmps106
  go_wp2_with (go_at_call 41; refine (hd_within _ _ _ _).mono ?_; rintro e w' ⟨rfl, rfl⟩)
  go_ret
  exact ⟨rfl, rfl⟩
theorem hd_isTreePlace (a : Int) (w : World) : Calls Try.prog 107 #[.int .i64 a] w fun e w' => e = .returned (.bool (decide (0 ≤ a) && decide (a ≤ 15))) ∧ w' = w := by
  go_enter Try.func107, Try.ntmps107
  go_wp2_with (go_at_call 41; refine (hd_within _ _ _ _).mono ?_; rintro e w' ⟨rfl, rfl⟩)
  go_ret
  exact ⟨rfl, rfl⟩
def impl_OpFault.f (a0_0 : Int) (a0_1 : Int) (a0_2 : Int) (a0_3 : Int) : Option (Int) := some (opF a0_0 a0_1 a0_2 a0_3)
set_option maxHeartbeats 8000000 in
set_option maxRecDepth 100000 in
theorem impl_OpFault.calls (a0_0 : Int) (a0_1 : Int) (a0_2 : Int) (a0_3 : Int) (r : Int) (w : World) (h : impl_OpFault.f a0_0 a0_1 a0_2 a0_3 = some r) :
    Calls Try.prog 100 #[.agg #[.int .i64 a0_0, .int .i64 a0_1, .int .i64 a0_2, .int .i64 a0_3]] w fun e w' => e = .returned (.int .i64 r) ∧ Below w.heap.size w w' := by
  obtain rfl := Option.some.inj h
  clear h
  have hu := Try.underlying93
  go_enter Try.func100, Try.ntmps100
  go_wp2_with (first | (go_at_call 41; refine (hd_within _ _ _ _).mono ?_; rintro e w' ⟨rfl, rfl⟩) | (go_at_call 99; refine (hd_isId _ _).mono ?_; rintro e w' ⟨rfl, rfl⟩) | (go_at_call 105; refine (hd_isQuota _ _).mono ?_; rintro e w' ⟨rfl, rfl⟩) | (go_at_call 106; refine (hd_isByte _ _).mono ?_; rintro e w' ⟨rfl, rfl⟩) | (go_at_call 107; refine (hd_isTreePlace _ _).mono ?_; rintro e w' ⟨rfl, rfl⟩))
  all_goals
    go_ret
    refine ⟨ret_i64 ?_, (Below.refl _ _).alloc (Nat.le_refl _) _⟩
    clear hu
    simp only [Bool.not_eq_eq_eq_not, Bool.not_true, Bool.not_false, decide_eq_true_eq, decide_eq_false_iff_not, beq_iff_eq, beq_eq_false_iff_ne, bne_iff_ne, bne_eq_false_iff_eq, ne_eq, Int.not_le, Int.not_lt] at *
    unfold opF
    (repeat' split) <;> omega




/-! ### impl_EntryFault: function 79 -/
def impl_EntryFault.f (a0_0 : Int) (a0_1 : Int) (a0_2 : Int) (a0_3 : Int) (a0_4 : Int) (a0_5 : Int) : Option (Int) := some (entF a0_0 a0_1 a0_2 a0_3 a0_4 a0_5)
set_option maxHeartbeats 8000000 in
set_option maxRecDepth 100000 in
theorem impl_EntryFault.calls (a0_0 : Int) (a0_1 : Int) (a0_2 : Int) (a0_3 : Int) (a0_4 : Int) (a0_5 : Int) (r : Int) (w : World) (h : impl_EntryFault.f a0_0 a0_1 a0_2 a0_3 a0_4 a0_5 = some r) :
    Calls Try.prog 79 #[.agg #[.int .i64 a0_0, .int .i64 a0_1, .int .i64 a0_2, .int .i64 a0_3, .int .i64 a0_4, .int .i64 a0_5]] w fun e w' => e = .returned (.int .i64 r) ∧ Below w.heap.size w w' := by
  obtain rfl := Option.some.inj h
  clear h
  have hu := Try.underlying95
  have hv := Try.underlying93
  have HB := Aside0.mk (Below.refl w.heap.size w)
  go_enter Try.func79, Try.ntmps79
  go_wp2_with (first | (go_at_call 41; refine (hd_within _ _ _ _).mono ?_; rintro e w' ⟨rfl, rfl⟩) | (go_at_call 99; refine (hd_isId _ _).mono ?_; rintro e w' ⟨rfl, rfl⟩) | (go_at_call 100; refine (impl_OpFault.calls _ _ _ _ _ _ rfl).mono ?_; rintro e w1 ⟨rfl, hb⟩; have n_ := Aside0.mk (below_step (by repeat (first | (with_reducible first | exact HB.out | apply below_alloc | apply pw_below_drewN | apply below_drew1) | exact HB.out)) hb); obtain ⟨hc_, hf_⟩ := bcell hb; clear HB hb; have HB := n_; clear n_))
  all_goals
    go_ret
    refine ⟨ret_i64 ?_, (by repeat (first | (with_reducible first | exact HB.out | apply below_alloc | apply pw_below_drewN | apply below_drew1) | exact HB.out))⟩
    clear hu hv
    try simp only [Bool.not_eq_eq_eq_not, Bool.not_true, Bool.not_false, decide_eq_true_eq, decide_eq_false_iff_not, beq_iff_eq, beq_eq_false_iff_ne, bne_iff_ne, bne_eq_false_iff_eq, ne_eq, Int.not_le, Int.not_lt] at *
    unfold entF
    (repeat' split) <;> omega




/-! ### impl_LogFault: function 42 -/
def impl_LogFault.f (l0 : List (S95)) : Option (Int) := some (logF l0)
set_option maxHeartbeats 8000000 in
set_option maxRecDepth 100000 in
theorem impl_LogFault.calls (A0 : Option Addr) (c0 : Nat) (l0 : List (S95)) (r : Int) (w : World) (hr0 : Kd.C k95 w A0 l0.length l0) (hc0 : l0.length ≤ c0) (h : impl_LogFault.f l0 = some r) :
    Calls Try.prog 42 #[.slice A0 l0.length c0] w fun e w' => e = .returned (.int .i64 r) ∧ Below w.heap.size w w' := by
  obtain rfl := Option.some.inj h
  clear h
  have hu := Try.underlying95
  have HR := Aside0.mk hr0
  have HC := Aside0.mk hc0
  clear hr0 hc0
  have HB := Aside0.mk (Below.refl w.heap.size w)
  by_cases hm : 40 < l0.length
  · have hm1 : decide (40 < (l0.length : Int)) = true := decide_eq_true (by omega)
    go_enter Try.func42, Try.ntmps42
    go_wp2
    go_ret
    exact ⟨ret_i64 (by unfold logF; rw [if_pos hm]), (by repeat (first | (with_reducible first | exact HB.out | apply below_alloc | apply pw_below_drewN | apply below_drew1) | exact HB.out))⟩
  · have hm1 : decide (40 < (l0.length : Int)) = false := decide_eq_false (by omega)
    go_enter Try.func42, Try.ntmps42
    go_wp2
    go_loopw [11] (fun v w' => ∃ k : Nat, k ≤ l0.length ∧ v = .int .i64 k ∧ Aside0 (entsF l0 = entsF (l0.drop k)) ∧ Aside0 (Below w.heap.size w w')) (fun v _ => l0.length - (intOf v).toNat)
    case atStart => exact ⟨0, by omega, rfl, ⟨by simp⟩, ⟨(by repeat (first | (with_reducible first | exact HB.out | apply below_alloc | apply pw_below_drewN | apply below_drew1) | exact HB.out))⟩⟩
    case round =>
      clear HB
      obtain ⟨k, hk, rfl, HN, HB⟩ := hrel
      by_cases hlt : k < l0.length
      · have hl1 : decide ((k : Int) < (l0.length : Int)) = true := decide_eq_true (by omega)
        obtain ⟨ad, e1, hx0, hx1, hx2, hx3, hx4, hx5⟩ := at_T95 HR.out (k : Int) (by omega) (by omega)
        cases e1
        simp only [Int.toNat_natCast] at hx0 hx1 hx2 hx3 hx4 hx5
        have HN2 := Aside0.mk (entsF_drop l0 k hlt)
        replace hx0 := (HB.out.cell (World.block_lt_of_cell? w _ hx0)).trans hx0
        replace hx1 := (HB.out.cell (World.block_lt_of_cell? w _ hx1)).trans hx1
        replace hx2 := (HB.out.cell (World.block_lt_of_cell? w _ hx2)).trans hx2
        replace hx3 := (HB.out.cell (World.block_lt_of_cell? w _ hx3)).trans hx3
        replace hx4 := (HB.out.cell (World.block_lt_of_cell? w _ hx4)).trans hx4
        replace hx5 := (HB.out.cell (World.block_lt_of_cell? w _ hx5)).trans hx5
        generalize rd_T95 l0 (k : Int) = x at *
        obtain ⟨r, hr⟩ : ∃ r, r = entF x.f0 x.f1 x.f2.f0 x.f2.f1 x.f2.f2 x.f2.f3 := ⟨_, rfl⟩
        have HR2 := Aside0.mk hr
        clear hr
        by_cases hz : r = 0
        · have hz1 : (r != 0) = false := by simp [hz]
          have HZ := Aside0.mk hz
          clear hz
          go_wp2_with (go_at_call 79; refine (impl_EntryFault.calls _ _ _ _ _ _ _ _ rfl).mono ?_; rintro e w1 ⟨rfl, hb⟩; rw [← HR2.out]; have n_ := Aside0.mk (below_step (by repeat (first | (with_reducible first | exact HB.out | apply below_alloc | apply pw_below_drewN | apply below_drew1) | exact HB.out)) hb); obtain ⟨hc_, hf_⟩ := bcell hb; clear HB hb; have HB := n_; clear n_)
          go_roundw
          case rel => exact ⟨k + 1, by omega, by go_num, ⟨by rw [HN.out, HN2.out, if_pos (HR2.out.symm.trans HZ.out)]⟩, ⟨(by repeat (first | (with_reducible first | exact HB.out | apply below_alloc | apply pw_below_drewN | apply below_drew1) | exact HB.out))⟩⟩
          case measure => simp [intOf]; omega
        · have hz1 : (r != 0) = true := by simp [hz]
          have HZ := Aside0.mk hz
          clear hz
          go_wp2_with (go_at_call 79; refine (impl_EntryFault.calls _ _ _ _ _ _ _ _ rfl).mono ?_; rintro e w1 ⟨rfl, hb⟩; rw [← HR2.out]; have n_ := Aside0.mk (below_step (by repeat (first | (with_reducible first | exact HB.out | apply below_alloc | apply pw_below_drewN | apply below_drew1) | exact HB.out)) hb); obtain ⟨hc_, hf_⟩ := bcell hb; clear HB hb; have HB := n_; clear n_)
          go_ret
          exact ⟨ret_i64 (by unfold logF; rw [if_neg hm, HN.out, HN2.out, if_neg (fun h => HZ.out (HR2.out.trans h))]; exact HR2.out), (by repeat (first | (with_reducible first | exact HB.out | apply below_alloc | apply pw_below_drewN | apply below_drew1) | exact HB.out))⟩
      · have hl1 : decide ((k : Int) < (l0.length : Int)) = false := decide_eq_false (by omega)
        go_wp2
        go_ret
        exact ⟨ret_i64 (by unfold logF; rw [if_neg hm, HN.out, List.drop_eq_nil_of_le (by omega)]; rfl), (by repeat (first | (with_reducible first | exact HB.out | apply below_alloc | apply pw_below_drewN | apply below_drew1) | exact HB.out))⟩


/-! ### impl_many: function 43 -/
def impl_many.f (l0 : List (S95)) : Option (Int) := some (l0.length : Int)
set_option maxHeartbeats 8000000 in
set_option maxRecDepth 100000 in
theorem impl_many.calls (A0 : Option Addr) (c0 : Nat) (l0 : List (S95)) (r : Int) (w : World) (hr0 : Kd.C k95 w A0 l0.length l0) (hc0 : l0.length ≤ c0) (h : impl_many.f l0 = some r) :
    Calls Try.prog 43 #[.slice A0 l0.length c0] w fun e w' => e = .returned (.int .i64 r) ∧ Drawn0 w w' := by
  have HR0 := Aside0.mk hr0
  have HC0 := Aside0.mk hc0
  clear hr0 hc0
  have H : (some (l0.length : Int)) = some r := h
  clear h
  obtain rfl := Option.some.inj H
  go_enter Try.func43, Try.ntmps43
  go_wp2
  go_ret
  exact ⟨by first | rfl | (simp; done) | (simp [*]; done), by repeat (first | exact Drawn0.refl _ | apply Drawn0.step)⟩

/-! ### impl_primary: function 92 -/
def impl_primary.f (a0 : Int) (a1 : Int) : Option (Int) := if a1 = 0 then (none) else (some (Int.tmod a0 a1))
set_option maxHeartbeats 8000000 in
set_option maxRecDepth 100000 in
theorem impl_primary.calls (a0 : Int) (a1 : Int) (r : Int) (w : World) (h : impl_primary.f a0 a1 = some r) :
    Calls Try.prog 92 #[.int .i64 a0, .int .i64 a1] w fun e w' => e = .returned (.int .i64 r) ∧ Drawn0 w w' := by
  have H : (if a1 = 0 then (none) else (some (Int.tmod a0 a1))) = some r := h
  clear h
  by_cases c3 : a1 = 0
  · rw [if_pos c3] at H
    exact absurd H (by simp)
  · rw [if_neg c3] at H
    have c3b0 : (a1 == 0) = false := beq_eq_false_iff_ne.mpr c3
    have c3b1 : (a1 != 0) = true := bne_iff_ne.mpr c3
    obtain rfl := Option.some.inj H
    go_enter Try.func92, Try.ntmps92
    go_wp2
    go_ret
    exact ⟨by first | rfl | (simp; done) | (simp [*]; done), by repeat (first | exact Drawn0.refl _ | apply Drawn0.step)⟩

/-! ### impl_Replica_isPrimary: function 80 -/
def impl_Replica_isPrimary.f (s0_0 : Int) (s0_1 : Int) (s0_2 : Int) (s0_3 : Bool) (s0_4 : Int) (s0_5 : List (S95)) (s0_6 : Int) (s0_7 : List Int) (s0_8 : List Bool) (s0_9 : List (S70)) : Option (Bool × Int × Int × Int × Bool × Int × Int) := (impl_primary.f s0_2 s0_1).bind fun t220 => (some ((t220 == s0_0), s0_0, s0_1, s0_2, s0_3, s0_4, s0_6))
set_option maxHeartbeats 8000000 in
set_option maxRecDepth 100000 in
theorem impl_Replica_isPrimary.calls (g : Nat) (s0_0 : Int) (s0_1 : Int) (s0_2 : Int) (s0_3 : Bool) (s0_4 : Int) (s0_5 : List (S95)) (s0_6 : Int) (s0_7 : List Int) (s0_8 : List Bool) (s0_9 : List (S70)) (r1 : Bool) (r2 : Int) (r3 : Int) (r4 : Int) (r5 : Bool) (r6 : Int) (r7 : Int) (w0 w : World) (hI : IsS33 w0 w g s0_0 s0_1 s0_2 s0_3 s0_4 s0_5 s0_6 s0_7 s0_8 s0_9) (hB : Below w0.heap.size w0 w) (h : impl_Replica_isPrimary.f s0_0 s0_1 s0_2 s0_3 s0_4 s0_5 s0_6 s0_7 s0_8 s0_9 = some (r1, r2, r3, r4, r5, r6, r7)) :
    Calls Try.prog 80 #[.pointer (some ⟨g, 0, none⟩)] w fun e w' => e = .returned (.bool r1) ∧ IsS33 w0 w' g r2 r3 r4 r5 r6 s0_5 r7 s0_7 s0_8 s0_9 ∧ Below w0.heap.size w0 w' ∧ KeepBut w w' g none := by
  have HI0 := Aside0.mk hI
  have HK := Aside0.mk (KeepBut.refl w g none)
  have HL := Aside0.mk hB.size
  clear hI
  have HW0 := Aside0.mk hB.size
  have HB := Aside0.mk hB
  clear hB
  have H : ((impl_primary.f s0_2 s0_1).bind fun t220 => (some ((t220 == s0_0), s0_0, s0_1, s0_2, s0_3, s0_4, s0_6))) = some (r1, r2, r3, r4, r5, r6, r7) := h
  clear h
  replace H := Option.bind_eq_some_iff.mp H
  obtain ⟨t220, A20, H⟩ := H
  replace H : (some ((t220 == s0_0), s0_0, s0_1, s0_2, s0_3, s0_4, s0_6)) = some (r1, r2, r3, r4, r5, r6, r7) := H
  have A2 := Aside0.mk A20
  clear A20
  simp only [Option.some.injEq, Prod.mk.injEq] at H
  obtain ⟨rfl, rfl, rfl, rfl, rfl, rfl, rfl⟩ := H
  obtain ⟨ASz3_5, cSz3_5, ASz3_7, cSz3_7, ASz3_8, cSz3_8, ASz3_9, cSz3_9, HGz3, hgz3, HSz3_5, HSz3_7, HSz3_8, HSz3_9⟩ := HI0.out
  have hcz3_0 := cellS33_0 HGz3
  have hcz3_1 := cellS33_1 HGz3
  have hcz3_2 := cellS33_2 HGz3
  have hcz3_3 := cellS33_3 HGz3
  have hcz3_4 := cellS33_4 HGz3
  have hcz3_5 := cellS33_5 HGz3
  have hcz3_6 := cellS33_6 HGz3
  have hcz3_7 := cellS33_7 HGz3
  have hcz3_8 := cellS33_8 HGz3
  have hcz3_9 := cellS33_9 HGz3
  have hfz3_0 := blk_frozen HGz3 0
  have hfz3_1 := blk_frozen HGz3 1
  have hfz3_2 := blk_frozen HGz3 2
  have hfz3_3 := blk_frozen HGz3 3
  have hfz3_4 := blk_frozen HGz3 4
  have hfz3_6 := blk_frozen HGz3 6
  clear HGz3 hgz3
  go_enter Try.func80, Try.ntmps80
  go_wp2_with (first | (go_at_call 92; (with_reducible refine (impl_primary.calls s0_2 s0_1 t220 _ A2.out).mono ?_); rintro e w' ⟨rfl, ⟨nd, rfl⟩⟩; (try first | exact ⟨rfl, _, World.drewN_drewN _ _ _⟩ | exact ⟨rfl, _, Eq.trans (World.drewN_drewN _ _ _) (congrArg (World.drewN _) (Nat.add_assoc _ _ _))⟩)))
  repeat (go_quiet (first | (go_at_call 92; (with_reducible refine (impl_primary.calls s0_2 s0_1 t220 _ A2.out).mono ?_); rintro e w' ⟨rfl, ⟨nd, rfl⟩⟩; (try first | exact ⟨rfl, _, World.drewN_drewN _ _ _⟩ | exact ⟨rfl, _, Eq.trans (World.drewN_drewN _ _ _) (congrArg (World.drewN _) (Nat.add_assoc _ _ _))⟩))); try go_wp2_with (first | (go_at_call 92; (with_reducible refine (impl_primary.calls s0_2 s0_1 t220 _ A2.out).mono ?_); rintro e w' ⟨rfl, ⟨nd, rfl⟩⟩; (try first | exact ⟨rfl, _, World.drewN_drewN _ _ _⟩ | exact ⟨rfl, _, Eq.trans (World.drewN_drewN _ _ _) (congrArg (World.drewN _) (Nat.add_assoc _ _ _))⟩))))
  go_ret
  exact ⟨by first | rfl | (simp [errW_none, errW_some] <;> rfl) | (simp [*, errW_none, errW_some] <;> rfl), by repeat (first | (with_reducible first | exact HI0.out | apply IsS33.alloc | apply IsS33.drewN | apply IsS33.drew | apply IsS33.set_0 | apply IsS33.set_1 | apply IsS33.set_2 | apply IsS33.set_3 | apply IsS33.set_4 | apply IsS33.set_6) | exact HI0.out), by repeat (first | (with_reducible first | exact HB.out | apply below_alloc | apply pw_below_drewN | apply below_drew1 | refine below_set ?_ (IsS33.ge HI0.out)) | exact HB.out), by repeat (first | (with_reducible first | exact HK.out | apply KeepBut.set_ | apply keep_drewN | apply keep_drew | apply keep_alloc) | exact HK.out)⟩

/-! ### impl_Replica_leads: function 44 -/
def impl_Replica_leads.f (s0_0 : Int) (s0_1 : Int) (s0_2 : Int) (s0_3 : Bool) (s0_4 : Int) (s0_5 : List (S95)) (s0_6 : Int) (s0_7 : List Int) (s0_8 : List Bool) (s0_9 : List (S70)) : Option (Bool × Int × Int × Int × Bool × Int × Int) := if s0_3 = true then ((impl_Replica_isPrimary.f s0_0 s0_1 s0_2 s0_3 s0_4 s0_5 s0_6 s0_7 s0_8 s0_9).bind fun bt221 => (some (bt221.1, bt221.2.1, bt221.2.2.1, bt221.2.2.2.1, bt221.2.2.2.2.1, bt221.2.2.2.2.2.1, bt221.2.2.2.2.2.2))) else (some (false, s0_0, s0_1, s0_2, s0_3, s0_4, s0_6))
set_option maxHeartbeats 8000000 in
set_option maxRecDepth 100000 in
theorem impl_Replica_leads.calls (g : Nat) (s0_0 : Int) (s0_1 : Int) (s0_2 : Int) (s0_3 : Bool) (s0_4 : Int) (s0_5 : List (S95)) (s0_6 : Int) (s0_7 : List Int) (s0_8 : List Bool) (s0_9 : List (S70)) (r1 : Bool) (r2 : Int) (r3 : Int) (r4 : Int) (r5 : Bool) (r6 : Int) (r7 : Int) (w0 w : World) (hI : IsS33 w0 w g s0_0 s0_1 s0_2 s0_3 s0_4 s0_5 s0_6 s0_7 s0_8 s0_9) (hB : Below w0.heap.size w0 w) (h : impl_Replica_leads.f s0_0 s0_1 s0_2 s0_3 s0_4 s0_5 s0_6 s0_7 s0_8 s0_9 = some (r1, r2, r3, r4, r5, r6, r7)) :
    Calls Try.prog 44 #[.pointer (some ⟨g, 0, none⟩)] w fun e w' => e = .returned (.bool r1) ∧ IsS33 w0 w' g r2 r3 r4 r5 r6 s0_5 r7 s0_7 s0_8 s0_9 ∧ Below w0.heap.size w0 w' ∧ KeepBut w w' g none := by
  have HI0 := Aside0.mk hI
  have HK := Aside0.mk (KeepBut.refl w g none)
  have HL := Aside0.mk hB.size
  clear hI
  have HW0 := Aside0.mk hB.size
  have HB := Aside0.mk hB
  clear hB
  have H : (if s0_3 = true then ((impl_Replica_isPrimary.f s0_0 s0_1 s0_2 s0_3 s0_4 s0_5 s0_6 s0_7 s0_8 s0_9).bind fun bt221 => (some (bt221.1, bt221.2.1, bt221.2.2.1, bt221.2.2.2.1, bt221.2.2.2.2.1, bt221.2.2.2.2.2.1, bt221.2.2.2.2.2.2))) else (some (false, s0_0, s0_1, s0_2, s0_3, s0_4, s0_6))) = some (r1, r2, r3, r4, r5, r6, r7) := h
  clear h
  by_cases c2 : s0_3 = true
  · subst c2
    have H1 : ((impl_Replica_isPrimary.f s0_0 s0_1 s0_2 true s0_4 s0_5 s0_6 s0_7 s0_8 s0_9).bind fun bt221 => (some (bt221.1, bt221.2.1, bt221.2.2.1, bt221.2.2.2.1, bt221.2.2.2.2.1, bt221.2.2.2.2.2.1, bt221.2.2.2.2.2.2))) = some (r1, r2, r3, r4, r5, r6, r7) := by rw [if_pos rfl] at H; exact H
    clear H
    have H := H1
    clear H1
    replace H := Option.bind_eq_some_iff.mp H
    obtain ⟨⟨t221, t222, t223, t224, t225, t226, t227⟩, A30, H⟩ := H
    replace H : (some (t221, t222, t223, t224, t225, t226, t227)) = some (r1, r2, r3, r4, r5, r6, r7) := H
    have A3 := Aside0.mk A30
    clear A30
    simp only [Option.some.injEq, Prod.mk.injEq] at H
    obtain ⟨rfl, rfl, rfl, rfl, rfl, rfl, rfl⟩ := H
    obtain ⟨ASz4_5, cSz4_5, ASz4_7, cSz4_7, ASz4_8, cSz4_8, ASz4_9, cSz4_9, HGz4, hgz4, HSz4_5, HSz4_7, HSz4_8, HSz4_9⟩ := HI0.out
    have hcz4_0 := cellS33_0 HGz4
    have hcz4_1 := cellS33_1 HGz4
    have hcz4_2 := cellS33_2 HGz4
    have hcz4_3 := cellS33_3 HGz4
    have hcz4_4 := cellS33_4 HGz4
    have hcz4_5 := cellS33_5 HGz4
    have hcz4_6 := cellS33_6 HGz4
    have hcz4_7 := cellS33_7 HGz4
    have hcz4_8 := cellS33_8 HGz4
    have hcz4_9 := cellS33_9 HGz4
    have hfz4_0 := blk_frozen HGz4 0
    have hfz4_1 := blk_frozen HGz4 1
    have hfz4_2 := blk_frozen HGz4 2
    have hfz4_3 := blk_frozen HGz4 3
    have hfz4_4 := blk_frozen HGz4 4
    have hfz4_6 := blk_frozen HGz4 6
    clear HGz4 hgz4
    go_enter Try.func44, Try.ntmps44
    go_wp2_with (first | (go_at_call 80; (with_reducible refine (impl_Replica_isPrimary.calls g s0_0 s0_1 s0_2 true s0_4 s0_5 s0_6 s0_7 s0_8 s0_9 t221 t222 t223 t224 t225 t226 t227 w0 _ ?side1 ?side2 A3.out).mono ?_); (case side1 => repeat (first | (with_reducible first | exact HI0.out | apply IsS33.alloc | apply IsS33.drewN | apply IsS33.drew | apply IsS33.set_0 | apply IsS33.set_1 | apply IsS33.set_2 | apply IsS33.set_3 | apply IsS33.set_4 | apply IsS33.set_6) | exact HI0.out)); (case side2 => repeat (first | (with_reducible first | exact HB.out | apply below_alloc | apply pw_below_drewN | apply below_drew1 | refine below_set ?_ (IsS33.ge HI0.out)) | exact HB.out)); rintro e w5 ⟨rfl, hi, hb, hk⟩; have n0_ := Aside0.mk (KeepBut.trans (by repeat (first | (with_reducible first | exact HK.out | apply KeepBut.set_ | apply keep_drewN | apply keep_drew | apply keep_alloc) | exact HK.out)) hk (.inl rfl)); have n1_ := Aside0.mk (hb); have n2_ := Aside0.mk (hi); clear HK; clear HB; clear HI0; have HK := n0_; have HB := n1_; have HI0 := n2_; clear n0_ n1_ n2_; (try clear hb); (try clear hb2); (try clear hk); (try clear hi)))
    go_ret
    exact ⟨by first | rfl | (simp [errW_none, errW_some] <;> rfl) | (simp [*, errW_none, errW_some] <;> rfl), by repeat (first | (with_reducible first | exact HI0.out | apply IsS33.alloc | apply IsS33.drewN | apply IsS33.drew | apply IsS33.set_0 | apply IsS33.set_1 | apply IsS33.set_2 | apply IsS33.set_3 | apply IsS33.set_4 | apply IsS33.set_6) | exact HI0.out), by repeat (first | (with_reducible first | exact HB.out | apply below_alloc | apply pw_below_drewN | apply below_drew1 | refine below_set ?_ (IsS33.ge HI0.out)) | exact HB.out), by repeat (first | (with_reducible first | exact HK.out | apply KeepBut.set_ | apply keep_drewN | apply keep_drew | apply keep_alloc) | exact HK.out)⟩
  · replace c2 := Bool.eq_false_iff.mpr c2
    subst c2
    have H1 : (some (false, s0_0, s0_1, s0_2, false, s0_4, s0_6)) = some (r1, r2, r3, r4, r5, r6, r7) := by rw [if_neg (show ¬ (false = true) by decide)] at H; exact H
    clear H
    have H := H1
    clear H1
    simp only [Option.some.injEq, Prod.mk.injEq] at H
    obtain ⟨rfl, rfl, rfl, rfl, rfl, rfl, rfl⟩ := H
    obtain ⟨ASz6_5, cSz6_5, ASz6_7, cSz6_7, ASz6_8, cSz6_8, ASz6_9, cSz6_9, HGz6, hgz6, HSz6_5, HSz6_7, HSz6_8, HSz6_9⟩ := HI0.out
    have hcz6_0 := cellS33_0 HGz6
    have hcz6_1 := cellS33_1 HGz6
    have hcz6_2 := cellS33_2 HGz6
    have hcz6_3 := cellS33_3 HGz6
    have hcz6_4 := cellS33_4 HGz6
    have hcz6_5 := cellS33_5 HGz6
    have hcz6_6 := cellS33_6 HGz6
    have hcz6_7 := cellS33_7 HGz6
    have hcz6_8 := cellS33_8 HGz6
    have hcz6_9 := cellS33_9 HGz6
    have hfz6_0 := blk_frozen HGz6 0
    have hfz6_1 := blk_frozen HGz6 1
    have hfz6_2 := blk_frozen HGz6 2
    have hfz6_3 := blk_frozen HGz6 3
    have hfz6_4 := blk_frozen HGz6 4
    have hfz6_6 := blk_frozen HGz6 6
    clear HGz6 hgz6
    go_enter Try.func44, Try.ntmps44
    go_wp2
    go_ret
    exact ⟨by first | rfl | (simp [errW_none, errW_some] <;> rfl) | (simp [*, errW_none, errW_some] <;> rfl), by repeat (first | (with_reducible first | exact HI0.out | apply IsS33.alloc | apply IsS33.drewN | apply IsS33.drew | apply IsS33.set_0 | apply IsS33.set_1 | apply IsS33.set_2 | apply IsS33.set_3 | apply IsS33.set_4 | apply IsS33.set_6) | exact HI0.out), by repeat (first | (with_reducible first | exact HB.out | apply below_alloc | apply pw_below_drewN | apply below_drew1 | refine below_set ?_ (IsS33.ge HI0.out)) | exact HB.out), by repeat (first | (with_reducible first | exact HK.out | apply KeepBut.set_ | apply keep_drewN | apply keep_drew | apply keep_alloc) | exact HK.out)⟩

-- NOT PRINTED: function 81 (slices_IndexFunc_int64_int64)

-- NOT PRINTED: function 45 (slices_ContainsFunc_int64_int64)

end Go.Proofs.Ytajhhmoglfgijaa.PFnExactCountDoers
