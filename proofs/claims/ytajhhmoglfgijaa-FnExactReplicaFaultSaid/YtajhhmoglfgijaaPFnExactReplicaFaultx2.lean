/- Functions of the law FnExactReplicaFault as Lean functions, and proofs that the calls come to what they tell. -/
import Derived.Test.YtajhhmoglfgijaaPFnExactReplicaFaultx0
import Derived.Test.YtajhhmoglfgijaaPFnExactReplicaFaultx1
namespace Go.Proofs.Ytajhhmoglfgijaa.PFnExactReplicaFault
open Go.RowKit Go.Proofs.YtajhhmoglfgijaaW.PrintWords Go.Proofs.YtajhhmoglfgijaaW.PrintLast Go.Proofs.YtajhhmoglfgijaaW.PrintMore
attribute [local go_sem] max2_int min2_int max_two min_two max_three min_three max_four min_four
set_option linter.unusedVariables false
set_option linter.unusedSimpArgs false

/-! ### spec_l9Sizes: function 75 -/
def spec_l9Sizes.f (s0_0 : Int) (s0_1 : Int) (s0_2 : Int) (s0_3 : Bool) (s0_4 : Int) (s0_5 : List (S95)) (s0_6 : Int) (s0_7 : List Int) (s0_8 : List Bool) (s0_9 : List (S70)) : Option (Bool × Int × Int × Int × Bool × Int × Int) := if s0_3 = true then ((spec_l9Primary.f s0_0 s0_1 s0_2 s0_3 s0_4 s0_5 s0_6 s0_7 s0_8 s0_9).bind fun bt114 => (if bt114.1 = true then (if (s0_7.length : Int) = bt114.2.2.1 then (if (s0_8.length : Int) = 0 then (some (((s0_9.length : Int) == 0), bt114.2.1, bt114.2.2.1, bt114.2.2.2.1, bt114.2.2.2.2.1, bt114.2.2.2.2.2.1, bt114.2.2.2.2.2.2)) else (some (false, bt114.2.1, bt114.2.2.1, bt114.2.2.2.1, bt114.2.2.2.2.1, bt114.2.2.2.2.2.1, bt114.2.2.2.2.2.2))) else (some (false, bt114.2.1, bt114.2.2.1, bt114.2.2.2.1, bt114.2.2.2.2.1, bt114.2.2.2.2.2.1, bt114.2.2.2.2.2.2))) else (if (s0_7.length : Int) = 0 then (if (s0_8.length : Int) = 0 then (some (((s0_9.length : Int) == 0), bt114.2.1, bt114.2.2.1, bt114.2.2.2.1, bt114.2.2.2.2.1, bt114.2.2.2.2.2.1, bt114.2.2.2.2.2.2)) else (some (false, bt114.2.1, bt114.2.2.1, bt114.2.2.2.1, bt114.2.2.2.2.1, bt114.2.2.2.2.2.1, bt114.2.2.2.2.2.2))) else (some (false, bt114.2.1, bt114.2.2.1, bt114.2.2.2.1, bt114.2.2.2.2.1, bt114.2.2.2.2.2.1, bt114.2.2.2.2.2.2))))) else (if (s0_7.length : Int) = 0 then (if (s0_8.length : Int) = s0_1 then (some (((s0_9.length : Int) == s0_1), s0_0, s0_1, s0_2, s0_3, s0_4, s0_6)) else (some (false, s0_0, s0_1, s0_2, s0_3, s0_4, s0_6))) else (some (false, s0_0, s0_1, s0_2, s0_3, s0_4, s0_6)))
set_option maxHeartbeats 8000000 in
set_option maxRecDepth 100000 in
theorem spec_l9Sizes.calls (g : Nat) (s0_0 : Int) (s0_1 : Int) (s0_2 : Int) (s0_3 : Bool) (s0_4 : Int) (s0_5 : List (S95)) (s0_6 : Int) (s0_7 : List Int) (s0_8 : List Bool) (s0_9 : List (S70)) (r1 : Bool) (r2 : Int) (r3 : Int) (r4 : Int) (r5 : Bool) (r6 : Int) (r7 : Int) (w0 w : World) (hI : IsS33 w0 w g s0_0 s0_1 s0_2 s0_3 s0_4 s0_5 s0_6 s0_7 s0_8 s0_9) (hB : Below w0.heap.size w0 w) (h : spec_l9Sizes.f s0_0 s0_1 s0_2 s0_3 s0_4 s0_5 s0_6 s0_7 s0_8 s0_9 = some (r1, r2, r3, r4, r5, r6, r7)) :
    Calls Try.prog 75 #[.pointer (some ⟨g, 0, none⟩)] w fun e w' => e = .returned (.bool r1) ∧ IsS33 w0 w' g r2 r3 r4 r5 r6 s0_5 r7 s0_7 s0_8 s0_9 ∧ Below w0.heap.size w0 w' ∧ KeepBut w w' g none := by
  have HI0 := Aside0.mk hI
  have HK := Aside0.mk (KeepBut.refl w g none)
  have HL := Aside0.mk hB.size
  clear hI
  have HW0 := Aside0.mk hB.size
  have HB := Aside0.mk hB
  clear hB
  have H : (if s0_3 = true then ((spec_l9Primary.f s0_0 s0_1 s0_2 s0_3 s0_4 s0_5 s0_6 s0_7 s0_8 s0_9).bind fun bt114 => (if bt114.1 = true then (if (s0_7.length : Int) = bt114.2.2.1 then (if (s0_8.length : Int) = 0 then (some (((s0_9.length : Int) == 0), bt114.2.1, bt114.2.2.1, bt114.2.2.2.1, bt114.2.2.2.2.1, bt114.2.2.2.2.2.1, bt114.2.2.2.2.2.2)) else (some (false, bt114.2.1, bt114.2.2.1, bt114.2.2.2.1, bt114.2.2.2.2.1, bt114.2.2.2.2.2.1, bt114.2.2.2.2.2.2))) else (some (false, bt114.2.1, bt114.2.2.1, bt114.2.2.2.1, bt114.2.2.2.2.1, bt114.2.2.2.2.2.1, bt114.2.2.2.2.2.2))) else (if (s0_7.length : Int) = 0 then (if (s0_8.length : Int) = 0 then (some (((s0_9.length : Int) == 0), bt114.2.1, bt114.2.2.1, bt114.2.2.2.1, bt114.2.2.2.2.1, bt114.2.2.2.2.2.1, bt114.2.2.2.2.2.2)) else (some (false, bt114.2.1, bt114.2.2.1, bt114.2.2.2.1, bt114.2.2.2.2.1, bt114.2.2.2.2.2.1, bt114.2.2.2.2.2.2))) else (some (false, bt114.2.1, bt114.2.2.1, bt114.2.2.2.1, bt114.2.2.2.2.1, bt114.2.2.2.2.2.1, bt114.2.2.2.2.2.2))))) else (if (s0_7.length : Int) = 0 then (if (s0_8.length : Int) = s0_1 then (some (((s0_9.length : Int) == s0_1), s0_0, s0_1, s0_2, s0_3, s0_4, s0_6)) else (some (false, s0_0, s0_1, s0_2, s0_3, s0_4, s0_6))) else (some (false, s0_0, s0_1, s0_2, s0_3, s0_4, s0_6)))) = some (r1, r2, r3, r4, r5, r6, r7) := h
  clear h
  by_cases c2 : s0_3 = true
  · subst c2
    have H1 : ((spec_l9Primary.f s0_0 s0_1 s0_2 true s0_4 s0_5 s0_6 s0_7 s0_8 s0_9).bind fun bt114 => (if bt114.1 = true then (if (s0_7.length : Int) = bt114.2.2.1 then (if (s0_8.length : Int) = 0 then (some (((s0_9.length : Int) == 0), bt114.2.1, bt114.2.2.1, bt114.2.2.2.1, bt114.2.2.2.2.1, bt114.2.2.2.2.2.1, bt114.2.2.2.2.2.2)) else (some (false, bt114.2.1, bt114.2.2.1, bt114.2.2.2.1, bt114.2.2.2.2.1, bt114.2.2.2.2.2.1, bt114.2.2.2.2.2.2))) else (some (false, bt114.2.1, bt114.2.2.1, bt114.2.2.2.1, bt114.2.2.2.2.1, bt114.2.2.2.2.2.1, bt114.2.2.2.2.2.2))) else (if (s0_7.length : Int) = 0 then (if (s0_8.length : Int) = 0 then (some (((s0_9.length : Int) == 0), bt114.2.1, bt114.2.2.1, bt114.2.2.2.1, bt114.2.2.2.2.1, bt114.2.2.2.2.2.1, bt114.2.2.2.2.2.2)) else (some (false, bt114.2.1, bt114.2.2.1, bt114.2.2.2.1, bt114.2.2.2.2.1, bt114.2.2.2.2.2.1, bt114.2.2.2.2.2.2))) else (some (false, bt114.2.1, bt114.2.2.1, bt114.2.2.2.1, bt114.2.2.2.2.1, bt114.2.2.2.2.2.1, bt114.2.2.2.2.2.2))))) = some (r1, r2, r3, r4, r5, r6, r7) := by rw [if_pos rfl] at H; exact H
    clear H
    have H := H1
    clear H1
    replace H := Option.bind_eq_some_iff.mp H
    obtain ⟨⟨t114, t115, t116, t117, t118, t119, t120⟩, A30, H⟩ := H
    replace H : (if t114 = true then (if (s0_7.length : Int) = t116 then (if (s0_8.length : Int) = 0 then (some (((s0_9.length : Int) == 0), t115, t116, t117, t118, t119, t120)) else (some (false, t115, t116, t117, t118, t119, t120))) else (some (false, t115, t116, t117, t118, t119, t120))) else (if (s0_7.length : Int) = 0 then (if (s0_8.length : Int) = 0 then (some (((s0_9.length : Int) == 0), t115, t116, t117, t118, t119, t120)) else (some (false, t115, t116, t117, t118, t119, t120))) else (some (false, t115, t116, t117, t118, t119, t120)))) = some (r1, r2, r3, r4, r5, r6, r7) := H
    have A3 := Aside0.mk A30
    clear A30
    by_cases c4 : t114 = true
    · subst c4
      have H1 : (if (s0_7.length : Int) = t116 then (if (s0_8.length : Int) = 0 then (some (((s0_9.length : Int) == 0), t115, t116, t117, t118, t119, t120)) else (some (false, t115, t116, t117, t118, t119, t120))) else (some (false, t115, t116, t117, t118, t119, t120))) = some (r1, r2, r3, r4, r5, r6, r7) := by rw [if_pos rfl] at H; exact H
      clear H
      have H := H1
      clear H1
      by_cases c5 : (s0_7.length : Int) = t116
      · rw [if_pos c5] at H
        have c5b0 : ((s0_7.length : Int) == t116) = true := beq_iff_eq.mpr c5
        have c5b1 : ((s0_7.length : Int) != t116) = false := bne_eq_false_iff_eq.mpr c5
        clear c5
        by_cases c6 : (s0_8.length : Int) = 0
        · rw [if_pos c6] at H
          have c6b0 : ((s0_8.length : Int) == 0) = true := beq_iff_eq.mpr c6
          have c6b1 : ((s0_8.length : Int) != 0) = false := bne_eq_false_iff_eq.mpr c6
          clear c6
          simp only [Option.some.injEq, Prod.mk.injEq] at H
          obtain ⟨rfl, rfl, rfl, rfl, rfl, rfl, rfl⟩ := H
          obtain ⟨ASz7_5, cSz7_5, ASz7_7, cSz7_7, ASz7_8, cSz7_8, ASz7_9, cSz7_9, HGz7, hgz7, HSz7_5, HSz7_7, HSz7_8, HSz7_9⟩ := HI0.out
          have hcz7_0 := cellS33_0 HGz7
          have hcz7_1 := cellS33_1 HGz7
          have hcz7_2 := cellS33_2 HGz7
          have hcz7_3 := cellS33_3 HGz7
          have hcz7_4 := cellS33_4 HGz7
          have hcz7_5 := cellS33_5 HGz7
          have hcz7_6 := cellS33_6 HGz7
          have hcz7_7 := cellS33_7 HGz7
          have hcz7_8 := cellS33_8 HGz7
          have hcz7_9 := cellS33_9 HGz7
          have hfz7_0 := blk_frozen HGz7 0
          have hfz7_1 := blk_frozen HGz7 1
          have hfz7_2 := blk_frozen HGz7 2
          have hfz7_3 := blk_frozen HGz7 3
          have hfz7_4 := blk_frozen HGz7 4
          have hfz7_6 := blk_frozen HGz7 6
          clear HGz7 hgz7
          go_enter Try.func75, Try.ntmps75
          go_wp2_with (first | ((with_reducible refine gate_callee (f := 89) rfl ?_); refine goesL_ (some 14) rfl rfl Try.func89 (by kernel_rfl) rfl #[.pointer (some ⟨g, 0, none⟩)] rfl (by (try simp only [List.map_toArray, List.map_cons, List.map_nil]); first | done | rfl | (simp only [List.length_drop, List.length_take]; rfl)) ?_; (with_reducible refine (spec_l9Primary.calls g s0_0 s0_1 s0_2 true s0_4 s0_5 s0_6 s0_7 s0_8 s0_9 true t115 t116 t117 t118 t119 t120 w0 _ ?side1 ?side2 A3.out).mono ?_); (case side1 => repeat (first | (with_reducible first | exact HI0.out | apply IsS33.alloc | apply IsS33.drewN | apply IsS33.drew | apply IsS33.set_0 | apply IsS33.set_1 | apply IsS33.set_2 | apply IsS33.set_3 | apply IsS33.set_4 | apply IsS33.set_6) | exact HI0.out)); (case side2 => repeat (first | (with_reducible first | exact HB.out | apply below_alloc | apply pw_below_drewN | apply below_drew1 | refine below_set ?_ (IsS33.ge HI0.out)) | exact HB.out)); rintro e w8 ⟨rfl, hi, hb, hk⟩; refine ⟨_, rfl, ?_⟩; have n0_ := Aside0.mk (KeepBut.trans (by repeat (first | (with_reducible first | exact HK.out | apply KeepBut.set_ | apply keep_drewN | apply keep_drew | apply keep_alloc) | exact HK.out)) hk (.inl rfl)); have n1_ := Aside0.mk (hb); have n2_ := Aside0.mk (hi); clear HK; clear HB; clear HI0; have HK := n0_; have HB := n1_; have HI0 := n2_; clear n0_ n1_ n2_; (try clear hb); (try clear hb2); (try clear hk); (try clear hi); obtain ⟨ASz9_5, cSz9_5, ASz9_7, cSz9_7, ASz9_8, cSz9_8, ASz9_9, cSz9_9, HGz9, hgz9, HSz9_5, HSz9_7, HSz9_8, HSz9_9⟩ := HI0.out; have hcz9_0 := cellS33_0 HGz9; have hcz9_1 := cellS33_1 HGz9; have hcz9_2 := cellS33_2 HGz9; have hcz9_3 := cellS33_3 HGz9; have hcz9_4 := cellS33_4 HGz9; have hcz9_5 := cellS33_5 HGz9; have hcz9_6 := cellS33_6 HGz9; have hcz9_7 := cellS33_7 HGz9; have hcz9_8 := cellS33_8 HGz9; have hcz9_9 := cellS33_9 HGz9; have hfz9_0 := blk_frozen HGz9 0; have hfz9_1 := blk_frozen HGz9 1; have hfz9_2 := blk_frozen HGz9 2; have hfz9_3 := blk_frozen HGz9 3; have hfz9_4 := blk_frozen HGz9 4; have hfz9_6 := blk_frozen HGz9 6; clear HGz9 hgz9))
          go_ret
          exact ⟨by first | rfl | (simp [errW_none, errW_some] <;> rfl) | (simp [*, errW_none, errW_some] <;> rfl), by repeat (first | (with_reducible first | exact HI0.out | apply IsS33.alloc | apply IsS33.drewN | apply IsS33.drew | apply IsS33.set_0 | apply IsS33.set_1 | apply IsS33.set_2 | apply IsS33.set_3 | apply IsS33.set_4 | apply IsS33.set_6) | exact HI0.out), by repeat (first | (with_reducible first | exact HB.out | apply below_alloc | apply pw_below_drewN | apply below_drew1 | refine below_set ?_ (IsS33.ge HI0.out)) | exact HB.out), by repeat (first | (with_reducible first | exact HK.out | apply KeepBut.set_ | apply keep_drewN | apply keep_drew | apply keep_alloc) | exact HK.out)⟩
        · rw [if_neg c6] at H
          have c6b0 : ((s0_8.length : Int) == 0) = false := beq_eq_false_iff_ne.mpr c6
          have c6b1 : ((s0_8.length : Int) != 0) = true := bne_iff_ne.mpr c6
          have c6b2 : ¬ (s0_8 = []) := fun h_ => c6 (by rw [h_]; rfl)
          simp only [Option.some.injEq, Prod.mk.injEq] at H
          obtain ⟨rfl, rfl, rfl, rfl, rfl, rfl, rfl⟩ := H
          obtain ⟨ASz10_5, cSz10_5, ASz10_7, cSz10_7, ASz10_8, cSz10_8, ASz10_9, cSz10_9, HGz10, hgz10, HSz10_5, HSz10_7, HSz10_8, HSz10_9⟩ := HI0.out
          have hcz10_0 := cellS33_0 HGz10
          have hcz10_1 := cellS33_1 HGz10
          have hcz10_2 := cellS33_2 HGz10
          have hcz10_3 := cellS33_3 HGz10
          have hcz10_4 := cellS33_4 HGz10
          have hcz10_5 := cellS33_5 HGz10
          have hcz10_6 := cellS33_6 HGz10
          have hcz10_7 := cellS33_7 HGz10
          have hcz10_8 := cellS33_8 HGz10
          have hcz10_9 := cellS33_9 HGz10
          have hfz10_0 := blk_frozen HGz10 0
          have hfz10_1 := blk_frozen HGz10 1
          have hfz10_2 := blk_frozen HGz10 2
          have hfz10_3 := blk_frozen HGz10 3
          have hfz10_4 := blk_frozen HGz10 4
          have hfz10_6 := blk_frozen HGz10 6
          clear HGz10 hgz10
          go_enter Try.func75, Try.ntmps75
          go_wp2_with (first | ((with_reducible refine gate_callee (f := 89) rfl ?_); refine goesL_ (some 14) rfl rfl Try.func89 (by kernel_rfl) rfl #[.pointer (some ⟨g, 0, none⟩)] rfl (by (try simp only [List.map_toArray, List.map_cons, List.map_nil]); first | done | rfl | (simp only [List.length_drop, List.length_take]; rfl)) ?_; (with_reducible refine (spec_l9Primary.calls g s0_0 s0_1 s0_2 true s0_4 s0_5 s0_6 s0_7 s0_8 s0_9 true t115 t116 t117 t118 t119 t120 w0 _ ?side1 ?side2 A3.out).mono ?_); (case side1 => repeat (first | (with_reducible first | exact HI0.out | apply IsS33.alloc | apply IsS33.drewN | apply IsS33.drew | apply IsS33.set_0 | apply IsS33.set_1 | apply IsS33.set_2 | apply IsS33.set_3 | apply IsS33.set_4 | apply IsS33.set_6) | exact HI0.out)); (case side2 => repeat (first | (with_reducible first | exact HB.out | apply below_alloc | apply pw_below_drewN | apply below_drew1 | refine below_set ?_ (IsS33.ge HI0.out)) | exact HB.out)); rintro e w11 ⟨rfl, hi, hb, hk⟩; refine ⟨_, rfl, ?_⟩; have n0_ := Aside0.mk (KeepBut.trans (by repeat (first | (with_reducible first | exact HK.out | apply KeepBut.set_ | apply keep_drewN | apply keep_drew | apply keep_alloc) | exact HK.out)) hk (.inl rfl)); have n1_ := Aside0.mk (hb); have n2_ := Aside0.mk (hi); clear HK; clear HB; clear HI0; have HK := n0_; have HB := n1_; have HI0 := n2_; clear n0_ n1_ n2_; (try clear hb); (try clear hb2); (try clear hk); (try clear hi); obtain ⟨ASz12_5, cSz12_5, ASz12_7, cSz12_7, ASz12_8, cSz12_8, ASz12_9, cSz12_9, HGz12, hgz12, HSz12_5, HSz12_7, HSz12_8, HSz12_9⟩ := HI0.out; have hcz12_0 := cellS33_0 HGz12; have hcz12_1 := cellS33_1 HGz12; have hcz12_2 := cellS33_2 HGz12; have hcz12_3 := cellS33_3 HGz12; have hcz12_4 := cellS33_4 HGz12; have hcz12_5 := cellS33_5 HGz12; have hcz12_6 := cellS33_6 HGz12; have hcz12_7 := cellS33_7 HGz12; have hcz12_8 := cellS33_8 HGz12; have hcz12_9 := cellS33_9 HGz12; have hfz12_0 := blk_frozen HGz12 0; have hfz12_1 := blk_frozen HGz12 1; have hfz12_2 := blk_frozen HGz12 2; have hfz12_3 := blk_frozen HGz12 3; have hfz12_4 := blk_frozen HGz12 4; have hfz12_6 := blk_frozen HGz12 6; clear HGz12 hgz12))
          go_ret
          exact ⟨by first | rfl | (simp [errW_none, errW_some] <;> rfl) | (simp [*, errW_none, errW_some] <;> rfl), by repeat (first | (with_reducible first | exact HI0.out | apply IsS33.alloc | apply IsS33.drewN | apply IsS33.drew | apply IsS33.set_0 | apply IsS33.set_1 | apply IsS33.set_2 | apply IsS33.set_3 | apply IsS33.set_4 | apply IsS33.set_6) | exact HI0.out), by repeat (first | (with_reducible first | exact HB.out | apply below_alloc | apply pw_below_drewN | apply below_drew1 | refine below_set ?_ (IsS33.ge HI0.out)) | exact HB.out), by repeat (first | (with_reducible first | exact HK.out | apply KeepBut.set_ | apply keep_drewN | apply keep_drew | apply keep_alloc) | exact HK.out)⟩
      · rw [if_neg c5] at H
        have c5b0 : ((s0_7.length : Int) == t116) = false := beq_eq_false_iff_ne.mpr c5
        have c5b1 : ((s0_7.length : Int) != t116) = true := bne_iff_ne.mpr c5
        simp only [Option.some.injEq, Prod.mk.injEq] at H
        obtain ⟨rfl, rfl, rfl, rfl, rfl, rfl, rfl⟩ := H
        obtain ⟨ASz13_5, cSz13_5, ASz13_7, cSz13_7, ASz13_8, cSz13_8, ASz13_9, cSz13_9, HGz13, hgz13, HSz13_5, HSz13_7, HSz13_8, HSz13_9⟩ := HI0.out
        have hcz13_0 := cellS33_0 HGz13
        have hcz13_1 := cellS33_1 HGz13
        have hcz13_2 := cellS33_2 HGz13
        have hcz13_3 := cellS33_3 HGz13
        have hcz13_4 := cellS33_4 HGz13
        have hcz13_5 := cellS33_5 HGz13
        have hcz13_6 := cellS33_6 HGz13
        have hcz13_7 := cellS33_7 HGz13
        have hcz13_8 := cellS33_8 HGz13
        have hcz13_9 := cellS33_9 HGz13
        have hfz13_0 := blk_frozen HGz13 0
        have hfz13_1 := blk_frozen HGz13 1
        have hfz13_2 := blk_frozen HGz13 2
        have hfz13_3 := blk_frozen HGz13 3
        have hfz13_4 := blk_frozen HGz13 4
        have hfz13_6 := blk_frozen HGz13 6
        clear HGz13 hgz13
        go_enter Try.func75, Try.ntmps75
        go_wp2_with (first | ((with_reducible refine gate_callee (f := 89) rfl ?_); refine goesL_ (some 14) rfl rfl Try.func89 (by kernel_rfl) rfl #[.pointer (some ⟨g, 0, none⟩)] rfl (by (try simp only [List.map_toArray, List.map_cons, List.map_nil]); first | done | rfl | (simp only [List.length_drop, List.length_take]; rfl)) ?_; (with_reducible refine (spec_l9Primary.calls g s0_0 s0_1 s0_2 true s0_4 s0_5 s0_6 s0_7 s0_8 s0_9 true t115 t116 t117 t118 t119 t120 w0 _ ?side1 ?side2 A3.out).mono ?_); (case side1 => repeat (first | (with_reducible first | exact HI0.out | apply IsS33.alloc | apply IsS33.drewN | apply IsS33.drew | apply IsS33.set_0 | apply IsS33.set_1 | apply IsS33.set_2 | apply IsS33.set_3 | apply IsS33.set_4 | apply IsS33.set_6) | exact HI0.out)); (case side2 => repeat (first | (with_reducible first | exact HB.out | apply below_alloc | apply pw_below_drewN | apply below_drew1 | refine below_set ?_ (IsS33.ge HI0.out)) | exact HB.out)); rintro e w14 ⟨rfl, hi, hb, hk⟩; refine ⟨_, rfl, ?_⟩; have n0_ := Aside0.mk (KeepBut.trans (by repeat (first | (with_reducible first | exact HK.out | apply KeepBut.set_ | apply keep_drewN | apply keep_drew | apply keep_alloc) | exact HK.out)) hk (.inl rfl)); have n1_ := Aside0.mk (hb); have n2_ := Aside0.mk (hi); clear HK; clear HB; clear HI0; have HK := n0_; have HB := n1_; have HI0 := n2_; clear n0_ n1_ n2_; (try clear hb); (try clear hb2); (try clear hk); (try clear hi); obtain ⟨ASz15_5, cSz15_5, ASz15_7, cSz15_7, ASz15_8, cSz15_8, ASz15_9, cSz15_9, HGz15, hgz15, HSz15_5, HSz15_7, HSz15_8, HSz15_9⟩ := HI0.out; have hcz15_0 := cellS33_0 HGz15; have hcz15_1 := cellS33_1 HGz15; have hcz15_2 := cellS33_2 HGz15; have hcz15_3 := cellS33_3 HGz15; have hcz15_4 := cellS33_4 HGz15; have hcz15_5 := cellS33_5 HGz15; have hcz15_6 := cellS33_6 HGz15; have hcz15_7 := cellS33_7 HGz15; have hcz15_8 := cellS33_8 HGz15; have hcz15_9 := cellS33_9 HGz15; have hfz15_0 := blk_frozen HGz15 0; have hfz15_1 := blk_frozen HGz15 1; have hfz15_2 := blk_frozen HGz15 2; have hfz15_3 := blk_frozen HGz15 3; have hfz15_4 := blk_frozen HGz15 4; have hfz15_6 := blk_frozen HGz15 6; clear HGz15 hgz15))
        go_ret
        exact ⟨by first | rfl | (simp [errW_none, errW_some] <;> rfl) | (simp [*, errW_none, errW_some] <;> rfl), by repeat (first | (with_reducible first | exact HI0.out | apply IsS33.alloc | apply IsS33.drewN | apply IsS33.drew | apply IsS33.set_0 | apply IsS33.set_1 | apply IsS33.set_2 | apply IsS33.set_3 | apply IsS33.set_4 | apply IsS33.set_6) | exact HI0.out), by repeat (first | (with_reducible first | exact HB.out | apply below_alloc | apply pw_below_drewN | apply below_drew1 | refine below_set ?_ (IsS33.ge HI0.out)) | exact HB.out), by repeat (first | (with_reducible first | exact HK.out | apply KeepBut.set_ | apply keep_drewN | apply keep_drew | apply keep_alloc) | exact HK.out)⟩
    · replace c4 := Bool.eq_false_iff.mpr c4
      subst c4
      have H1 : (if (s0_7.length : Int) = 0 then (if (s0_8.length : Int) = 0 then (some (((s0_9.length : Int) == 0), t115, t116, t117, t118, t119, t120)) else (some (false, t115, t116, t117, t118, t119, t120))) else (some (false, t115, t116, t117, t118, t119, t120))) = some (r1, r2, r3, r4, r5, r6, r7) := by rw [if_neg (show ¬ (false = true) by decide)] at H; exact H
      clear H
      have H := H1
      clear H1
      by_cases c16 : (s0_7.length : Int) = 0
      · rw [if_pos c16] at H
        have c16b0 : ((s0_7.length : Int) == 0) = true := beq_iff_eq.mpr c16
        have c16b1 : ((s0_7.length : Int) != 0) = false := bne_eq_false_iff_eq.mpr c16
        clear c16
        by_cases c17 : (s0_8.length : Int) = 0
        · rw [if_pos c17] at H
          have c17b0 : ((s0_8.length : Int) == 0) = true := beq_iff_eq.mpr c17
          have c17b1 : ((s0_8.length : Int) != 0) = false := bne_eq_false_iff_eq.mpr c17
          clear c17
          simp only [Option.some.injEq, Prod.mk.injEq] at H
          obtain ⟨rfl, rfl, rfl, rfl, rfl, rfl, rfl⟩ := H
          obtain ⟨ASz18_5, cSz18_5, ASz18_7, cSz18_7, ASz18_8, cSz18_8, ASz18_9, cSz18_9, HGz18, hgz18, HSz18_5, HSz18_7, HSz18_8, HSz18_9⟩ := HI0.out
          have hcz18_0 := cellS33_0 HGz18
          have hcz18_1 := cellS33_1 HGz18
          have hcz18_2 := cellS33_2 HGz18
          have hcz18_3 := cellS33_3 HGz18
          have hcz18_4 := cellS33_4 HGz18
          have hcz18_5 := cellS33_5 HGz18
          have hcz18_6 := cellS33_6 HGz18
          have hcz18_7 := cellS33_7 HGz18
          have hcz18_8 := cellS33_8 HGz18
          have hcz18_9 := cellS33_9 HGz18
          have hfz18_0 := blk_frozen HGz18 0
          have hfz18_1 := blk_frozen HGz18 1
          have hfz18_2 := blk_frozen HGz18 2
          have hfz18_3 := blk_frozen HGz18 3
          have hfz18_4 := blk_frozen HGz18 4
          have hfz18_6 := blk_frozen HGz18 6
          clear HGz18 hgz18
          go_enter Try.func75, Try.ntmps75
          go_wp2_with (first | ((with_reducible refine gate_callee (f := 89) rfl ?_); refine goesL_ (some 14) rfl rfl Try.func89 (by kernel_rfl) rfl #[.pointer (some ⟨g, 0, none⟩)] rfl (by (try simp only [List.map_toArray, List.map_cons, List.map_nil]); first | done | rfl | (simp only [List.length_drop, List.length_take]; rfl)) ?_; (with_reducible refine (spec_l9Primary.calls g s0_0 s0_1 s0_2 true s0_4 s0_5 s0_6 s0_7 s0_8 s0_9 false t115 t116 t117 t118 t119 t120 w0 _ ?side1 ?side2 A3.out).mono ?_); (case side1 => repeat (first | (with_reducible first | exact HI0.out | apply IsS33.alloc | apply IsS33.drewN | apply IsS33.drew | apply IsS33.set_0 | apply IsS33.set_1 | apply IsS33.set_2 | apply IsS33.set_3 | apply IsS33.set_4 | apply IsS33.set_6) | exact HI0.out)); (case side2 => repeat (first | (with_reducible first | exact HB.out | apply below_alloc | apply pw_below_drewN | apply below_drew1 | refine below_set ?_ (IsS33.ge HI0.out)) | exact HB.out)); rintro e w19 ⟨rfl, hi, hb, hk⟩; refine ⟨_, rfl, ?_⟩; have n0_ := Aside0.mk (KeepBut.trans (by repeat (first | (with_reducible first | exact HK.out | apply KeepBut.set_ | apply keep_drewN | apply keep_drew | apply keep_alloc) | exact HK.out)) hk (.inl rfl)); have n1_ := Aside0.mk (hb); have n2_ := Aside0.mk (hi); clear HK; clear HB; clear HI0; have HK := n0_; have HB := n1_; have HI0 := n2_; clear n0_ n1_ n2_; (try clear hb); (try clear hb2); (try clear hk); (try clear hi); obtain ⟨ASz20_5, cSz20_5, ASz20_7, cSz20_7, ASz20_8, cSz20_8, ASz20_9, cSz20_9, HGz20, hgz20, HSz20_5, HSz20_7, HSz20_8, HSz20_9⟩ := HI0.out; have hcz20_0 := cellS33_0 HGz20; have hcz20_1 := cellS33_1 HGz20; have hcz20_2 := cellS33_2 HGz20; have hcz20_3 := cellS33_3 HGz20; have hcz20_4 := cellS33_4 HGz20; have hcz20_5 := cellS33_5 HGz20; have hcz20_6 := cellS33_6 HGz20; have hcz20_7 := cellS33_7 HGz20; have hcz20_8 := cellS33_8 HGz20; have hcz20_9 := cellS33_9 HGz20; have hfz20_0 := blk_frozen HGz20 0; have hfz20_1 := blk_frozen HGz20 1; have hfz20_2 := blk_frozen HGz20 2; have hfz20_3 := blk_frozen HGz20 3; have hfz20_4 := blk_frozen HGz20 4; have hfz20_6 := blk_frozen HGz20 6; clear HGz20 hgz20))
          go_ret
          exact ⟨by first | rfl | (simp [errW_none, errW_some] <;> rfl) | (simp [*, errW_none, errW_some] <;> rfl), by repeat (first | (with_reducible first | exact HI0.out | apply IsS33.alloc | apply IsS33.drewN | apply IsS33.drew | apply IsS33.set_0 | apply IsS33.set_1 | apply IsS33.set_2 | apply IsS33.set_3 | apply IsS33.set_4 | apply IsS33.set_6) | exact HI0.out), by repeat (first | (with_reducible first | exact HB.out | apply below_alloc | apply pw_below_drewN | apply below_drew1 | refine below_set ?_ (IsS33.ge HI0.out)) | exact HB.out), by repeat (first | (with_reducible first | exact HK.out | apply KeepBut.set_ | apply keep_drewN | apply keep_drew | apply keep_alloc) | exact HK.out)⟩
        · rw [if_neg c17] at H
          have c17b0 : ((s0_8.length : Int) == 0) = false := beq_eq_false_iff_ne.mpr c17
          have c17b1 : ((s0_8.length : Int) != 0) = true := bne_iff_ne.mpr c17
          have c17b2 : ¬ (s0_8 = []) := fun h_ => c17 (by rw [h_]; rfl)
          simp only [Option.some.injEq, Prod.mk.injEq] at H
          obtain ⟨rfl, rfl, rfl, rfl, rfl, rfl, rfl⟩ := H
          obtain ⟨ASz21_5, cSz21_5, ASz21_7, cSz21_7, ASz21_8, cSz21_8, ASz21_9, cSz21_9, HGz21, hgz21, HSz21_5, HSz21_7, HSz21_8, HSz21_9⟩ := HI0.out
          have hcz21_0 := cellS33_0 HGz21
          have hcz21_1 := cellS33_1 HGz21
          have hcz21_2 := cellS33_2 HGz21
          have hcz21_3 := cellS33_3 HGz21
          have hcz21_4 := cellS33_4 HGz21
          have hcz21_5 := cellS33_5 HGz21
          have hcz21_6 := cellS33_6 HGz21
          have hcz21_7 := cellS33_7 HGz21
          have hcz21_8 := cellS33_8 HGz21
          have hcz21_9 := cellS33_9 HGz21
          have hfz21_0 := blk_frozen HGz21 0
          have hfz21_1 := blk_frozen HGz21 1
          have hfz21_2 := blk_frozen HGz21 2
          have hfz21_3 := blk_frozen HGz21 3
          have hfz21_4 := blk_frozen HGz21 4
          have hfz21_6 := blk_frozen HGz21 6
          clear HGz21 hgz21
          go_enter Try.func75, Try.ntmps75
          go_wp2_with (first | ((with_reducible refine gate_callee (f := 89) rfl ?_); refine goesL_ (some 14) rfl rfl Try.func89 (by kernel_rfl) rfl #[.pointer (some ⟨g, 0, none⟩)] rfl (by (try simp only [List.map_toArray, List.map_cons, List.map_nil]); first | done | rfl | (simp only [List.length_drop, List.length_take]; rfl)) ?_; (with_reducible refine (spec_l9Primary.calls g s0_0 s0_1 s0_2 true s0_4 s0_5 s0_6 s0_7 s0_8 s0_9 false t115 t116 t117 t118 t119 t120 w0 _ ?side1 ?side2 A3.out).mono ?_); (case side1 => repeat (first | (with_reducible first | exact HI0.out | apply IsS33.alloc | apply IsS33.drewN | apply IsS33.drew | apply IsS33.set_0 | apply IsS33.set_1 | apply IsS33.set_2 | apply IsS33.set_3 | apply IsS33.set_4 | apply IsS33.set_6) | exact HI0.out)); (case side2 => repeat (first | (with_reducible first | exact HB.out | apply below_alloc | apply pw_below_drewN | apply below_drew1 | refine below_set ?_ (IsS33.ge HI0.out)) | exact HB.out)); rintro e w22 ⟨rfl, hi, hb, hk⟩; refine ⟨_, rfl, ?_⟩; have n0_ := Aside0.mk (KeepBut.trans (by repeat (first | (with_reducible first | exact HK.out | apply KeepBut.set_ | apply keep_drewN | apply keep_drew | apply keep_alloc) | exact HK.out)) hk (.inl rfl)); have n1_ := Aside0.mk (hb); have n2_ := Aside0.mk (hi); clear HK; clear HB; clear HI0; have HK := n0_; have HB := n1_; have HI0 := n2_; clear n0_ n1_ n2_; (try clear hb); (try clear hb2); (try clear hk); (try clear hi); obtain ⟨ASz23_5, cSz23_5, ASz23_7, cSz23_7, ASz23_8, cSz23_8, ASz23_9, cSz23_9, HGz23, hgz23, HSz23_5, HSz23_7, HSz23_8, HSz23_9⟩ := HI0.out; have hcz23_0 := cellS33_0 HGz23; have hcz23_1 := cellS33_1 HGz23; have hcz23_2 := cellS33_2 HGz23; have hcz23_3 := cellS33_3 HGz23; have hcz23_4 := cellS33_4 HGz23; have hcz23_5 := cellS33_5 HGz23; have hcz23_6 := cellS33_6 HGz23; have hcz23_7 := cellS33_7 HGz23; have hcz23_8 := cellS33_8 HGz23; have hcz23_9 := cellS33_9 HGz23; have hfz23_0 := blk_frozen HGz23 0; have hfz23_1 := blk_frozen HGz23 1; have hfz23_2 := blk_frozen HGz23 2; have hfz23_3 := blk_frozen HGz23 3; have hfz23_4 := blk_frozen HGz23 4; have hfz23_6 := blk_frozen HGz23 6; clear HGz23 hgz23))
          go_ret
          exact ⟨by first | rfl | (simp [errW_none, errW_some] <;> rfl) | (simp [*, errW_none, errW_some] <;> rfl), by repeat (first | (with_reducible first | exact HI0.out | apply IsS33.alloc | apply IsS33.drewN | apply IsS33.drew | apply IsS33.set_0 | apply IsS33.set_1 | apply IsS33.set_2 | apply IsS33.set_3 | apply IsS33.set_4 | apply IsS33.set_6) | exact HI0.out), by repeat (first | (with_reducible first | exact HB.out | apply below_alloc | apply pw_below_drewN | apply below_drew1 | refine below_set ?_ (IsS33.ge HI0.out)) | exact HB.out), by repeat (first | (with_reducible first | exact HK.out | apply KeepBut.set_ | apply keep_drewN | apply keep_drew | apply keep_alloc) | exact HK.out)⟩
      · rw [if_neg c16] at H
        have c16b0 : ((s0_7.length : Int) == 0) = false := beq_eq_false_iff_ne.mpr c16
        have c16b1 : ((s0_7.length : Int) != 0) = true := bne_iff_ne.mpr c16
        have c16b2 : ¬ (s0_7 = []) := fun h_ => c16 (by rw [h_]; rfl)
        simp only [Option.some.injEq, Prod.mk.injEq] at H
        obtain ⟨rfl, rfl, rfl, rfl, rfl, rfl, rfl⟩ := H
        obtain ⟨ASz24_5, cSz24_5, ASz24_7, cSz24_7, ASz24_8, cSz24_8, ASz24_9, cSz24_9, HGz24, hgz24, HSz24_5, HSz24_7, HSz24_8, HSz24_9⟩ := HI0.out
        have hcz24_0 := cellS33_0 HGz24
        have hcz24_1 := cellS33_1 HGz24
        have hcz24_2 := cellS33_2 HGz24
        have hcz24_3 := cellS33_3 HGz24
        have hcz24_4 := cellS33_4 HGz24
        have hcz24_5 := cellS33_5 HGz24
        have hcz24_6 := cellS33_6 HGz24
        have hcz24_7 := cellS33_7 HGz24
        have hcz24_8 := cellS33_8 HGz24
        have hcz24_9 := cellS33_9 HGz24
        have hfz24_0 := blk_frozen HGz24 0
        have hfz24_1 := blk_frozen HGz24 1
        have hfz24_2 := blk_frozen HGz24 2
        have hfz24_3 := blk_frozen HGz24 3
        have hfz24_4 := blk_frozen HGz24 4
        have hfz24_6 := blk_frozen HGz24 6
        clear HGz24 hgz24
        go_enter Try.func75, Try.ntmps75
        go_wp2_with (first | ((with_reducible refine gate_callee (f := 89) rfl ?_); refine goesL_ (some 14) rfl rfl Try.func89 (by kernel_rfl) rfl #[.pointer (some ⟨g, 0, none⟩)] rfl (by (try simp only [List.map_toArray, List.map_cons, List.map_nil]); first | done | rfl | (simp only [List.length_drop, List.length_take]; rfl)) ?_; (with_reducible refine (spec_l9Primary.calls g s0_0 s0_1 s0_2 true s0_4 s0_5 s0_6 s0_7 s0_8 s0_9 false t115 t116 t117 t118 t119 t120 w0 _ ?side1 ?side2 A3.out).mono ?_); (case side1 => repeat (first | (with_reducible first | exact HI0.out | apply IsS33.alloc | apply IsS33.drewN | apply IsS33.drew | apply IsS33.set_0 | apply IsS33.set_1 | apply IsS33.set_2 | apply IsS33.set_3 | apply IsS33.set_4 | apply IsS33.set_6) | exact HI0.out)); (case side2 => repeat (first | (with_reducible first | exact HB.out | apply below_alloc | apply pw_below_drewN | apply below_drew1 | refine below_set ?_ (IsS33.ge HI0.out)) | exact HB.out)); rintro e w25 ⟨rfl, hi, hb, hk⟩; refine ⟨_, rfl, ?_⟩; have n0_ := Aside0.mk (KeepBut.trans (by repeat (first | (with_reducible first | exact HK.out | apply KeepBut.set_ | apply keep_drewN | apply keep_drew | apply keep_alloc) | exact HK.out)) hk (.inl rfl)); have n1_ := Aside0.mk (hb); have n2_ := Aside0.mk (hi); clear HK; clear HB; clear HI0; have HK := n0_; have HB := n1_; have HI0 := n2_; clear n0_ n1_ n2_; (try clear hb); (try clear hb2); (try clear hk); (try clear hi); obtain ⟨ASz26_5, cSz26_5, ASz26_7, cSz26_7, ASz26_8, cSz26_8, ASz26_9, cSz26_9, HGz26, hgz26, HSz26_5, HSz26_7, HSz26_8, HSz26_9⟩ := HI0.out; have hcz26_0 := cellS33_0 HGz26; have hcz26_1 := cellS33_1 HGz26; have hcz26_2 := cellS33_2 HGz26; have hcz26_3 := cellS33_3 HGz26; have hcz26_4 := cellS33_4 HGz26; have hcz26_5 := cellS33_5 HGz26; have hcz26_6 := cellS33_6 HGz26; have hcz26_7 := cellS33_7 HGz26; have hcz26_8 := cellS33_8 HGz26; have hcz26_9 := cellS33_9 HGz26; have hfz26_0 := blk_frozen HGz26 0; have hfz26_1 := blk_frozen HGz26 1; have hfz26_2 := blk_frozen HGz26 2; have hfz26_3 := blk_frozen HGz26 3; have hfz26_4 := blk_frozen HGz26 4; have hfz26_6 := blk_frozen HGz26 6; clear HGz26 hgz26))
        go_ret
        exact ⟨by first | rfl | (simp [errW_none, errW_some] <;> rfl) | (simp [*, errW_none, errW_some] <;> rfl), by repeat (first | (with_reducible first | exact HI0.out | apply IsS33.alloc | apply IsS33.drewN | apply IsS33.drew | apply IsS33.set_0 | apply IsS33.set_1 | apply IsS33.set_2 | apply IsS33.set_3 | apply IsS33.set_4 | apply IsS33.set_6) | exact HI0.out), by repeat (first | (with_reducible first | exact HB.out | apply below_alloc | apply pw_below_drewN | apply below_drew1 | refine below_set ?_ (IsS33.ge HI0.out)) | exact HB.out), by repeat (first | (with_reducible first | exact HK.out | apply KeepBut.set_ | apply keep_drewN | apply keep_drew | apply keep_alloc) | exact HK.out)⟩
  · replace c2 := Bool.eq_false_iff.mpr c2
    subst c2
    have H1 : (if (s0_7.length : Int) = 0 then (if (s0_8.length : Int) = s0_1 then (some (((s0_9.length : Int) == s0_1), s0_0, s0_1, s0_2, false, s0_4, s0_6)) else (some (false, s0_0, s0_1, s0_2, false, s0_4, s0_6))) else (some (false, s0_0, s0_1, s0_2, false, s0_4, s0_6))) = some (r1, r2, r3, r4, r5, r6, r7) := by rw [if_neg (show ¬ (false = true) by decide)] at H; exact H
    clear H
    have H := H1
    clear H1
    by_cases c27 : (s0_7.length : Int) = 0
    · rw [if_pos c27] at H
      have c27b0 : ((s0_7.length : Int) == 0) = true := beq_iff_eq.mpr c27
      have c27b1 : ((s0_7.length : Int) != 0) = false := bne_eq_false_iff_eq.mpr c27
      clear c27
      by_cases c28 : (s0_8.length : Int) = s0_1
      · rw [if_pos c28] at H
        have c28b0 : ((s0_8.length : Int) == s0_1) = true := beq_iff_eq.mpr c28
        have c28b1 : ((s0_8.length : Int) != s0_1) = false := bne_eq_false_iff_eq.mpr c28
        clear c28
        simp only [Option.some.injEq, Prod.mk.injEq] at H
        obtain ⟨rfl, rfl, rfl, rfl, rfl, rfl, rfl⟩ := H
        obtain ⟨ASz29_5, cSz29_5, ASz29_7, cSz29_7, ASz29_8, cSz29_8, ASz29_9, cSz29_9, HGz29, hgz29, HSz29_5, HSz29_7, HSz29_8, HSz29_9⟩ := HI0.out
        have hcz29_0 := cellS33_0 HGz29
        have hcz29_1 := cellS33_1 HGz29
        have hcz29_2 := cellS33_2 HGz29
        have hcz29_3 := cellS33_3 HGz29
        have hcz29_4 := cellS33_4 HGz29
        have hcz29_5 := cellS33_5 HGz29
        have hcz29_6 := cellS33_6 HGz29
        have hcz29_7 := cellS33_7 HGz29
        have hcz29_8 := cellS33_8 HGz29
        have hcz29_9 := cellS33_9 HGz29
        have hfz29_0 := blk_frozen HGz29 0
        have hfz29_1 := blk_frozen HGz29 1
        have hfz29_2 := blk_frozen HGz29 2
        have hfz29_3 := blk_frozen HGz29 3
        have hfz29_4 := blk_frozen HGz29 4
        have hfz29_6 := blk_frozen HGz29 6
        clear HGz29 hgz29
        go_enter Try.func75, Try.ntmps75
        go_wp2
        go_ret
        exact ⟨by first | rfl | (simp [errW_none, errW_some] <;> rfl) | (simp [*, errW_none, errW_some] <;> rfl), by repeat (first | (with_reducible first | exact HI0.out | apply IsS33.alloc | apply IsS33.drewN | apply IsS33.drew | apply IsS33.set_0 | apply IsS33.set_1 | apply IsS33.set_2 | apply IsS33.set_3 | apply IsS33.set_4 | apply IsS33.set_6) | exact HI0.out), by repeat (first | (with_reducible first | exact HB.out | apply below_alloc | apply pw_below_drewN | apply below_drew1 | refine below_set ?_ (IsS33.ge HI0.out)) | exact HB.out), by repeat (first | (with_reducible first | exact HK.out | apply KeepBut.set_ | apply keep_drewN | apply keep_drew | apply keep_alloc) | exact HK.out)⟩
      · rw [if_neg c28] at H
        have c28b0 : ((s0_8.length : Int) == s0_1) = false := beq_eq_false_iff_ne.mpr c28
        have c28b1 : ((s0_8.length : Int) != s0_1) = true := bne_iff_ne.mpr c28
        simp only [Option.some.injEq, Prod.mk.injEq] at H
        obtain ⟨rfl, rfl, rfl, rfl, rfl, rfl, rfl⟩ := H
        obtain ⟨ASz30_5, cSz30_5, ASz30_7, cSz30_7, ASz30_8, cSz30_8, ASz30_9, cSz30_9, HGz30, hgz30, HSz30_5, HSz30_7, HSz30_8, HSz30_9⟩ := HI0.out
        have hcz30_0 := cellS33_0 HGz30
        have hcz30_1 := cellS33_1 HGz30
        have hcz30_2 := cellS33_2 HGz30
        have hcz30_3 := cellS33_3 HGz30
        have hcz30_4 := cellS33_4 HGz30
        have hcz30_5 := cellS33_5 HGz30
        have hcz30_6 := cellS33_6 HGz30
        have hcz30_7 := cellS33_7 HGz30
        have hcz30_8 := cellS33_8 HGz30
        have hcz30_9 := cellS33_9 HGz30
        have hfz30_0 := blk_frozen HGz30 0
        have hfz30_1 := blk_frozen HGz30 1
        have hfz30_2 := blk_frozen HGz30 2
        have hfz30_3 := blk_frozen HGz30 3
        have hfz30_4 := blk_frozen HGz30 4
        have hfz30_6 := blk_frozen HGz30 6
        clear HGz30 hgz30
        go_enter Try.func75, Try.ntmps75
        go_wp2
        go_ret
        exact ⟨by first | rfl | (simp [errW_none, errW_some] <;> rfl) | (simp [*, errW_none, errW_some] <;> rfl), by repeat (first | (with_reducible first | exact HI0.out | apply IsS33.alloc | apply IsS33.drewN | apply IsS33.drew | apply IsS33.set_0 | apply IsS33.set_1 | apply IsS33.set_2 | apply IsS33.set_3 | apply IsS33.set_4 | apply IsS33.set_6) | exact HI0.out), by repeat (first | (with_reducible first | exact HB.out | apply below_alloc | apply pw_below_drewN | apply below_drew1 | refine below_set ?_ (IsS33.ge HI0.out)) | exact HB.out), by repeat (first | (with_reducible first | exact HK.out | apply KeepBut.set_ | apply keep_drewN | apply keep_drew | apply keep_alloc) | exact HK.out)⟩
    · rw [if_neg c27] at H
      have c27b0 : ((s0_7.length : Int) == 0) = false := beq_eq_false_iff_ne.mpr c27
      have c27b1 : ((s0_7.length : Int) != 0) = true := bne_iff_ne.mpr c27
      have c27b2 : ¬ (s0_7 = []) := fun h_ => c27 (by rw [h_]; rfl)
      simp only [Option.some.injEq, Prod.mk.injEq] at H
      obtain ⟨rfl, rfl, rfl, rfl, rfl, rfl, rfl⟩ := H
      obtain ⟨ASz31_5, cSz31_5, ASz31_7, cSz31_7, ASz31_8, cSz31_8, ASz31_9, cSz31_9, HGz31, hgz31, HSz31_5, HSz31_7, HSz31_8, HSz31_9⟩ := HI0.out
      have hcz31_0 := cellS33_0 HGz31
      have hcz31_1 := cellS33_1 HGz31
      have hcz31_2 := cellS33_2 HGz31
      have hcz31_3 := cellS33_3 HGz31
      have hcz31_4 := cellS33_4 HGz31
      have hcz31_5 := cellS33_5 HGz31
      have hcz31_6 := cellS33_6 HGz31
      have hcz31_7 := cellS33_7 HGz31
      have hcz31_8 := cellS33_8 HGz31
      have hcz31_9 := cellS33_9 HGz31
      have hfz31_0 := blk_frozen HGz31 0
      have hfz31_1 := blk_frozen HGz31 1
      have hfz31_2 := blk_frozen HGz31 2
      have hfz31_3 := blk_frozen HGz31 3
      have hfz31_4 := blk_frozen HGz31 4
      have hfz31_6 := blk_frozen HGz31 6
      clear HGz31 hgz31
      go_enter Try.func75, Try.ntmps75
      go_wp2
      go_ret
      exact ⟨by first | rfl | (simp [errW_none, errW_some] <;> rfl) | (simp [*, errW_none, errW_some] <;> rfl), by repeat (first | (with_reducible first | exact HI0.out | apply IsS33.alloc | apply IsS33.drewN | apply IsS33.drew | apply IsS33.set_0 | apply IsS33.set_1 | apply IsS33.set_2 | apply IsS33.set_3 | apply IsS33.set_4 | apply IsS33.set_6) | exact HI0.out), by repeat (first | (with_reducible first | exact HB.out | apply below_alloc | apply pw_below_drewN | apply below_drew1 | refine below_set ?_ (IsS33.ge HI0.out)) | exact HB.out), by repeat (first | (with_reducible first | exact HK.out | apply KeepBut.set_ | apply keep_drewN | apply keep_drew | apply keep_alloc) | exact HK.out)⟩

-- NOT PRINTED: function 76 (spec_l9Doer)

-- NOT PRINTED: function 36 (spec_l9Fault)


/-! ### spec_ReplicaFault: function 10 -/
theorem hs_l9View (a : Int) (w : World) : Calls Try.prog 73 #[.int .i64 a] w fun e w' => e = .returned (.bool (decide (0 ≤ a) && decide (a ≤ 200))) ∧ w' = w := by
  go_enter Try.func73, Try.ntmps73
  go_wp2_with (go_at_call 52; refine (hs_l1In _ _ _ _).mono ?_; rintro e w' ⟨rfl, rfl⟩)
  go_ret
  exact ⟨rfl, rfl⟩
set_option maxHeartbeats 8000000 in
set_option maxRecDepth 100000 in
theorem hs_l9Doer (p : Addr) (d0 : Bool) (d1 : Int) (A : Option Addr) (c : Nat) (l : List (S95)) (d3 : Int) (n : Nat) (w : World) (hx0 : w.cell? p = some (.bool d0)) (hx1 : w.cell? ⟨p.block, p.off + 1, none⟩ = some (.int .i64 d1))
    (hx2 : w.cell? ⟨p.block, p.off + 2, none⟩ = some (.slice A n c)) (hx3 : w.cell? ⟨p.block, p.off + 3, none⟩ = some (.int .i64 d3)) (hr : Kd.C k95 w A l.length l) (hc : l.length ≤ c) (hn : n = l.length) :
    Calls Try.prog 76 #[.pointer (some p)] w fun e w' => e = .returned (.int .i64 (doerF d0 d1 l d3)) ∧ Below w.heap.size w w' := by
  have hu := Try.underlying70
  have hp := World.block_lt_of_cell? w _ hx0
  have HR := Aside0.mk hr
  have HC := Aside0.mk hc
  have HN := Aside0.mk hn
  clear hr hc hn
  have HB := Aside0.mk (Below.refl w.heap.size w)
  by_cases hl : 0 < n
  · have hl1 : decide (0 < n) = true := decide_eq_true hl
    have hl2 : decide (0 < (n : Int)) = true := decide_eq_true (by omega)
    have HL := Aside0.mk hl
    clear hl
    go_enter Try.func76, Try.ntmps76
    go_wp2_with (first | (go_at_call 73; refine (hs_l9View _ _).mono ?_; rintro e w' ⟨rfl, rfl⟩) | (go_at_call 74; rw [HN.out]; ((with_reducible refine (spec_LogFault.calls _ _ _ _ _ HR.out HC.out rfl).mono ?_); rintro e w1 ⟨rfl, hb⟩; have n_ := Aside0.mk (below_step (by repeat (first | (with_reducible first | exact HB.out | apply below_alloc | apply pw_below_drewN | apply below_drew1) | exact HB.out)) hb); obtain ⟨hc_, hf_⟩ := bcell hb; clear HB hb; have HB := n_; clear n_)))
    all_goals try (go_quiet ((go_at_call 52; exact Calls.quiet_of_same (hs_l1In _ _ _ _))); go_wp2)
    all_goals
      go_ret
      refine ⟨ret_i64 ?_, (by repeat (first | (with_reducible first | exact HB.out | apply below_alloc | apply pw_below_drewN | apply below_drew1) | exact HB.out))⟩
      have hl := HL.out
      have hn := HN.out
      clear HL HN HB HR HC hx0 hx1 hx2 hx3 hu hl1 hl2
      try simp only [Bool.not_eq_eq_eq_not, Bool.not_true, Bool.not_false, decide_eq_true_eq, decide_eq_false_iff_not, beq_iff_eq, beq_eq_false_iff_ne, bne_iff_ne, bne_eq_false_iff_eq, ne_eq, Int.not_le, Int.not_lt, Bool.not_eq_true] at *
      unfold doerF
      grind
  · have hl1 : decide (0 < n) = false := decide_eq_false hl
    have hl2 : decide (0 < (n : Int)) = false := decide_eq_false (by omega)
    have HL := Aside0.mk hl
    clear hl
    go_enter Try.func76, Try.ntmps76
    go_wp2_with (first | (go_at_call 73; refine (hs_l9View _ _).mono ?_; rintro e w' ⟨rfl, rfl⟩) | (go_at_call 74; rw [HN.out]; ((with_reducible refine (spec_LogFault.calls _ _ _ _ _ HR.out HC.out rfl).mono ?_); rintro e w1 ⟨rfl, hb⟩; have n_ := Aside0.mk (below_step (by repeat (first | (with_reducible first | exact HB.out | apply below_alloc | apply pw_below_drewN | apply below_drew1) | exact HB.out)) hb); obtain ⟨hc_, hf_⟩ := bcell hb; clear HB hb; have HB := n_; clear n_)))
    all_goals try (go_quiet ((go_at_call 52; exact Calls.quiet_of_same (hs_l1In _ _ _ _))); go_wp2)
    all_goals
      go_ret
      refine ⟨ret_i64 ?_, (by repeat (first | (with_reducible first | exact HB.out | apply below_alloc | apply pw_below_drewN | apply below_drew1) | exact HB.out))⟩
      have hl := HL.out
      have hn := HN.out
      clear HL HN HB HR HC hx0 hx1 hx2 hx3 hu hl1 hl2
      try simp only [Bool.not_eq_eq_eq_not, Bool.not_true, Bool.not_false, decide_eq_true_eq, decide_eq_false_iff_not, beq_iff_eq, beq_eq_false_iff_ne, bne_iff_ne, bne_eq_false_iff_eq, ne_eq, Int.not_le, Int.not_lt, Bool.not_eq_true] at *
      unfold doerF
      grind

theorem hs_in (a b c : Int) (w : World) : Calls Try.prog 52 #[.int .i64 a, .int .i64 b, .int .i64 c] w fun e w' => e = .returned (.bool (inR a b c)) ∧ w' = w := hs_l1In a b c w
theorem hs_view (a : Int) (w : World) : Calls Try.prog 73 #[.int .i64 a] w fun e w' => e = .returned (.bool (inR a 0 200)) ∧ w' = w := hs_l9View a w

set_option maxHeartbeats 8000000 in
set_option maxRecDepth 100000 in
theorem hs_l9Primary (p : Addr) (id size view last commit : Int) (norm : Bool) (v5 v7 v8 v9 : Value) (w : World) (hx : CellsAt w p [.int .i64 id, .int .i64 size, .int .i64 view, .bool norm, .int .i64 last, v5, .int .i64 commit, v7, v8, v9])
    (hs1 : 1 ≤ size) (hs2 : size ≤ 5) (hv1 : 0 ≤ view) (hv2 : view ≤ 200) :
    Calls Try.prog 89 #[.pointer (some p)] w fun e w' => e = .returned (.bool (view % size == id)) ∧ ∃ n, w' = w.drewN n := by
  have hx0 := hx.zero rfl
  have hx1 := hx.get 0 rfl
  have hx2 := hx.get 1 rfl
  clear hx
  have hz : (size == 0) = false := beq_eq_false_iff_ne.mpr (by omega)
  go_enter Try.func89, Try.ntmps89
  go_wp2
  go_quiet (fail)
  go_wp2
  go_ret
  exact ⟨rfl, _, rfl⟩
set_option maxHeartbeats 8000000 in
set_option maxRecDepth 100000 in
theorem hs_l9Sizes (p : Addr) (id size view last commit : Int) (norm : Bool) (v5 : Value) (A7 A8 A9 : Option Addr) (n7 c7 n8 c8 n9 c9 : Nat) (w : World)
    (hx : CellsAt w p [.int .i64 id, .int .i64 size, .int .i64 view, .bool norm, .int .i64 last, v5, .int .i64 commit, .slice A7 n7 c7, .slice A8 n8 c8, .slice A9 n9 c9])
    (hs1 : 1 ≤ size) (hs2 : size ≤ 5) (hv1 : 0 ≤ view) (hv2 : view ≤ 200) :
    Calls Try.prog 75 #[.pointer (some p)] w fun e w' => e = .returned (.bool (sizesB id size view norm n7 n8 n9)) ∧ ∃ n, w' = w.drewN n := by
  have HX := Aside0.mk hx
  have hx0 := hx.zero rfl
  have hx1 := hx.get 0 rfl
  have hx2 := hx.get 1 rfl
  have hx3 := hx.get 2 rfl
  have hx7 := hx.get 6 rfl
  have hx8 := hx.get 7 rfl
  have hx9 := hx.get 8 rfl
  clear hx
  go_enter Try.func75, Try.ntmps75
  go_wp2_with (go_at_call 89; refine (hs_l9Primary _ _ _ _ _ _ _ _ _ _ _ _ HX.out hs1 hs2 hv1 hv2).mono ?_; rintro e w' ⟨rfl, nq, rfl⟩)
  all_goals
    go_ret
    refine ⟨ret_bool ?_, ?_⟩
    · clear hx0 hx1 hx2 hx3 hx7 hx8 hx9 HX
      unfold sizesB

      grind
    · first | exact ⟨_, rfl⟩ | exact ⟨0, rfl⟩

set_option maxHeartbeats 16000000 in
set_option maxRecDepth 100000 in
theorem hs_l9Fault (p : Addr) (id size view last commit : Int) (norm : Bool) (A5 A7 A8 A9 : Option Addr) (c5 c7 c8 c9 n5 n7 n8 n9 : Nat) (log : List (S95)) (oks : List Int) (doers : List (S70)) (w : World)
    (hx : CellsAt w p [.int .i64 id, .int .i64 size, .int .i64 view, .bool norm, .int .i64 last, .slice A5 n5 c5, .int .i64 commit, .slice A7 n7 c7, .slice A8 n8 c8, .slice A9 n9 c9])
    (hn5 : n5 = log.length) (hn7 : n7 = oks.length) (hn9 : n9 = doers.length) (hr5 : Kd.C k95 w A5 log.length log) (hc5 : log.length ≤ c5) (hr7 : Kd.C (Kd.int .i64) w A7 oks.length oks) (hc7 : oks.length ≤ c7) (hr9 : Kd.C k70 w A9 doers.length doers) (hc9 : doers.length ≤ c9) :
    Calls Try.prog 36 #[.pointer (some p)] w fun e w' => e = .returned (.int .i64 (repF id size view norm last log commit oks n8 doers)) ∧ Below w.heap.size w w' := by
  have HX := Aside0.mk hx
  have hx0 := hx.zero rfl
  have hx1 := hx.get 0 rfl
  have hx2 := hx.get 1 rfl
  have hx3 := hx.get 2 rfl
  have hx4 := hx.get 3 rfl
  have hx5 := hx.get 4 rfl
  have hx6 := hx.get 5 rfl
  have hx7 := hx.get 6 rfl
  have hx9 := hx.get 8 rfl
  have hp := World.block_lt_of_cell? w _ hx0
  have HN5 := Aside0.mk hn5
  have HN7 := Aside0.mk hn7
  have HN9 := Aside0.mk hn9
  have HR5 := Aside0.mk hr5
  have HC5 := Aside0.mk hc5
  have HR7 := Aside0.mk hr7
  have HC7 := Aside0.mk hc7
  have HR9 := Aside0.mk hr9
  have HC9 := Aside0.mk hc9
  have HB := Aside0.mk (Below.refl w.heap.size w)
  clear hx hn5 hn7 hn9 hr5 hc5 hr7 hc7 hr9 hc9
  by_cases h1 : inR size 1 5 = true
  case neg =>
    rw [Bool.not_eq_true] at h1
    go_enter Try.func36, Try.ntmps36
    go_wp2
    go_quiet ((go_at_call 52; exact Calls.quiet_of_same (hs_in _ _ _ _)))
    go_wp2
    go_ret
    exact ⟨ret_i64 (by unfold repF; rw [if_pos (Or.inl h1)]), (by repeat (first | (with_reducible first | exact HB.out | apply below_alloc | apply pw_below_drewN | apply below_drew1) | exact HB.out))⟩
  obtain ⟨hs1, hs2⟩ := inR_iff.1 h1
  by_cases h2 : inR id 0 (size - 1) = true
  case neg =>
    rw [Bool.not_eq_true] at h2
    go_enter Try.func36, Try.ntmps36
    go_wp2
    go_quiet ((go_at_call 52; exact Calls.quiet_of_same (hs_in _ _ _ _)))
    go_wp2
    go_ret
    exact ⟨ret_i64 (by unfold repF; rw [if_pos (Or.inr (Or.inl h2))]), (by repeat (first | (with_reducible first | exact HB.out | apply below_alloc | apply pw_below_drewN | apply below_drew1) | exact HB.out))⟩
  by_cases h3 : inR view 0 200 = true
  case neg =>
    rw [Bool.not_eq_true] at h3
    go_enter Try.func36, Try.ntmps36
    go_wp2
    go_quiet ((first | (go_at_call 52; exact Calls.quiet_of_same (hs_in _ _ _ _)) | (go_at_call 73; exact Calls.quiet_of_same (hs_view _ _))))
    go_wp2
    go_ret
    exact ⟨ret_i64 (by unfold repF; rw [if_pos (Or.inr (Or.inr (Or.inl h3)))]), (by repeat (first | (with_reducible first | exact HB.out | apply below_alloc | apply pw_below_drewN | apply below_drew1) | exact HB.out))⟩
  obtain ⟨hv1, hv2⟩ := inR_iff.1 h3
  by_cases h4 : inR last 0 view = true
  case neg =>
    rw [Bool.not_eq_true] at h4
    go_enter Try.func36, Try.ntmps36
    go_wp2
    go_quiet ((first | (go_at_call 52; exact Calls.quiet_of_same (hs_in _ _ _ _)) | (go_at_call 73; exact Calls.quiet_of_same (hs_view _ _))))
    go_wp2
    go_ret
    exact ⟨ret_i64 (by unfold repF; rw [if_pos (Or.inr (Or.inr (Or.inr h4)))]), (by repeat (first | (with_reducible first | exact HB.out | apply below_alloc | apply pw_below_drewN | apply below_drew1) | exact HB.out))⟩
  have H14 : Aside0 (¬ (inR size 1 5 = false ∨ inR id 0 (size - 1) = false ∨ inR view 0 200 = false ∨ inR last 0 view = false)) := ⟨by rw [h1, h2, h3, h4]; simp⟩
  obtain ⟨lf, hlf⟩ : ∃ lf, lf = logF log := ⟨_, rfl⟩
  have HLF := Aside0.mk hlf
  clear hlf
  by_cases h5 : (lf != 0) = true
  case pos =>
    go_enter Try.func36, Try.ntmps36
    go_wp2
    go_quiet ((first | (go_at_call 52; exact Calls.quiet_of_same (hs_in _ _ _ _)) | (go_at_call 73; exact Calls.quiet_of_same (hs_view _ _))))
    go_wp2_with (go_at_call 74; rw [HN5.out]; ((with_reducible refine (spec_LogFault.calls _ _ _ _ _ (Kd.C_drewN HR5.out _) HC5.out rfl).mono ?_); rintro e w1 ⟨rfl, hb⟩; rw [← HLF.out]; have n_ := Aside0.mk (below_step (by repeat (first | (with_reducible first | exact HB.out | apply below_alloc | apply pw_below_drewN | apply below_drew1) | exact HB.out)) hb); obtain ⟨hc_, hf_⟩ := bcell hb; clear HB hb; have HB := n_; clear n_))
    go_ret
    exact ⟨ret_i64 (by unfold repF; rw [if_neg H14.out, ← HLF.out, if_pos (bne_iff_ne.1 h5)]), (by repeat (first | (with_reducible first | exact HB.out | apply below_alloc | apply pw_below_drewN | apply below_drew1) | exact HB.out))⟩
  rw [Bool.not_eq_true] at h5
  have H5 : Aside0 (¬ logF log ≠ 0) := ⟨by rw [← HLF.out]; simpa using h5⟩
  by_cases h6 : inR commit 0 n5 = true
  case neg =>
    rw [Bool.not_eq_true] at h6
    go_enter Try.func36, Try.ntmps36
    go_wp2
    go_quiet ((first | (go_at_call 52; exact Calls.quiet_of_same (hs_in _ _ _ _)) | (go_at_call 73; exact Calls.quiet_of_same (hs_view _ _))))
    go_wp2_with (first | (go_at_call 74; rw [HN5.out]; ((with_reducible refine (spec_LogFault.calls _ _ _ _ _ (Kd.C_drewN HR5.out _) HC5.out rfl).mono ?_); rintro e w1 ⟨rfl, hb⟩; rw [← HLF.out, ← HN5.out]; have n_ := Aside0.mk (below_step (by repeat (first | (with_reducible first | exact HB.out | apply below_alloc | apply pw_below_drewN | apply below_drew1) | exact HB.out)) hb); clear HB hb; have HB := n_; clear n_; have HX1 := Aside0.mk (HX.out.below HB.out); have hy0 := HX1.out.zero rfl; have hy1 := HX1.out.get 0 rfl; have hy2 := HX1.out.get 1 rfl; have hy3 := HX1.out.get 2 rfl; have hy4 := HX1.out.get 3 rfl; have hy5 := HX1.out.get 4 rfl; have hy6 := HX1.out.get 5 rfl; have hy7 := HX1.out.get 6 rfl; have hy9 := HX1.out.get 8 rfl)) | (go_at_call 52; refine (hs_in _ _ _ _).mono ?_; rintro e w' ⟨rfl, rfl⟩))
    go_ret
    exact ⟨ret_i64 (by unfold repF; rw [if_neg H14.out, if_neg H5.out, if_pos (by rw [← HN5.out]; exact h6)]), (by repeat (first | (with_reducible first | exact HB.out | apply below_alloc | apply pw_below_drewN | apply below_drew1) | exact HB.out))⟩
  have H6 : Aside0 (¬ inR commit 0 log.length = false) := ⟨by rw [← HN5.out, h6]; simp⟩
  by_cases h7 : norm = true ∧ last ≠ view
  case pos =>
    obtain ⟨rfl, h7⟩ := h7
    have h7b : (last != view) = true := bne_iff_ne.2 h7
    have H7 := Aside0.mk h7
    clear h7
    go_enter Try.func36, Try.ntmps36
    go_wp2
    go_quiet ((first | (go_at_call 52; exact Calls.quiet_of_same (hs_in _ _ _ _)) | (go_at_call 73; exact Calls.quiet_of_same (hs_view _ _))))
    go_wp2_with (first | (go_at_call 74; rw [HN5.out]; ((with_reducible refine (spec_LogFault.calls _ _ _ _ _ (Kd.C_drewN HR5.out _) HC5.out rfl).mono ?_); rintro e w1 ⟨rfl, hb⟩; rw [← HLF.out, ← HN5.out]; have n_ := Aside0.mk (below_step (by repeat (first | (with_reducible first | exact HB.out | apply below_alloc | apply pw_below_drewN | apply below_drew1) | exact HB.out)) hb); clear HB hb; have HB := n_; clear n_; have HX1 := Aside0.mk (HX.out.below HB.out); have hy0 := HX1.out.zero rfl; have hy1 := HX1.out.get 0 rfl; have hy2 := HX1.out.get 1 rfl; have hy3 := HX1.out.get 2 rfl; have hy4 := HX1.out.get 3 rfl; have hy5 := HX1.out.get 4 rfl; have hy6 := HX1.out.get 5 rfl; have hy7 := HX1.out.get 6 rfl; have hy9 := HX1.out.get 8 rfl)) | (go_at_call 52; refine (hs_in _ _ _ _).mono ?_; rintro e w' ⟨rfl, rfl⟩))
    go_quiet (fail)
    go_wp2
    go_ret
    exact ⟨ret_i64 (by unfold repF; rw [if_neg H14.out, if_neg H5.out, if_neg H6.out, if_pos (Or.inl ⟨rfl, H7.out⟩)]), (by repeat (first | (with_reducible first | exact HB.out | apply below_alloc | apply pw_below_drewN | apply below_drew1) | exact HB.out))⟩
  have H7 := Aside0.mk h7
  have h7c : norm = false ∨ (norm = true ∧ (last != view) = false) := by
    cases norm with
    | false => exact Or.inl rfl
    | true => exact Or.inr ⟨rfl, by simpa using h7⟩
  clear h7
  by_cases h8 : sizesB id size view norm n7 n8 n9 = true
  case neg =>
    rw [Bool.not_eq_true] at h8
    have H8 : Aside0 (sizesB id size view norm oks.length n8 doers.length = false) := ⟨by rw [← HN7.out, ← HN9.out]; exact h8⟩
    rcases h7c with rfl | ⟨rfl, h7b⟩
    all_goals
      go_enter Try.func36, Try.ntmps36
      go_wp2
      go_quiet ((first | (go_at_call 52; exact Calls.quiet_of_same (hs_in _ _ _ _)) | (go_at_call 73; exact Calls.quiet_of_same (hs_view _ _))))
      go_wp2_with (first | (go_at_call 74; rw [HN5.out]; ((with_reducible refine (spec_LogFault.calls _ _ _ _ _ (Kd.C_drewN HR5.out _) HC5.out rfl).mono ?_); rintro e w1 ⟨rfl, hb⟩; rw [← HLF.out, ← HN5.out]; have n_ := Aside0.mk (below_step (by repeat (first | (with_reducible first | exact HB.out | apply below_alloc | apply pw_below_drewN | apply below_drew1) | exact HB.out)) hb); clear HB hb; have HB := n_; clear n_; have HX1 := Aside0.mk (HX.out.below HB.out); have hy0 := HX1.out.zero rfl; have hy1 := HX1.out.get 0 rfl; have hy2 := HX1.out.get 1 rfl; have hy3 := HX1.out.get 2 rfl; have hy4 := HX1.out.get 3 rfl; have hy5 := HX1.out.get 4 rfl; have hy6 := HX1.out.get 5 rfl; have hy7 := HX1.out.get 6 rfl; have hy9 := HX1.out.get 8 rfl)) | (go_at_call 52; refine (hs_in _ _ _ _).mono ?_; rintro e w' ⟨rfl, rfl⟩))
      go_quiet ((go_at_call 75; exact Calls.quiet_of (hs_l9Sizes _ _ _ _ _ _ _ _ _ _ _ _ _ _ _ _ _ _ (HX1.out.drewN _) hs1 hs2 hv1 hv2)))
      go_wp2
      go_ret
      exact ⟨ret_i64 (by unfold repF; rw [if_neg H14.out, if_neg H5.out, if_neg H6.out, if_pos (Or.inr H8.out)]), (by repeat (first | (with_reducible first | exact HB.out | apply below_alloc | apply pw_below_drewN | apply below_drew1) | exact HB.out))⟩
  have hb7 : n7 ≤ 5 ∧ n9 ≤ 5 := by have h := of_decide_eq_true h8; grind
  obtain ⟨hb7, hb9⟩ := hb7
  have H8 : Aside0 (¬ ((norm = true ∧ last ≠ view) ∨ sizesB id size view norm oks.length n8 doers.length = false)) := ⟨by rw [← HN7.out, ← HN9.out, h8]; simpa using H7.out⟩
  have HREP : Aside0 (repF id size view norm last log commit oks n8 doers = if oksB log.length oks = false then 3 else doersF doers) := ⟨by unfold repF; rw [if_neg H14.out, if_neg H5.out, if_neg H6.out, if_neg H8.out]⟩
  clear H8
  rcases h7c with rfl | ⟨rfl, h7b⟩
  all_goals
    go_enter Try.func36, Try.ntmps36
    go_wp2
    go_quiet ((first | (go_at_call 52; exact Calls.quiet_of_same (hs_in _ _ _ _)) | (go_at_call 73; exact Calls.quiet_of_same (hs_view _ _))))
    go_wp2_with (first | (go_at_call 74; rw [HN5.out]; ((with_reducible refine (spec_LogFault.calls _ _ _ _ _ (Kd.C_drewN HR5.out _) HC5.out rfl).mono ?_); rintro e w1 ⟨rfl, hb⟩; rw [← HLF.out, ← HN5.out]; have n_ := Aside0.mk (below_step (by repeat (first | (with_reducible first | exact HB.out | apply below_alloc | apply pw_below_drewN | apply below_drew1) | exact HB.out)) hb); clear HB hb; have HB := n_; clear n_; have HX1 := Aside0.mk (HX.out.below HB.out); have hy0 := HX1.out.zero rfl; have hy1 := HX1.out.get 0 rfl; have hy2 := HX1.out.get 1 rfl; have hy3 := HX1.out.get 2 rfl; have hy4 := HX1.out.get 3 rfl; have hy5 := HX1.out.get 4 rfl; have hy6 := HX1.out.get 5 rfl; have hy7 := HX1.out.get 6 rfl; have hy9 := HX1.out.get 8 rfl)) | (go_at_call 52; refine (hs_in _ _ _ _).mono ?_; rintro e w' ⟨rfl, rfl⟩))
    go_quiet ((go_at_call 75; exact Calls.quiet_of (hs_l9Sizes _ _ _ _ _ _ _ _ _ _ _ _ _ _ _ _ _ _ (HX1.out.drewN _) hs1 hs2 hv1 hv2)))
    go_wp2
    simp only [h8]
    go_loop [5] (fun v => ∃ k : Nat, k ≤ n7 ∧ v = .int .i64 k ∧ Aside0 (oksB n5 oks = oksB n5 (oks.drop k))) (fun v => n7 - (intOf v).toNat)
    case atStart => exact ⟨0, by omega, rfl, ⟨by simp⟩⟩
    case round =>
      obtain ⟨k, hk, rfl, HO⟩ := hrel
      by_cases hlt : k < n7
      · have hl1 : decide ((k : Int) < (n7 : Int)) = true := decide_eq_true (by omega)
        obtain ⟨ad, cs, e1, _, hK, hcell⟩ := Kd.C_get (Kd.C_below HR7.out HB.out) 0 (k : Int) (by omega) (by rw [← HN7.out]; omega)
        cases e1
        have hx : cs = [.int .i64 (oks.getD k 0)] := hK
        subst hx
        have hz0 := hcell 0 _ rfl
        simp only [show (Kd.int .i64).sz = 1 from rfl, Nat.mul_one, Nat.add_zero, Int.toNat_natCast] at hz0
        clear hcell hK
        have HO2 := Aside0.mk (oksB_drop n5 oks k (by rw [← HN7.out]; omega))
        generalize oks.getD k 0 = x at *
        by_cases hb : inR x 0 n5 = true
        · go_wp2_with (go_at_call 52; refine (hs_in _ _ _ _).mono ?_; rintro e w' ⟨rfl, rfl⟩)
          go_round
          case rel => exact ⟨k + 1, by omega, by go_num, ⟨by rw [HO.out, HO2.out, if_pos hb]⟩⟩
          case measure => simp [intOf]; omega
        · have HF := Aside0.mk hb
          rw [Bool.not_eq_true] at hb
          go_wp2_with (go_at_call 52; refine (hs_in _ _ _ _).mono ?_; rintro e w' ⟨rfl, rfl⟩)
          go_ret
          exact ⟨ret_i64 (by rw [HREP.out, if_pos (by rw [← HN5.out, HO.out, HO2.out, if_neg HF.out])]), (by repeat (first | (with_reducible first | exact HB.out | apply below_alloc | apply pw_below_drewN | apply below_drew1) | exact HB.out))⟩
      · have hl1 : decide ((k : Int) < (n7 : Int)) = false := decide_eq_false (by omega)
        have H9 : Aside0 (¬ oksB log.length oks = false) := ⟨by rw [← HN5.out, HO.out, List.drop_eq_nil_of_le (by rw [← HN7.out]; omega)]; simp [oksB]⟩
        go_wp2
        go_loopw [6] (fun v w' => ∃ k : Nat, k ≤ n9 ∧ v = .int .i64 k ∧ Aside0 (doersF doers = doersF (doers.drop k)) ∧ Aside0 (Below w.heap.size w w')) (fun v _ => n9 - (intOf v).toNat)
        case atStart => exact ⟨0, by omega, rfl, ⟨by simp⟩, ⟨(by repeat (first | (with_reducible first | exact HB.out | apply below_alloc | apply pw_below_drewN | apply below_drew1) | exact HB.out))⟩⟩
        case round =>
          clear HB HX1 hy0 hy1 hy2 hy3 hy4 hy5 hy6 hy7 hy9 hlt hl1 HO hk
          obtain ⟨m, hk, rfl, HO, HB⟩ := hrel
          have hz9 := (HX.out.below HB.out).get 8 rfl
          by_cases hlt : m < n9
          · have hl1 : decide ((m : Int) < (n9 : Int)) = true := decide_eq_true (by omega)
            obtain ⟨ad, A2, c2, e1, hd0, hd1, hd2, hd3, hdl, hdr⟩ := at_T70 HR9.out (m : Int) (by omega) (by rw [← HN9.out]; omega)
            cases e1
            simp only [Int.toNat_natCast] at hd0 hd1 hd2 hd3
            have HD := Aside0.mk (doersF_drop doers m (by rw [← HN9.out]; omega))
            replace hd0 := Aside0.mk ((HB.out.cell (World.block_lt_of_cell? w _ hd0)).trans hd0)
            replace hd1 := Aside0.mk ((HB.out.cell (World.block_lt_of_cell? w _ hd1)).trans hd1)
            replace hd2 := Aside0.mk ((HB.out.cell (World.block_lt_of_cell? w _ hd2)).trans hd2)
            replace hd3 := Aside0.mk ((HB.out.cell (World.block_lt_of_cell? w _ hd3)).trans hd3)
            have HDL := Aside0.mk hdl
            have HDR := Aside0.mk (Kd.C_below hdr HB.out)
            clear hdl hdr
            generalize rd_T70 doers (m : Int) = x at *
            obtain ⟨r, hr⟩ : ∃ r, r = doerF x.f0 x.f1 x.f2 x.f3 := ⟨_, rfl⟩
            have HR2 := Aside0.mk hr
            clear hr
            by_cases hz : (r != 0) = true
            · go_wp2_with (go_at_call 76; ((with_reducible refine (hs_l9Doer _ _ _ _ _ _ _ _ _ hd0.out hd1.out hd2.out hd3.out HDR.out HDL.out rfl).mono ?_); rintro e w1 ⟨rfl, hb⟩; rw [← HR2.out]; have n_ := Aside0.mk (below_step (by repeat (first | (with_reducible first | exact HB.out | apply below_alloc | apply pw_below_drewN | apply below_drew1) | exact HB.out)) hb); clear HB hb; have HB := n_; clear n_))
              go_ret
              exact ⟨ret_i64 (by rw [HREP.out, if_neg H9.out, HO.out, HD.out]; exact HR2.out.trans (if_neg (by rw [← HR2.out]; exact bne_iff_ne.1 hz)).symm), (by repeat (first | (with_reducible first | exact HB.out | apply below_alloc | apply pw_below_drewN | apply below_drew1) | exact HB.out))⟩
            · rw [Bool.not_eq_true] at hz
              have HZ : Aside0 (r = 0) := ⟨by simpa using hz⟩
              go_wp2_with (go_at_call 76; ((with_reducible refine (hs_l9Doer _ _ _ _ _ _ _ _ _ hd0.out hd1.out hd2.out hd3.out HDR.out HDL.out rfl).mono ?_); rintro e w1 ⟨rfl, hb⟩; rw [← HR2.out]; have n_ := Aside0.mk (below_step (by repeat (first | (with_reducible first | exact HB.out | apply below_alloc | apply pw_below_drewN | apply below_drew1) | exact HB.out)) hb); clear HB hb; have HB := n_; clear n_))
              go_roundw
              case rel => exact ⟨m + 1, by omega, by go_num, ⟨by rw [HO.out, HD.out]; exact if_pos (HR2.out.symm.trans HZ.out)⟩, ⟨(by repeat (first | (with_reducible first | exact HB.out | apply below_alloc | apply pw_below_drewN | apply below_drew1) | exact HB.out))⟩⟩
              case measure => simp [intOf]; omega
          · have hl1 : decide ((m : Int) < (n9 : Int)) = false := decide_eq_false (by omega)
            go_wp2
            go_ret
            exact ⟨ret_i64 (by rw [HREP.out, if_neg H9.out, HO.out, List.drop_eq_nil_of_le (by rw [← HN9.out]; omega)]; rfl), (by repeat (first | (with_reducible first | exact HB.out | apply below_alloc | apply pw_below_drewN | apply below_drew1) | exact HB.out))⟩

def spec_ReplicaFault.f (a0_0 : Int) (a0_1 : Int) (a0_2 : Int) (a0_3 : Bool) (a0_4 : Int) (l0_5 : List (S95)) (a0_6 : Int) (l0_7 : List Int) (l0_8 : List Bool) (l0_9 : List (S70)) : Option (Int) := some (repF a0_0 a0_1 a0_2 a0_3 a0_4 l0_5 a0_6 l0_7 l0_8.length l0_9)
set_option maxHeartbeats 4000000 in
set_option maxRecDepth 100000 in
theorem spec_ReplicaFault.calls (a0_0 : Int) (a0_1 : Int) (a0_2 : Int) (a0_3 : Bool) (a0_4 : Int) (A0_5 : Option Addr) (c0_5 : Nat) (l0_5 : List (S95)) (a0_6 : Int) (A0_7 : Option Addr) (c0_7 : Nat) (l0_7 : List Int) (A0_8 : Option Addr) (c0_8 : Nat) (l0_8 : List Bool) (A0_9 : Option Addr) (c0_9 : Nat) (l0_9 : List (S70)) (r : Int) (w : World) (hr0_5 : Kd.C k95 w A0_5 l0_5.length l0_5) (hc0_5 : l0_5.length ≤ c0_5) (hr0_7 : Kd.C (Kd.int .i64) w A0_7 l0_7.length l0_7) (hc0_7 : l0_7.length ≤ c0_7) (hr0_8 : Kd.C Kd.bool w A0_8 l0_8.length l0_8) (hc0_8 : l0_8.length ≤ c0_8) (hr0_9 : Kd.C k70 w A0_9 l0_9.length l0_9) (hc0_9 : l0_9.length ≤ c0_9) (h : spec_ReplicaFault.f a0_0 a0_1 a0_2 a0_3 a0_4 l0_5 a0_6 l0_7 l0_8 l0_9 = some r) :
    Calls Try.prog 10 #[.agg #[.int .i64 a0_0, .int .i64 a0_1, .int .i64 a0_2, .bool a0_3, .int .i64 a0_4, .slice A0_5 l0_5.length c0_5, .int .i64 a0_6, .slice A0_7 l0_7.length c0_7, .slice A0_8 l0_8.length c0_8, .slice A0_9 l0_9.length c0_9]] w fun e w' => e = .returned (.int .i64 r) ∧ Below w.heap.size w w' := by
  obtain rfl := Option.some.inj h
  have HB := Aside0.mk (Below.refl w.heap.size w)
  have HX : Aside0 (CellsAt (w.alloc (.cells #[.int .i64 a0_0, .int .i64 a0_1, .int .i64 a0_2, .bool a0_3, .int .i64 a0_4, .slice A0_5 l0_5.length c0_5, .int .i64 a0_6, .slice A0_7 l0_7.length c0_7, .slice A0_8 l0_8.length c0_8, .slice A0_9 l0_9.length c0_9] 33)) ⟨w.heap.size, 0, none⟩ [.int .i64 a0_0, .int .i64 a0_1, .int .i64 a0_2, .bool a0_3, .int .i64 a0_4, .slice A0_5 l0_5.length c0_5, .int .i64 a0_6, .slice A0_7 l0_7.length c0_7, .slice A0_8 l0_8.length c0_8, .slice A0_9 l0_9.length c0_9]) := ⟨CellsAt.of_blk (blk_new w _)⟩
  have HR5 := Aside0.mk hr0_5
  have HC5 := Aside0.mk hc0_5
  have HR7 := Aside0.mk hr0_7
  have HC7 := Aside0.mk hc0_7
  have HR9 := Aside0.mk hr0_9
  have HC9 := Aside0.mk hc0_9
  clear h hr0_5 hc0_5 hr0_7 hc0_7 hr0_8 hc0_8 hr0_9 hc0_9
  go_enter Try.func10, Try.ntmps10
  go_wp2_with (go_at_call 36; refine (hs_l9Fault _ _ _ _ _ _ _ _ _ _ _ _ _ _ _ _ _ _ _ _ _ _ _ HX.out rfl rfl rfl (Kd.C_alloc HR5.out _) HC5.out (Kd.C_alloc HR7.out _) HC7.out (Kd.C_alloc HR9.out _) HC9.out).mono ?_; rintro e w1 ⟨rfl, hb⟩; have n_ := Aside0.mk (below_step (by repeat (first | (with_reducible first | exact HB.out | apply below_alloc | apply pw_below_drewN | apply below_drew1) | exact HB.out)) hb); clear HB hb; have HB := n_; clear n_)
  go_ret
  exact ⟨rfl, (by repeat (first | (with_reducible first | exact HB.out | apply below_alloc | apply pw_below_drewN | apply below_drew1) | exact HB.out))⟩


/-! ### laws_toOp: function 98 -/
def laws_toOp.f (a0_0 : Int) (a0_1 : Int) (a0_2 : Int) (a0_3 : Int) : Option (Int × Int × Int × Int) := some (a0_0, a0_1, a0_2, a0_3)
set_option maxHeartbeats 8000000 in
set_option maxRecDepth 100000 in
theorem laws_toOp.calls (a0_0 : Int) (a0_1 : Int) (a0_2 : Int) (a0_3 : Int) (r1 : Int) (r2 : Int) (r3 : Int) (r4 : Int) (w : World) (h : laws_toOp.f a0_0 a0_1 a0_2 a0_3 = some (r1, r2, r3, r4)) :
    Calls Try.prog 98 #[.agg #[.int .i64 a0_0, .int .i64 a0_1, .int .i64 a0_2, .int .i64 a0_3]] w fun e w' => e = .returned (.agg #[.int .i64 r1, .int .i64 r2, .int .i64 r3, .int .i64 r4]) ∧ Below w.heap.size w w' := by
  have hu97 := Try.underlying97
  have hu93 := Try.underlying93
  have HB := Aside0.mk (Below.refl w.heap.size w)
  have H : (some (a0_0, a0_1, a0_2, a0_3)) = some (r1, r2, r3, r4) := h
  clear h
  simp only [Option.some.injEq, Prod.mk.injEq] at H
  obtain ⟨rfl, rfl, rfl, rfl⟩ := H
  go_enter Try.func98, Try.ntmps98
  go_wp2_with (first | ((with_reducible refine gate_dst (N := 1) rfl ?_); refine box_event ?hg (N := 1) ?hd (cs := #[.int .i64 a0_0, .int .i64 a0_1, .int .i64 a0_2, .int .i64 a0_3]) (t := 97) ?hr ?_; (case hd => rfl); (case hg => rfl); (case hr => first | (go_simp; done) | (go_simp; rfl)); intro gb147 hg w2 hbox hb; have n0_ := Aside0.mk (below_step (by repeat (first | (with_reducible first | exact HB.out | apply below_alloc | apply pw_below_drewN | apply below_drew1) | exact HB.out)) hb); have n1_ := Aside0.mk (hbox); have n2_ := Aside0.mk ((by rw [hg]; exact (below_size (by repeat (first | (with_reducible first | exact HB.out | apply below_alloc | apply pw_below_drewN | apply below_drew1) | exact HB.out))) : w.heap.size ≤ gb147)); have n3_ := Aside0.mk ((by rw [hg]; exact (below_size (by repeat (first | (with_reducible first | exact HB.out | apply below_alloc | apply pw_below_drewN | apply below_drew1) | exact HB.out))) : w.heap.size ≤ gb147)); clear HB; have HB := n0_; have BK147 := n1_; have GW147 := n2_; have GE147 := n3_; clear n0_ n1_ n2_ n3_; clear hb hbox hg) | ((with_reducible refine gate_dst (N := 2) rfl ?_); refine box_event ?hg (N := 2) ?hd (cs := #[.int .i64 0, .int .i64 0, .int .i64 0, .int .i64 0]) (t := 93) ?hr ?_; (case hd => rfl); (case hg => rfl); (case hr => first | (go_simp; done) | (go_simp; rfl)); intro gb148 hg w3 hbox hb; have n0_ := Aside0.mk (blk_below (g := gb147) (o := .cells #[.int .i64 a0_0, .int .i64 a0_1, .int .i64 a0_2, .int .i64 a0_3] 97 (0, 0)) (by (with_reducible repeat (first | refine blk_drewN ?_ _ | refine blk_drew ?_ | refine blk_alloc ?_ _)); exact BK147.out) hb); have n1_ := Aside0.mk (below_step (by repeat (first | (with_reducible first | exact HB.out | apply below_alloc | apply pw_below_drewN | apply below_drew1 | refine below_set ?_ GE147.out) | exact HB.out)) hb); have n2_ := Aside0.mk (hbox); have n3_ := Aside0.mk ((by rw [hg]; exact (below_size (by repeat (first | (with_reducible first | exact HB.out | apply below_alloc | apply pw_below_drewN | apply below_drew1 | refine below_set ?_ GE147.out) | exact HB.out))) : w.heap.size ≤ gb148)); have n4_ := Aside0.mk ((by rw [hg]; exact (below_size (by repeat (first | (with_reducible first | exact HB.out | apply below_alloc | apply pw_below_drewN | apply below_drew1 | refine below_set ?_ GE147.out) | exact HB.out))) : w.heap.size ≤ gb148)); have n5_ := Aside0.mk ((by rw [hg]; exact Nat.ne_of_lt (blk_lt (g := gb147) (o := .cells #[.int .i64 a0_0, .int .i64 a0_1, .int .i64 a0_2, .int .i64 a0_3] 97 (0, 0)) (by (with_reducible repeat (first | refine blk_drewN ?_ _ | refine blk_drew ?_ | refine blk_alloc ?_ _)); exact BK147.out)) : gb147 ≠ gb148)); have n6_ := Aside0.mk ((by rw [hg]; exact Nat.ne_of_gt (blk_lt (g := gb147) (o := .cells #[.int .i64 a0_0, .int .i64 a0_1, .int .i64 a0_2, .int .i64 a0_3] 97 (0, 0)) (by (with_reducible repeat (first | refine blk_drewN ?_ _ | refine blk_drew ?_ | refine blk_alloc ?_ _)); exact BK147.out)) : gb148 ≠ gb147)); clear BK147; clear HB; have BK147 := n0_; have HB := n1_; have BK148 := n2_; have GW148 := n3_; have GE148 := n4_; have NB147_148 := n5_; have NB148_147 := n6_; clear n0_ n1_ n2_ n3_ n4_ n5_ n6_; clear hb hbox hg) | ((with_reducible refine gate_dst (N := 3) rfl ?_); refine box_event ?hg (N := 3) ?hd (cs := #[.int .i64 0, .int .i64 0, .int .i64 0, .int .i64 0]) (t := 93) ?hr ?_; (case hd => rfl); (case hg => rfl); (case hr => first | (go_simp; done) | (go_simp; rfl)); intro gb149 hg w4 hbox hb; have n0_ := Aside0.mk (blk_below (g := gb147) (o := .cells #[.int .i64 a0_0, .int .i64 a0_1, .int .i64 a0_2, .int .i64 a0_3] 97 (0, 0)) (by (with_reducible repeat (first | refine blk_drewN ?_ _ | refine blk_drew ?_ | refine blk_alloc ?_ _)); exact BK147.out) hb); have n1_ := Aside0.mk (blk_below (g := gb148) (o := .cells #[.int .i64 0, .int .i64 0, .int .i64 0, .int .i64 0] 93 (0, 0)) (by (with_reducible repeat (first | refine blk_drewN ?_ _ | refine blk_drew ?_ | refine blk_alloc ?_ _)); exact BK148.out) hb); have n2_ := Aside0.mk (below_step (by repeat (first | (with_reducible first | exact HB.out | apply below_alloc | apply pw_below_drewN | apply below_drew1 | refine below_set ?_ GE147.out | refine below_set ?_ GE148.out) | exact HB.out)) hb); have n3_ := Aside0.mk (hbox); have n4_ := Aside0.mk ((by rw [hg]; exact (below_size (by repeat (first | (with_reducible first | exact HB.out | apply below_alloc | apply pw_below_drewN | apply below_drew1 | refine below_set ?_ GE147.out | refine below_set ?_ GE148.out) | exact HB.out))) : w.heap.size ≤ gb149)); have n5_ := Aside0.mk ((by rw [hg]; exact (below_size (by repeat (first | (with_reducible first | exact HB.out | apply below_alloc | apply pw_below_drewN | apply below_drew1 | refine below_set ?_ GE147.out | refine below_set ?_ GE148.out) | exact HB.out))) : w.heap.size ≤ gb149)); have n6_ := Aside0.mk ((by rw [hg]; exact Nat.ne_of_lt (blk_lt (g := gb147) (o := .cells #[.int .i64 a0_0, .int .i64 a0_1, .int .i64 a0_2, .int .i64 a0_3] 97 (0, 0)) (by (with_reducible repeat (first | refine blk_drewN ?_ _ | refine blk_drew ?_ | refine blk_alloc ?_ _)); exact BK147.out)) : gb147 ≠ gb149)); have n7_ := Aside0.mk ((by rw [hg]; exact Nat.ne_of_gt (blk_lt (g := gb147) (o := .cells #[.int .i64 a0_0, .int .i64 a0_1, .int .i64 a0_2, .int .i64 a0_3] 97 (0, 0)) (by (with_reducible repeat (first | refine blk_drewN ?_ _ | refine blk_drew ?_ | refine blk_alloc ?_ _)); exact BK147.out)) : gb149 ≠ gb147)); have n8_ := Aside0.mk ((by rw [hg]; exact Nat.ne_of_lt (blk_lt (g := gb148) (o := .cells #[.int .i64 0, .int .i64 0, .int .i64 0, .int .i64 0] 93 (0, 0)) (by (with_reducible repeat (first | refine blk_drewN ?_ _ | refine blk_drew ?_ | refine blk_alloc ?_ _)); exact BK148.out)) : gb148 ≠ gb149)); have n9_ := Aside0.mk ((by rw [hg]; exact Nat.ne_of_gt (blk_lt (g := gb148) (o := .cells #[.int .i64 0, .int .i64 0, .int .i64 0, .int .i64 0] 93 (0, 0)) (by (with_reducible repeat (first | refine blk_drewN ?_ _ | refine blk_drew ?_ | refine blk_alloc ?_ _)); exact BK148.out)) : gb149 ≠ gb148)); clear BK147; clear BK148; clear HB; have BK147 := n0_; have BK148 := n1_; have HB := n2_; have BK149 := n3_; have GW149 := n4_; have GE149 := n5_; have NB147_149 := n6_; have NB149_147 := n7_; have NB148_149 := n8_; have NB149_148 := n9_; clear n0_ n1_ n2_ n3_ n4_ n5_ n6_ n7_ n8_ n9_; clear hb hbox hg; have hnb5 := NB147_148.out; have hnc5 := NB148_147.out; have hnb6 := NB147_149.out; have hnc6 := NB149_147.out; have hcz7_0 : w4.cell? ⟨gb147, 0, none⟩ = some (.int .i64 a0_0) := (blk_cell BK147.out 0).trans rfl; have hcz7_1 : w4.cell? ⟨gb147, 1, none⟩ = some (.int .i64 a0_1) := (blk_cell BK147.out 1).trans rfl; have hcz7_2 : w4.cell? ⟨gb147, 2, none⟩ = some (.int .i64 a0_2) := (blk_cell BK147.out 2).trans rfl; have hcz7_3 : w4.cell? ⟨gb147, 3, none⟩ = some (.int .i64 a0_3) := (blk_cell BK147.out 3).trans rfl; have hfz7_0 := blk_frozen BK147.out 0; have hfz7_1 := blk_frozen BK147.out 1; have hfz7_2 := blk_frozen BK147.out 2; have hfz7_3 := blk_frozen BK147.out 3; have hnb8 := NB149_148.out; have hnc8 := NB148_149.out; have hcz9_0 : w4.cell? ⟨gb149, 0, none⟩ = some (.int .i64 0) := (blk_cell BK149.out 0).trans rfl; have hcz9_1 : w4.cell? ⟨gb149, 1, none⟩ = some (.int .i64 0) := (blk_cell BK149.out 1).trans rfl; have hcz9_2 : w4.cell? ⟨gb149, 2, none⟩ = some (.int .i64 0) := (blk_cell BK149.out 2).trans rfl; have hcz9_3 : w4.cell? ⟨gb149, 3, none⟩ = some (.int .i64 0) := (blk_cell BK149.out 3).trans rfl; have hfz9_0 := blk_frozen BK149.out 0; have hfz9_1 := blk_frozen BK149.out 1; have hfz9_2 := blk_frozen BK149.out 2; have hfz9_3 := blk_frozen BK149.out 3; have hcz10_0 : w4.cell? ⟨gb148, 0, none⟩ = some (.int .i64 0) := (blk_cell BK148.out 0).trans rfl; have hcz10_1 : w4.cell? ⟨gb148, 1, none⟩ = some (.int .i64 0) := (blk_cell BK148.out 1).trans rfl; have hcz10_2 : w4.cell? ⟨gb148, 2, none⟩ = some (.int .i64 0) := (blk_cell BK148.out 2).trans rfl; have hcz10_3 : w4.cell? ⟨gb148, 3, none⟩ = some (.int .i64 0) := (blk_cell BK148.out 3).trans rfl; have hfz10_0 := blk_frozen BK148.out 0; have hfz10_1 := blk_frozen BK148.out 1; have hfz10_2 := blk_frozen BK148.out 2; have hfz10_3 := blk_frozen BK148.out 3))
  refine bodyPost_ret (results_cell_row rfl _ _ gb148 93 #[.int .i64 a0_0, .int .i64 a0_1, .int .i64 a0_2, .int .i64 a0_3] (0, 0) _ rfl (by (with_reducible repeat (first | refine blk_drewN ?_ _ | refine blk_drew ?_ | refine blk_alloc ?_ _)); refine blk_put (cs := #[.int .i64 a0_0, .int .i64 a0_1, .int .i64 a0_2, .int .i64 0]) ?_ 3 _ rfl; (with_reducible repeat (first | refine blk_drewN ?_ _ | refine blk_drew ?_ | refine blk_alloc ?_ _)); refine blk_put (cs := #[.int .i64 a0_0, .int .i64 a0_1, .int .i64 0, .int .i64 0]) ?_ 2 _ rfl; (with_reducible repeat (first | refine blk_drewN ?_ _ | refine blk_drew ?_ | refine blk_alloc ?_ _)); refine blk_put (cs := #[.int .i64 a0_0, .int .i64 0, .int .i64 0, .int .i64 0]) ?_ 1 _ rfl; (with_reducible repeat (first | refine blk_drewN ?_ _ | refine blk_drew ?_ | refine blk_alloc ?_ _)); refine blk_put (cs := #[.int .i64 0, .int .i64 0, .int .i64 0, .int .i64 0]) ?_ 0 _ rfl; (with_reducible repeat (first | refine blk_drewN ?_ _ | refine blk_drew ?_ | refine blk_alloc ?_ _)); refine blk_far ?_ NB148_149.out _; (with_reducible repeat (first | refine blk_drewN ?_ _ | refine blk_drew ?_ | refine blk_alloc ?_ _)); refine blk_far ?_ NB148_149.out _; (with_reducible repeat (first | refine blk_drewN ?_ _ | refine blk_drew ?_ | refine blk_alloc ?_ _)); refine blk_far ?_ NB148_149.out _; (with_reducible repeat (first | refine blk_drewN ?_ _ | refine blk_drew ?_ | refine blk_alloc ?_ _)); refine blk_far ?_ NB148_149.out _; (with_reducible repeat (first | refine blk_drewN ?_ _ | refine blk_drew ?_ | refine blk_alloc ?_ _)); exact BK148.out) Try.underlying93 rfl (by kernel_rfl)) rfl ?_
  exact ⟨by first | rfl | (simp [errW_none, errW_some] <;> rfl) | (simp [*, errW_none, errW_some] <;> rfl), by repeat (first | (with_reducible first | exact HB.out | apply below_alloc | apply pw_below_drewN | apply below_drew1 | refine below_set ?_ GE147.out | refine below_set ?_ GE148.out | refine below_set ?_ GE149.out) | exact HB.out)⟩

/-! ### laws_toEntry: function 77 -/
def laws_toEntry.f (a0_0 : Int) (a0_1 : Int) (a0_2 : Int) (a0_3 : Int) (a0_4 : Int) (a0_5 : Int) : Option (Int × Int × Int × Int × Int × Int) := (laws_toOp.f a0_2 a0_3 a0_4 a0_5).bind fun bt153 => (some (a0_0, a0_1, bt153.1, bt153.2.1, bt153.2.2.1, bt153.2.2.2))
set_option maxHeartbeats 8000000 in
set_option maxRecDepth 100000 in
theorem laws_toEntry.calls (a0_0 : Int) (a0_1 : Int) (a0_2 : Int) (a0_3 : Int) (a0_4 : Int) (a0_5 : Int) (r1 : Int) (r2 : Int) (r3 : Int) (r4 : Int) (r5 : Int) (r6 : Int) (w : World) (h : laws_toEntry.f a0_0 a0_1 a0_2 a0_3 a0_4 a0_5 = some (r1, r2, r3, r4, r5, r6)) :
    Calls Try.prog 77 #[.agg #[.int .i64 a0_0, .int .i64 a0_1, .int .i64 a0_2, .int .i64 a0_3, .int .i64 a0_4, .int .i64 a0_5]] w fun e w' => e = .returned (.agg #[.int .i64 r1, .int .i64 r2, .int .i64 r3, .int .i64 r4, .int .i64 r5, .int .i64 r6]) ∧ Below w.heap.size w w' := by
  have hu99 := Try.underlying99
  have hu95 := Try.underlying95
  have hu97 := Try.underlying97
  have hu93 := Try.underlying93
  have HB := Aside0.mk (Below.refl w.heap.size w)
  have H : ((laws_toOp.f a0_2 a0_3 a0_4 a0_5).bind fun bt153 => (some (a0_0, a0_1, bt153.1, bt153.2.1, bt153.2.2.1, bt153.2.2.2))) = some (r1, r2, r3, r4, r5, r6) := h
  clear h
  replace H := Option.bind_eq_some_iff.mp H
  obtain ⟨⟨t153, t154, t155, t156⟩, A20, H⟩ := H
  replace H : (some (a0_0, a0_1, t153, t154, t155, t156)) = some (r1, r2, r3, r4, r5, r6) := H
  have A2 := Aside0.mk A20
  clear A20
  simp only [Option.some.injEq, Prod.mk.injEq] at H
  obtain ⟨rfl, rfl, rfl, rfl, rfl, rfl⟩ := H
  go_enter Try.func77, Try.ntmps77
  go_wp2_with (first | ((with_reducible refine gate_dst (N := 1) rfl ?_); refine box_event ?hg (N := 1) ?hd (cs := #[.int .i64 a0_0, .int .i64 a0_1, .int .i64 a0_2, .int .i64 a0_3, .int .i64 a0_4, .int .i64 a0_5]) (t := 99) ?hr ?_; (case hd => rfl); (case hg => rfl); (case hr => first | (go_simp; done) | (go_simp; rfl)); intro gb150 hg w3 hbox hb; have n0_ := Aside0.mk (below_step (by repeat (first | (with_reducible first | exact HB.out | apply below_alloc | apply pw_below_drewN | apply below_drew1) | exact HB.out)) hb); have n1_ := Aside0.mk (hbox); have n2_ := Aside0.mk ((by rw [hg]; exact (below_size (by repeat (first | (with_reducible first | exact HB.out | apply below_alloc | apply pw_below_drewN | apply below_drew1) | exact HB.out))) : w.heap.size ≤ gb150)); have n3_ := Aside0.mk ((by rw [hg]; exact (below_size (by repeat (first | (with_reducible first | exact HB.out | apply below_alloc | apply pw_below_drewN | apply below_drew1) | exact HB.out))) : w.heap.size ≤ gb150)); clear HB; have HB := n0_; have BK150 := n1_; have GW150 := n2_; have GE150 := n3_; clear n0_ n1_ n2_ n3_; clear hb hbox hg) | ((with_reducible refine gate_dst (N := 2) rfl ?_); refine box_event ?hg (N := 2) ?hd (cs := #[.int .i64 0, .int .i64 0, .int .i64 0, .int .i64 0, .int .i64 0, .int .i64 0]) (t := 95) ?hr ?_; (case hd => rfl); (case hg => rfl); (case hr => first | (go_simp; done) | (go_simp; rfl)); intro gb151 hg w4 hbox hb; have n0_ := Aside0.mk (blk_below (g := gb150) (o := .cells #[.int .i64 a0_0, .int .i64 a0_1, .int .i64 a0_2, .int .i64 a0_3, .int .i64 a0_4, .int .i64 a0_5] 99 (0, 0)) (by (with_reducible repeat (first | refine blk_drewN ?_ _ | refine blk_drew ?_ | refine blk_alloc ?_ _)); exact BK150.out) hb); have n1_ := Aside0.mk (below_step (by repeat (first | (with_reducible first | exact HB.out | apply below_alloc | apply pw_below_drewN | apply below_drew1 | refine below_set ?_ GE150.out) | exact HB.out)) hb); have n2_ := Aside0.mk (hbox); have n3_ := Aside0.mk ((by rw [hg]; exact (below_size (by repeat (first | (with_reducible first | exact HB.out | apply below_alloc | apply pw_below_drewN | apply below_drew1 | refine below_set ?_ GE150.out) | exact HB.out))) : w.heap.size ≤ gb151)); have n4_ := Aside0.mk ((by rw [hg]; exact (below_size (by repeat (first | (with_reducible first | exact HB.out | apply below_alloc | apply pw_below_drewN | apply below_drew1 | refine below_set ?_ GE150.out) | exact HB.out))) : w.heap.size ≤ gb151)); have n5_ := Aside0.mk ((by rw [hg]; exact Nat.ne_of_lt (blk_lt (g := gb150) (o := .cells #[.int .i64 a0_0, .int .i64 a0_1, .int .i64 a0_2, .int .i64 a0_3, .int .i64 a0_4, .int .i64 a0_5] 99 (0, 0)) (by (with_reducible repeat (first | refine blk_drewN ?_ _ | refine blk_drew ?_ | refine blk_alloc ?_ _)); exact BK150.out)) : gb150 ≠ gb151)); have n6_ := Aside0.mk ((by rw [hg]; exact Nat.ne_of_gt (blk_lt (g := gb150) (o := .cells #[.int .i64 a0_0, .int .i64 a0_1, .int .i64 a0_2, .int .i64 a0_3, .int .i64 a0_4, .int .i64 a0_5] 99 (0, 0)) (by (with_reducible repeat (first | refine blk_drewN ?_ _ | refine blk_drew ?_ | refine blk_alloc ?_ _)); exact BK150.out)) : gb151 ≠ gb150)); clear BK150; clear HB; have BK150 := n0_; have HB := n1_; have BK151 := n2_; have GW151 := n3_; have GE151 := n4_; have NB150_151 := n5_; have NB151_150 := n6_; clear n0_ n1_ n2_ n3_ n4_ n5_ n6_; clear hb hbox hg) | ((with_reducible refine gate_dst (N := 3) rfl ?_); refine box_event ?hg (N := 3) ?hd (cs := #[.int .i64 0, .int .i64 0, .int .i64 0, .int .i64 0, .int .i64 0, .int .i64 0]) (t := 95) ?hr ?_; (case hd => rfl); (case hg => rfl); (case hr => first | (go_simp; done) | (go_simp; rfl)); intro gb152 hg w5 hbox hb; have n0_ := Aside0.mk (blk_below (g := gb150) (o := .cells #[.int .i64 a0_0, .int .i64 a0_1, .int .i64 a0_2, .int .i64 a0_3, .int .i64 a0_4, .int .i64 a0_5] 99 (0, 0)) (by (with_reducible repeat (first | refine blk_drewN ?_ _ | refine blk_drew ?_ | refine blk_alloc ?_ _)); exact BK150.out) hb); have n1_ := Aside0.mk (blk_below (g := gb151) (o := .cells #[.int .i64 0, .int .i64 0, .int .i64 0, .int .i64 0, .int .i64 0, .int .i64 0] 95 (0, 0)) (by (with_reducible repeat (first | refine blk_drewN ?_ _ | refine blk_drew ?_ | refine blk_alloc ?_ _)); exact BK151.out) hb); have n2_ := Aside0.mk (below_step (by repeat (first | (with_reducible first | exact HB.out | apply below_alloc | apply pw_below_drewN | apply below_drew1 | refine below_set ?_ GE150.out | refine below_set ?_ GE151.out) | exact HB.out)) hb); have n3_ := Aside0.mk (hbox); have n4_ := Aside0.mk ((by rw [hg]; exact (below_size (by repeat (first | (with_reducible first | exact HB.out | apply below_alloc | apply pw_below_drewN | apply below_drew1 | refine below_set ?_ GE150.out | refine below_set ?_ GE151.out) | exact HB.out))) : w.heap.size ≤ gb152)); have n5_ := Aside0.mk ((by rw [hg]; exact (below_size (by repeat (first | (with_reducible first | exact HB.out | apply below_alloc | apply pw_below_drewN | apply below_drew1 | refine below_set ?_ GE150.out | refine below_set ?_ GE151.out) | exact HB.out))) : w.heap.size ≤ gb152)); have n6_ := Aside0.mk ((by rw [hg]; exact Nat.ne_of_lt (blk_lt (g := gb150) (o := .cells #[.int .i64 a0_0, .int .i64 a0_1, .int .i64 a0_2, .int .i64 a0_3, .int .i64 a0_4, .int .i64 a0_5] 99 (0, 0)) (by (with_reducible repeat (first | refine blk_drewN ?_ _ | refine blk_drew ?_ | refine blk_alloc ?_ _)); exact BK150.out)) : gb150 ≠ gb152)); have n7_ := Aside0.mk ((by rw [hg]; exact Nat.ne_of_gt (blk_lt (g := gb150) (o := .cells #[.int .i64 a0_0, .int .i64 a0_1, .int .i64 a0_2, .int .i64 a0_3, .int .i64 a0_4, .int .i64 a0_5] 99 (0, 0)) (by (with_reducible repeat (first | refine blk_drewN ?_ _ | refine blk_drew ?_ | refine blk_alloc ?_ _)); exact BK150.out)) : gb152 ≠ gb150)); have n8_ := Aside0.mk ((by rw [hg]; exact Nat.ne_of_lt (blk_lt (g := gb151) (o := .cells #[.int .i64 0, .int .i64 0, .int .i64 0, .int .i64 0, .int .i64 0, .int .i64 0] 95 (0, 0)) (by (with_reducible repeat (first | refine blk_drewN ?_ _ | refine blk_drew ?_ | refine blk_alloc ?_ _)); exact BK151.out)) : gb151 ≠ gb152)); have n9_ := Aside0.mk ((by rw [hg]; exact Nat.ne_of_gt (blk_lt (g := gb151) (o := .cells #[.int .i64 0, .int .i64 0, .int .i64 0, .int .i64 0, .int .i64 0, .int .i64 0] 95 (0, 0)) (by (with_reducible repeat (first | refine blk_drewN ?_ _ | refine blk_drew ?_ | refine blk_alloc ?_ _)); exact BK151.out)) : gb152 ≠ gb151)); clear BK150; clear BK151; clear HB; have BK150 := n0_; have BK151 := n1_; have HB := n2_; have BK152 := n3_; have GW152 := n4_; have GE152 := n5_; have NB150_152 := n6_; have NB152_150 := n7_; have NB151_152 := n8_; have NB152_151 := n9_; clear n0_ n1_ n2_ n3_ n4_ n5_ n6_ n7_ n8_ n9_; clear hb hbox hg; have hnb6 := NB150_151.out; have hnc6 := NB151_150.out; have hnb7 := NB150_152.out; have hnc7 := NB152_150.out; have hcz8_0 : w5.cell? ⟨gb150, 0, none⟩ = some (.int .i64 a0_0) := (blk_cell BK150.out 0).trans rfl; have hcz8_1 : w5.cell? ⟨gb150, 1, none⟩ = some (.int .i64 a0_1) := (blk_cell BK150.out 1).trans rfl; have hcz8_2 : w5.cell? ⟨gb150, 2, none⟩ = some (.int .i64 a0_2) := (blk_cell BK150.out 2).trans rfl; have hcz8_3 : w5.cell? ⟨gb150, 3, none⟩ = some (.int .i64 a0_3) := (blk_cell BK150.out 3).trans rfl; have hcz8_4 : w5.cell? ⟨gb150, 4, none⟩ = some (.int .i64 a0_4) := (blk_cell BK150.out 4).trans rfl; have hcz8_5 : w5.cell? ⟨gb150, 5, none⟩ = some (.int .i64 a0_5) := (blk_cell BK150.out 5).trans rfl; have hfz8_0 := blk_frozen BK150.out 0; have hfz8_1 := blk_frozen BK150.out 1; have hfz8_2 := blk_frozen BK150.out 2; have hfz8_3 := blk_frozen BK150.out 3; have hfz8_4 := blk_frozen BK150.out 4; have hfz8_5 := blk_frozen BK150.out 5; have hnb9 := NB152_151.out; have hnc9 := NB151_152.out; have hcz10_0 : w5.cell? ⟨gb152, 0, none⟩ = some (.int .i64 0) := (blk_cell BK152.out 0).trans rfl; have hcz10_1 : w5.cell? ⟨gb152, 1, none⟩ = some (.int .i64 0) := (blk_cell BK152.out 1).trans rfl; have hcz10_2 : w5.cell? ⟨gb152, 2, none⟩ = some (.int .i64 0) := (blk_cell BK152.out 2).trans rfl; have hcz10_3 : w5.cell? ⟨gb152, 3, none⟩ = some (.int .i64 0) := (blk_cell BK152.out 3).trans rfl; have hcz10_4 : w5.cell? ⟨gb152, 4, none⟩ = some (.int .i64 0) := (blk_cell BK152.out 4).trans rfl; have hcz10_5 : w5.cell? ⟨gb152, 5, none⟩ = some (.int .i64 0) := (blk_cell BK152.out 5).trans rfl; have hfz10_0 := blk_frozen BK152.out 0; have hfz10_1 := blk_frozen BK152.out 1; have hfz10_2 := blk_frozen BK152.out 2; have hfz10_3 := blk_frozen BK152.out 3; have hfz10_4 := blk_frozen BK152.out 4; have hfz10_5 := blk_frozen BK152.out 5) | ((with_reducible refine gate_callee (f := 98) rfl ?_); refine goesL_ (some 12) rfl rfl Try.func98 (by kernel_rfl) rfl #[.agg #[.int .i64 a0_2, .int .i64 a0_3, .int .i64 a0_4, .int .i64 a0_5]] rfl (by (try simp only [List.map_toArray, List.map_cons, List.map_nil]); first | done | rfl | (simp only [List.length_drop, List.length_take]; rfl)) ?_; (with_reducible refine (laws_toOp.calls a0_2 a0_3 a0_4 a0_5 t153 t154 t155 t156 _ A2.out).mono ?_); rintro e w11 ⟨rfl, hb⟩; refine ⟨_, rfl, ?_⟩; have n0_ := Aside0.mk (blk_below (g := gb150) (o := .cells #[.int .i64 a0_0, .int .i64 a0_1, .int .i64 a0_2, .int .i64 a0_3, .int .i64 a0_4, .int .i64 a0_5] 99 (0, 0)) (by (with_reducible repeat (first | refine blk_drewN ?_ _ | refine blk_drew ?_ | refine blk_alloc ?_ _)); refine blk_far ?_ NB150_152.out _; (with_reducible repeat (first | refine blk_drewN ?_ _ | refine blk_drew ?_ | refine blk_alloc ?_ _)); refine blk_far ?_ NB150_152.out _; (with_reducible repeat (first | refine blk_drewN ?_ _ | refine blk_drew ?_ | refine blk_alloc ?_ _)); exact BK150.out) hb); have n1_ := Aside0.mk (blk_below (g := gb151) (o := .cells #[.int .i64 0, .int .i64 0, .int .i64 0, .int .i64 0, .int .i64 0, .int .i64 0] 95 (0, 0)) (by (with_reducible repeat (first | refine blk_drewN ?_ _ | refine blk_drew ?_ | refine blk_alloc ?_ _)); refine blk_far ?_ NB151_152.out _; (with_reducible repeat (first | refine blk_drewN ?_ _ | refine blk_drew ?_ | refine blk_alloc ?_ _)); refine blk_far ?_ NB151_152.out _; (with_reducible repeat (first | refine blk_drewN ?_ _ | refine blk_drew ?_ | refine blk_alloc ?_ _)); exact BK151.out) hb); have n2_ := Aside0.mk (blk_below (g := gb152) (o := .cells #[.int .i64 a0_0, .int .i64 a0_1, .int .i64 0, .int .i64 0, .int .i64 0, .int .i64 0] 95 (0, 0)) (by (with_reducible repeat (first | refine blk_drewN ?_ _ | refine blk_drew ?_ | refine blk_alloc ?_ _)); refine blk_put (cs := #[.int .i64 a0_0, .int .i64 0, .int .i64 0, .int .i64 0, .int .i64 0, .int .i64 0]) ?_ 1 _ rfl; (with_reducible repeat (first | refine blk_drewN ?_ _ | refine blk_drew ?_ | refine blk_alloc ?_ _)); refine blk_put (cs := #[.int .i64 0, .int .i64 0, .int .i64 0, .int .i64 0, .int .i64 0, .int .i64 0]) ?_ 0 _ rfl; (with_reducible repeat (first | refine blk_drewN ?_ _ | refine blk_drew ?_ | refine blk_alloc ?_ _)); exact BK152.out) hb); have n3_ := Aside0.mk (below_step (by repeat (first | (with_reducible first | exact HB.out | apply below_alloc | apply pw_below_drewN | apply below_drew1 | refine below_set ?_ GE150.out | refine below_set ?_ GE151.out | refine below_set ?_ GE152.out) | exact HB.out)) hb); clear BK150; clear BK151; clear BK152; clear HB; have BK150 := n0_; have BK151 := n1_; have BK152 := n2_; have HB := n3_; clear n0_ n1_ n2_ n3_; (try clear hb); (try clear hb2); (try clear hk); (try clear hi); have hcz12_0 : w11.cell? ⟨gb152, 0, none⟩ = some (.int .i64 a0_0) := (blk_cell BK152.out 0).trans rfl; have hcz12_1 : w11.cell? ⟨gb152, 1, none⟩ = some (.int .i64 a0_1) := (blk_cell BK152.out 1).trans rfl; have hcz12_2 : w11.cell? ⟨gb152, 2, none⟩ = some (.int .i64 0) := (blk_cell BK152.out 2).trans rfl; have hcz12_3 : w11.cell? ⟨gb152, 3, none⟩ = some (.int .i64 0) := (blk_cell BK152.out 3).trans rfl; have hcz12_4 : w11.cell? ⟨gb152, 4, none⟩ = some (.int .i64 0) := (blk_cell BK152.out 4).trans rfl; have hcz12_5 : w11.cell? ⟨gb152, 5, none⟩ = some (.int .i64 0) := (blk_cell BK152.out 5).trans rfl; have hfz12_0 := blk_frozen BK152.out 0; have hfz12_1 := blk_frozen BK152.out 1; have hfz12_2 := blk_frozen BK152.out 2; have hfz12_3 := blk_frozen BK152.out 3; have hfz12_4 := blk_frozen BK152.out 4; have hfz12_5 := blk_frozen BK152.out 5; have hcz13_0 : w11.cell? ⟨gb151, 0, none⟩ = some (.int .i64 0) := (blk_cell BK151.out 0).trans rfl; have hcz13_1 : w11.cell? ⟨gb151, 1, none⟩ = some (.int .i64 0) := (blk_cell BK151.out 1).trans rfl; have hcz13_2 : w11.cell? ⟨gb151, 2, none⟩ = some (.int .i64 0) := (blk_cell BK151.out 2).trans rfl; have hcz13_3 : w11.cell? ⟨gb151, 3, none⟩ = some (.int .i64 0) := (blk_cell BK151.out 3).trans rfl; have hcz13_4 : w11.cell? ⟨gb151, 4, none⟩ = some (.int .i64 0) := (blk_cell BK151.out 4).trans rfl; have hcz13_5 : w11.cell? ⟨gb151, 5, none⟩ = some (.int .i64 0) := (blk_cell BK151.out 5).trans rfl; have hfz13_0 := blk_frozen BK151.out 0; have hfz13_1 := blk_frozen BK151.out 1; have hfz13_2 := blk_frozen BK151.out 2; have hfz13_3 := blk_frozen BK151.out 3; have hfz13_4 := blk_frozen BK151.out 4; have hfz13_5 := blk_frozen BK151.out 5))
  refine bodyPost_ret (results_cell_row rfl _ _ gb151 95 #[.int .i64 a0_0, .int .i64 a0_1, .int .i64 t153, .int .i64 t154, .int .i64 t155, .int .i64 t156] (0, 0) _ rfl (by (with_reducible repeat (first | refine blk_drewN ?_ _ | refine blk_drew ?_ | refine blk_alloc ?_ _)); refine blk_put (cs := #[.int .i64 a0_0, .int .i64 a0_1, .int .i64 t153, .int .i64 t154, .int .i64 t155, .int .i64 0]) ?_ 5 _ rfl; (with_reducible repeat (first | refine blk_drewN ?_ _ | refine blk_drew ?_ | refine blk_alloc ?_ _)); refine blk_put (cs := #[.int .i64 a0_0, .int .i64 a0_1, .int .i64 t153, .int .i64 t154, .int .i64 0, .int .i64 0]) ?_ 4 _ rfl; (with_reducible repeat (first | refine blk_drewN ?_ _ | refine blk_drew ?_ | refine blk_alloc ?_ _)); refine blk_put (cs := #[.int .i64 a0_0, .int .i64 a0_1, .int .i64 t153, .int .i64 0, .int .i64 0, .int .i64 0]) ?_ 3 _ rfl; (with_reducible repeat (first | refine blk_drewN ?_ _ | refine blk_drew ?_ | refine blk_alloc ?_ _)); refine blk_put (cs := #[.int .i64 a0_0, .int .i64 a0_1, .int .i64 0, .int .i64 0, .int .i64 0, .int .i64 0]) ?_ 2 _ rfl; (with_reducible repeat (first | refine blk_drewN ?_ _ | refine blk_drew ?_ | refine blk_alloc ?_ _)); refine blk_put (cs := #[.int .i64 a0_0, .int .i64 0, .int .i64 0, .int .i64 0, .int .i64 0, .int .i64 0]) ?_ 1 _ rfl; (with_reducible repeat (first | refine blk_drewN ?_ _ | refine blk_drew ?_ | refine blk_alloc ?_ _)); refine blk_put (cs := #[.int .i64 0, .int .i64 0, .int .i64 0, .int .i64 0, .int .i64 0, .int .i64 0]) ?_ 0 _ rfl; (with_reducible repeat (first | refine blk_drewN ?_ _ | refine blk_drew ?_ | refine blk_alloc ?_ _)); refine blk_far ?_ NB151_152.out _; (with_reducible repeat (first | refine blk_drewN ?_ _ | refine blk_drew ?_ | refine blk_alloc ?_ _)); refine blk_far ?_ NB151_152.out _; (with_reducible repeat (first | refine blk_drewN ?_ _ | refine blk_drew ?_ | refine blk_alloc ?_ _)); refine blk_far ?_ NB151_152.out _; (with_reducible repeat (first | refine blk_drewN ?_ _ | refine blk_drew ?_ | refine blk_alloc ?_ _)); refine blk_far ?_ NB151_152.out _; (with_reducible repeat (first | refine blk_drewN ?_ _ | refine blk_drew ?_ | refine blk_alloc ?_ _)); exact BK151.out) Try.underlying95 rfl (by kernel_rfl)) rfl ?_
  exact ⟨by first | rfl | (simp [errW_none, errW_some] <;> rfl) | (simp [*, errW_none, errW_some] <;> rfl), by repeat (first | (with_reducible first | exact HB.out | apply below_alloc | apply pw_below_drewN | apply below_drew1 | refine below_set ?_ GE150.out | refine below_set ?_ GE151.out | refine below_set ?_ GE152.out) | exact HB.out)⟩

/-! ### laws_toEntryS: function 37 -/
def laws_toEntryS.l0 : Nat → List (S99) → List (S95) → Int → Option ((List (S95)))
  | 0, _, _, _ => none
  | k + 1, x0, x3, x4 => if x4 < (x0.length : Int) then (if 0 ≤ x4 then ((laws_toEntry.f ((rd_T99 x0 x4).f0) ((rd_T99 x0 x4).f1) ((rd_T99 x0 x4).f2.f0) ((rd_T99 x0 x4).f2.f1) ((rd_T99 x0 x4).f2.f2) ((rd_T99 x0 x4).f2.f3)).bind fun bt161 => (if x4 < (x3.length : Int) then (laws_toEntryS.l0 k x0 (x3.set (x4 : Int).toNat (⟨bt161.1, bt161.2.1, (⟨bt161.2.2.1, bt161.2.2.2.1, bt161.2.2.2.2.1, bt161.2.2.2.2.2⟩ : S93)⟩ : S95)) (wrap64 (x4 + 1))) else (none))) else (none)) else (some x3)
def laws_toEntryS.f (k : Nat) (l0 : List (S99)) : Option ((List (S95))) := if 0 ≤ (l0.length : Int) then (if ((l0.length : Int) : Int).toNat ≤ 5864062014805 then (laws_toEntryS.l0 k l0 (List.replicate ((l0.length : Int) : Int).toNat z95) 0) else (none)) else (none)
theorem laws_toEntryS.mono_l : ∀ k, (∀ y0 y1 y2, LeO (laws_toEntryS.l0 k y0 y1 y2) (laws_toEntryS.l0 (k + 1) y0 y1 y2))
  | 0 => fun _ _ _ r h => by simp [laws_toEntryS.l0] at h
  | k + 1 => by
    have ih0 := laws_toEntryS.mono_l k
    · intro y0 y1 y2
      unfold laws_toEntryS.l0
      repeat' first
      | (with_reducible exact ih0 _ _ _)
      | (with_reducible exact LeO.refl _)
      | (with_reducible exact LeO.none _)
      | (with_reducible refine LeO.ite ?_ ?_)
      | (with_reducible refine LeO.bind ?_ (fun _ => ?_))
      | exact ih0 _ _ _
      | exact LeO.none _
      | refine LeO.ite ?_ ?_
      | refine LeO.bind ?_ (fun _ => ?_)
theorem laws_toEntryS.mono : ∀ a0 k, LeO (laws_toEntryS.f k a0) (laws_toEntryS.f (k + 1) a0) := by
  intro a0 k
  have ih0 := laws_toEntryS.mono_l k
  unfold laws_toEntryS.f
  repeat' first
      | (with_reducible exact ih0 _ _ _)
      | (with_reducible exact LeO.refl _)
      | (with_reducible exact LeO.none _)
      | (with_reducible refine LeO.ite ?_ ?_)
      | (with_reducible refine LeO.bind ?_ (fun _ => ?_))
      | exact ih0 _ _ _
      | exact LeO.none _
      | refine LeO.ite ?_ ?_
      | refine LeO.bind ?_ (fun _ => ?_)
set_option maxHeartbeats 8000000 in
set_option maxRecDepth 100000 in
theorem laws_toEntryS.calls (k : Nat) (A0 : Option Addr) (c0 : Nat) (l0 : List (S99)) (r : List (S95)) (w : World) (hr0 : Kd.C k99 w A0 l0.length l0) (hc0 : l0.length ≤ c0) (h : laws_toEntryS.f k l0 = some r) :
    Calls Try.prog 37 #[.slice A0 l0.length c0] w fun e w' => ∃ v0_ : Value, e = .returned (v0_) ∧ Kd.R k95 95 w' w.heap.size (fun _ => True) v0_ r ∧ Below w.heap.size w w' := by
  have hu99 := Try.underlying99
  have hu95 := Try.underlying95
  have HR0 := Aside0.mk hr0
  have HC0 := Aside0.mk hc0
  clear hr0 hc0
  have HB := Aside0.mk (Below.refl w.heap.size w)
  have H : (if 0 ≤ (l0.length : Int) then (if ((l0.length : Int) : Int).toNat ≤ 5864062014805 then (laws_toEntryS.l0 k l0 (List.replicate ((l0.length : Int) : Int).toNat z95) 0) else (none)) else (none)) = some r := h
  clear h
  by_cases c2 : 0 ≤ (l0.length : Int)
  · rw [if_pos c2] at H
    have c2b0 := eq_true c2
    have c2b1 : decide (0 ≤ (l0.length : Int)) = true := decide_eq_true c2
    clear c2
    by_cases c3 : ((l0.length : Int) : Int).toNat ≤ 5864062014805
    · rw [if_pos c3] at H
      have c3b0 := eq_true c3
      have c3b1 : decide (((l0.length : Int) : Int).toNat ≤ 5864062014805) = true := decide_eq_true c3
      clear c3
      obtain ⟨y157, hy157⟩ : ∃ y_ : List (S95), y_ = (List.replicate ((l0.length : Int) : Int).toNat z95) := ⟨_, rfl⟩
      replace H : (laws_toEntryS.l0 k l0 y157 0) = some r := by first | (rw [hy157]; with_reducible exact H) | (have H2_ := (Option.bind_some _ _).symm.trans H; rw [hy157]; with_reducible exact H2_) | (have H2_ := (Option.bind_some _ _).symm.trans H; with_reducible exact H2_) | with_reducible exact H | (rw [hy157]; exact H) | exact H
      have Ny157 := Aside0.mk hy157
      clear hy157
      have H' := Aside0.mk H
      clear H
      go_enter Try.func37, Try.ntmps37
      go_wp2_with (first | ((with_reducible refine gate_dst (N := 7) rfl ?_); refine Kd.R_make k95 _ 95 rfl (N := 7) rfl 30 _ _ rfl (l0.length : Int) rfl rfl Try.underlying30 (.agg #[(.int .i64 0), (.int .i64 0), (.int .i64 0), (.int .i64 0), (.int .i64 0), (.int .i64 0)]) 48 info95 rfl (by decide) (by omega) z95 (ok := fun _ => True) (okp := fun _ => True) (k95_mkM _ _ _ z95 ) (fun _ hk => hk) trivial (of_decide_eq_true (by first | (with_reducible assumption) | assumption)) (Nat.le_trans (Nat.mul_le_mul_right _ (of_decide_eq_true (by first | (with_reducible assumption) | assumption) : (l0.length : Int).toNat ≤ 5864062014805)) (by omega)) (Below.refl _ _) (Nat.le_refl _) ?_; intro v158 w4 ho5 hb hg_ hnew_; clear hg_ hnew_; (first | rw [← Ny157.out] at ho5 | (simp only [Int.reduceToNat] at ho5; rw [← Ny157.out] at ho5)); have n0_ := Aside0.mk (Kd.R_lower ho5 (below_size (by repeat (first | (with_reducible first | exact HB.out | apply below_alloc | apply pw_below_drewN | apply below_drew1) | exact HB.out)))); have n1_ := Aside0.mk (below_step (by repeat (first | (with_reducible first | exact HB.out | apply below_alloc | apply pw_below_drewN | apply below_drew1) | exact HB.out)) hb); clear HB; have HO159 := n0_; have HB := n1_; clear n0_ n1_; clear hb ho5))
      go_loopg [4] k (fun kq v4 w' => ∃ (x3_1 : List (S95)) (x4_1 : Int), v4 = .int .i64 x4_1 ∧ Aside0 (laws_toEntryS.l0 kq l0 x3_1 x4_1 = some r) ∧ Aside0 (kq ≤ k) ∧ Aside0 (Kd.R k95 95 w' w.heap.size (fun _ => True) v158 x3_1) ∧ Aside0 (Below w.heap.size w w'))
      case atStart => exact ⟨(y157), (0), (by first | rfl | (simp; done) | (simp [*]; done)), H', ⟨Nat.le_refl _⟩, ⟨by (with_reducible repeat (first | apply Kd.R_alloc | apply Kd.R_drewN | apply Kd.R_drew)); exact HO159.out⟩, ⟨by repeat (first | (with_reducible first | exact HB.out | apply below_alloc | apply pw_below_drewN | apply below_drew1) | exact HB.out)⟩⟩
      case round =>
        clear H'
        try clear c2
        try clear c2b0
        try clear c2b1
        try clear p2
        try clear c3
        try clear c3b0
        try clear c3b1
        obtain ⟨x3_1, x4_1, rfl, HA, HK1, HO_3, HB⟩ := hrel
        cases gk with
        | zero => exact absurd HA.out (by simp [laws_toEntryS.l0])
        | succ k1 =>
          have H := HA.out
          clear HA
          simp only [laws_toEntryS.l0] at H
          by_cases c6 : x4_1 < (l0.length : Int)
          · rw [if_pos c6] at H
            have c6b0 : decide (x4_1 < (l0.length : Int)) = true := decide_eq_true c6
            clear c6
            by_cases c7 : 0 ≤ x4_1
            · rw [if_pos c7] at H
              have c7b0 : decide (0 ≤ x4_1) = true := decide_eq_true c7
              clear c7
              replace H := Option.bind_eq_some_iff.mp H
              obtain ⟨⟨t161, t162, t163, t164, t165, t166⟩, A80, H⟩ := H
              replace H : (if x4_1 < (x3_1.length : Int) then (laws_toEntryS.l0 k1 l0 (x3_1.set (x4_1 : Int).toNat (⟨t161, t162, (⟨t163, t164, t165, t166⟩ : S93)⟩ : S95)) (wrap64 (x4_1 + 1))) else (none)) = some r := H
              have A8 := Aside0.mk A80
              clear A80
              by_cases c9 : x4_1 < (x3_1.length : Int)
              · rw [if_pos c9] at H
                have c9b0 : decide (x4_1 < (x3_1.length : Int)) = true := decide_eq_true c9
                clear c9
                obtain ⟨y167, hy167⟩ : ∃ y_ : List (S95), y_ = (x3_1.set (x4_1 : Int).toNat (⟨t161, t162, (⟨t163, t164, t165, t166⟩ : S93)⟩ : S95)) := ⟨_, rfl⟩
                replace H : (laws_toEntryS.l0 k1 l0 y167 (wrap64 (x4_1 + 1))) = some r := by first | (rw [hy167]; with_reducible exact H) | (have H2_ := (Option.bind_some _ _).symm.trans H; rw [hy167]; with_reducible exact H2_) | (have H2_ := (Option.bind_some _ _).symm.trans H; with_reducible exact H2_) | with_reducible exact H | (rw [hy167]; exact H) | exact H
                have Ny167 := Aside0.mk hy167
                clear hy167
                have H' := Aside0.mk H
                clear H
                have p160 : 0 ≤ (x4_1 : Int) := of_decide_eq_true (by first | (with_reducible assumption) | assumption)
                have q160 : x4_1 < (l0.length : Int) := of_decide_eq_true (by first | (with_reducible assumption) | assumption)
                obtain ⟨ad160, e160, hx160_0, hx160_1, hx160_2, hx160_3, hx160_4, hx160_5⟩ := at_T99 HR0.out x4_1 p160 q160
                cases e160
                replace hx160_0 := (HB.out.cell (World.block_lt_of_cell? w _ hx160_0)).trans hx160_0
                replace hx160_1 := (HB.out.cell (World.block_lt_of_cell? w _ hx160_1)).trans hx160_1
                replace hx160_2 := (HB.out.cell (World.block_lt_of_cell? w _ hx160_2)).trans hx160_2
                replace hx160_3 := (HB.out.cell (World.block_lt_of_cell? w _ hx160_3)).trans hx160_3
                replace hx160_4 := (HB.out.cell (World.block_lt_of_cell? w _ hx160_4)).trans hx160_4
                replace hx160_5 := (HB.out.cell (World.block_lt_of_cell? w _ hx160_5)).trans hx160_5
                replace p160 := eq_true p160
                replace q160 := eq_true q160
                go_wp2_with (first | ((with_reducible refine gate_callee (f := 77) rfl ?_); refine goesL_ (some 20) rfl rfl Try.func77 (by kernel_rfl) rfl #[.agg #[.int .i64 ((rd_T99 l0 x4_1).f0), .int .i64 ((rd_T99 l0 x4_1).f1), .int .i64 ((rd_T99 l0 x4_1).f2.f0), .int .i64 ((rd_T99 l0 x4_1).f2.f1), .int .i64 ((rd_T99 l0 x4_1).f2.f2), .int .i64 ((rd_T99 l0 x4_1).f2.f3)]] rfl (by (try simp only [List.map_toArray, List.map_cons, List.map_nil]); first | done | rfl | (simp only [List.length_drop, List.length_take]; rfl)) ?_; (with_reducible refine (laws_toEntry.calls ((rd_T99 l0 x4_1).f0) ((rd_T99 l0 x4_1).f1) ((rd_T99 l0 x4_1).f2.f0) ((rd_T99 l0 x4_1).f2.f1) ((rd_T99 l0 x4_1).f2.f2) ((rd_T99 l0 x4_1).f2.f3) t161 t162 t163 t164 t165 t166 _ A8.out).mono ?_); rintro e w11 ⟨rfl, hb⟩; refine ⟨_, rfl, ?_⟩; have n0_ := Aside0.mk (Kd.R_below (by (with_reducible repeat (first | apply Kd.R_alloc | apply Kd.R_drewN | apply Kd.R_drew)); exact HO_3.out) hb); have n1_ := Aside0.mk (below_step (by repeat (first | (with_reducible first | exact HB.out | apply below_alloc | apply pw_below_drewN | apply below_drew1) | exact HB.out)) hb); clear HO_3; clear HB; have HO_3 := n0_; have HB := n1_; clear n0_ n1_; (try clear hb); (try clear hb2); (try clear hk); (try clear hi); have p10 : 0 ≤ (x4_1 : Int) := of_decide_eq_true (by first | (with_reducible assumption) | assumption); have q10 : (x4_1 : Int) < ((x3_1.length : Int) : Int) := of_decide_eq_true (by first | (with_reducible assumption) | assumption); obtain ⟨go10, co10, eo10, gb10, gl10, cl10, HG10⟩ := Kd.R_form HO_3.out (by omega); (first | cases eo10 | (injection eo10 with ea_ en_ ec_; (first | subst ea_ | (injection ea_ with ea_; subst ea_)); subst ec_; clear en_)); have GB10 := Aside0.mk gb10; have GG10 := Aside0.mk HG10; clear gb10 gl10 HG10; obtain ⟨ce10, hcl10, hM10, hcc10, hfr10⟩ := Kd.R_elem HO_3.out z95 (x4_1 : Int) p10 q10; obtain rfl := k95_openM hM10; have hx10_0 : w11.cell? ⟨go10, (x4_1 : Int).toNat * 6, none⟩ = some (.int .i64 ((rd_T95 x3_1 x4_1).f0)) := hcc10 0 _ rfl; have hx10_1 : w11.cell? ⟨go10, (x4_1 : Int).toNat * 6 + 1, none⟩ = some (.int .i64 ((rd_T95 x3_1 x4_1).f1)) := hcc10 1 _ rfl; have hx10_2 : w11.cell? ⟨go10, (x4_1 : Int).toNat * 6 + 2, none⟩ = some (.int .i64 ((rd_T95 x3_1 x4_1).f2.f0)) := hcc10 2 _ rfl; have hx10_3 : w11.cell? ⟨go10, (x4_1 : Int).toNat * 6 + 3, none⟩ = some (.int .i64 ((rd_T95 x3_1 x4_1).f2.f1)) := hcc10 3 _ rfl; have hx10_4 : w11.cell? ⟨go10, (x4_1 : Int).toNat * 6 + 4, none⟩ = some (.int .i64 ((rd_T95 x3_1 x4_1).f2.f2)) := hcc10 4 _ rfl; have hx10_5 : w11.cell? ⟨go10, (x4_1 : Int).toNat * 6 + 5, none⟩ = some (.int .i64 ((rd_T95 x3_1 x4_1).f2.f3)) := hcc10 5 _ rfl; have hf10_0 : w11.frozen? ⟨go10, (x4_1 : Int).toNat * 6, none⟩ = false := hfr10 0; have hf10_1 : w11.frozen? ⟨go10, (x4_1 : Int).toNat * 6 + 1, none⟩ = false := hfr10 1; have hf10_2 : w11.frozen? ⟨go10, (x4_1 : Int).toNat * 6 + 2, none⟩ = false := hfr10 2; have hf10_3 : w11.frozen? ⟨go10, (x4_1 : Int).toNat * 6 + 3, none⟩ = false := hfr10 3; have hf10_4 : w11.frozen? ⟨go10, (x4_1 : Int).toNat * 6 + 4, none⟩ = false := hfr10 4; have hf10_5 : w11.frozen? ⟨go10, (x4_1 : Int).toNat * 6 + 5, none⟩ = false := hfr10 5; clear hcl10 hcc10 hfr10; (try clear hM10); replace p10 := eq_true p10; replace q10 := eq_true q10; have HX12 := Aside0.mk (show Kd.R k95 95 w11 w.heap.size (fun _ => True) (.slice (some ⟨go10, 0, none⟩) x3_1.length co10) x3_1 from (by (with_reducible repeat (first | apply Kd.R_alloc | apply Kd.R_drewN | apply Kd.R_drew)); exact HO_3.out)); obtain ⟨ce12, hcl12, hM12, hcc12, hfr12⟩ := Kd.R_elem HX12.out z95 (x4_1 : Int) (of_decide_eq_true (by first | (with_reducible assumption) | assumption)) (by have h_ : (x4_1 : Int) < ((x3_1.length : Int) : Int) := of_decide_eq_true (by first | (with_reducible assumption) | assumption); first | exact h_ | (have e_ := (Kd.R_reads' HO_3.out).1; omega) | simpa using h_); obtain rfl := k95_openM hM12; have HP12 := Kd.R_seg HX12.out (x4_1 : Int) (of_decide_eq_true (by first | (with_reducible assumption) | assumption)) (by have h_ : (x4_1 : Int) < ((x3_1.length : Int) : Int) := of_decide_eq_true (by first | (with_reducible assumption) | assumption); first | exact h_ | (have e_ := (Kd.R_reads' HO_3.out).1; omega) | simpa using h_) (seg := [.int .i64 t161, .int .i64 t162, .int .i64 t163, .int .i64 t164, .int .i64 t165, .int .i64 t166]) (j := 0) hcl12 hcc12 (show 6 ≤ 6 from by decide) (x' := (⟨t161, t162, (⟨t163, t164, t165, t166⟩ : S93)⟩ : S95)) (k95_mkM _ _ _ (⟨t161, t162, (⟨t163, t164, t165, t166⟩ : S93)⟩ : S95) ) (fun _ hk => hk); have hx12_0 := hcc12 0 _ rfl; (try simp only [show (k95).sz = 6 from rfl, Nat.mul_one, Nat.add_zero] at hx12_0); have hf12_0 := hfr12 0; (try simp only [show (k95).sz = 6 from rfl, Nat.mul_one, Nat.add_zero] at hf12_0); have hx12_1 := hcc12 1 _ rfl; (try simp only [show (k95).sz = 6 from rfl, Nat.mul_one, Nat.add_zero] at hx12_1); have hf12_1 := hfr12 1; (try simp only [show (k95).sz = 6 from rfl, Nat.mul_one, Nat.add_zero] at hf12_1); have hx12_2 := hcc12 2 _ rfl; (try simp only [show (k95).sz = 6 from rfl, Nat.mul_one, Nat.add_zero] at hx12_2); have hf12_2 := hfr12 2; (try simp only [show (k95).sz = 6 from rfl, Nat.mul_one, Nat.add_zero] at hf12_2); have hx12_3 := hcc12 3 _ rfl; (try simp only [show (k95).sz = 6 from rfl, Nat.mul_one, Nat.add_zero] at hx12_3); have hf12_3 := hfr12 3; (try simp only [show (k95).sz = 6 from rfl, Nat.mul_one, Nat.add_zero] at hf12_3); have hx12_4 := hcc12 4 _ rfl; (try simp only [show (k95).sz = 6 from rfl, Nat.mul_one, Nat.add_zero] at hx12_4); have hf12_4 := hfr12 4; (try simp only [show (k95).sz = 6 from rfl, Nat.mul_one, Nat.add_zero] at hf12_4); have hx12_5 := hcc12 5 _ rfl; (try simp only [show (k95).sz = 6 from rfl, Nat.mul_one, Nat.add_zero] at hx12_5); have hf12_5 := hfr12 5; (try simp only [show (k95).sz = 6 from rfl, Nat.mul_one, Nat.add_zero] at hf12_5); clear hcl12 hcc12 hfr12 hM12) | ((with_reducible refine gate_store (t := 95) (p := 21) rfl ?_); refine store_event (t := 95) (p := 21) (v := ?vo_w13) (w1 := ((((((w11.setCell ⟨go10, (x4_1 : Int).toNat * 6, none⟩ (.int .i64 t161)).setCell ⟨go10, (x4_1 : Int).toNat * 6 + 1, none⟩ (.int .i64 t162)).setCell ⟨go10, (x4_1 : Int).toNat * 6 + 2, none⟩ (.int .i64 t163)).setCell ⟨go10, (x4_1 : Int).toNat * 6 + 3, none⟩ (.int .i64 t164)).setCell ⟨go10, (x4_1 : Int).toNat * 6 + 4, none⟩ (.int .i64 t165)).setCell ⟨go10, (x4_1 : Int).toNat * 6 + 5, none⟩ (.int .i64 t166))) ?hg ?ho ?hn ?hr ?_; (case ho => rfl); (case hg => rfl); (case hn => rfl); (case hr => first | (go_simp; done) | (go_simp; rfl)); intro w13 hw; have hg : w11.grownBy w13 (some go10) := (by rw [hw]; exact HP12.2); have hp_ : Kd.R k95 95 w13 w.heap.size (fun _ => True) (.slice (some ⟨go10, 0, none⟩) x3_1.length co10) y167 := (by rw [hw, Ny167.out]; exact HP12.1); clear HP12; have n0_ := Aside0.mk (hp_); have n1_ := Aside0.mk ((by rw [hw]; exact below_set (below_set (below_set (below_set (below_set (below_set (HB.out) GB10.out) GB10.out) GB10.out) GB10.out) GB10.out) GB10.out : Below w.heap.size w w13)); clear HO_3; clear HB; have HO_3 := n0_; have HB := n1_; clear n0_ n1_; clear hg hw hp_))
                go_roundg k1
                case measure => have := HK1.out; omega
                case rel => exact ⟨(y167), (wrap64 (x4_1 + 1)), (by first | rfl | (simp; done) | (simp [*]; done)), H', ⟨by have := HK1.out; omega⟩, ⟨by (with_reducible repeat (first | apply Kd.R_alloc | apply Kd.R_drewN | apply Kd.R_drew)); exact HO_3.out⟩, ⟨by repeat (first | (with_reducible first | exact HB.out | apply below_alloc | apply pw_below_drewN | apply below_drew1) | exact HB.out)⟩⟩
              · rw [if_neg c9] at H
                exact absurd H (by simp)
            · rw [if_neg c7] at H
              exact absurd H (by simp)
          · rw [if_neg c6] at H
            have c6b0 : decide (x4_1 < (l0.length : Int)) = false := decide_eq_false c6
            clear c6
            obtain rfl := Option.some.inj H
            go_wp2
            go_ret
            exact ⟨_, by first | rfl | (simp [errW_none, errW_some] <;> rfl) | (simp [*, errW_none, errW_some] <;> rfl), by (with_reducible repeat (first | apply Kd.R_alloc | apply Kd.R_drewN | apply Kd.R_drew)); exact HO_3.out, by repeat (first | (with_reducible first | exact HB.out | apply below_alloc | apply pw_below_drewN | apply below_drew1) | exact HB.out)⟩
    · rw [if_neg c3] at H
      exact absurd H (by simp)
  · rw [if_neg c2] at H
    exact absurd H (by simp)

end Go.Proofs.Ytajhhmoglfgijaa.PFnExactReplicaFault
