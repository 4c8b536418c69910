/- Functions of the law FnExactCountDoers as Lean functions, and proofs that the calls come to what they tell. -/
import Derived.Test.YtajhhmoglfgijaaPFnExactCountDoersx0
import Derived.Test.YtajhhmoglfgijaaPFnExactCountDoersx4
namespace Go.Proofs.Ytajhhmoglfgijaa.PFnExactCountDoers
open Go.RowKit Go.Proofs.YtajhhmoglfgijaaW.PrintWords Go.Proofs.YtajhhmoglfgijaaW.PrintLast Go.Proofs.YtajhhmoglfgijaaW.PrintMore
attribute [local go_sem] max2_int min2_int max_two min_two max_three min_three max_four min_four
set_option linter.unusedVariables false
set_option linter.unusedSimpArgs false

/-! ### spec_l9Sizes: function 75 -/
def spec_l9Sizes.f (s0_0 : Int) (s0_1 : Int) (s0_2 : Int) (s0_3 : Bool) (s0_4 : Int) (s0_5 : List (S95)) (s0_6 : Int) (s0_7 : List Int) (s0_8 : List Bool) (s0_9 : List (S70)) : Option (Bool × Int × Int × Int × Bool × Int × Int) := if s0_3 = true then ((spec_l9Primary.f s0_0 s0_1 s0_2 s0_3 s0_4 s0_5 s0_6 s0_7 s0_8 s0_9).bind fun bt203 => (if bt203.1 = true then (if (s0_7.length : Int) = bt203.2.2.1 then (if (s0_8.length : Int) = 0 then (some (((s0_9.length : Int) == 0), bt203.2.1, bt203.2.2.1, bt203.2.2.2.1, bt203.2.2.2.2.1, bt203.2.2.2.2.2.1, bt203.2.2.2.2.2.2)) else (some (false, bt203.2.1, bt203.2.2.1, bt203.2.2.2.1, bt203.2.2.2.2.1, bt203.2.2.2.2.2.1, bt203.2.2.2.2.2.2))) else (some (false, bt203.2.1, bt203.2.2.1, bt203.2.2.2.1, bt203.2.2.2.2.1, bt203.2.2.2.2.2.1, bt203.2.2.2.2.2.2))) else (if (s0_7.length : Int) = 0 then (if (s0_8.length : Int) = 0 then (some (((s0_9.length : Int) == 0), bt203.2.1, bt203.2.2.1, bt203.2.2.2.1, bt203.2.2.2.2.1, bt203.2.2.2.2.2.1, bt203.2.2.2.2.2.2)) else (some (false, bt203.2.1, bt203.2.2.1, bt203.2.2.2.1, bt203.2.2.2.2.1, bt203.2.2.2.2.2.1, bt203.2.2.2.2.2.2))) else (some (false, bt203.2.1, bt203.2.2.1, bt203.2.2.2.1, bt203.2.2.2.2.1, bt203.2.2.2.2.2.1, bt203.2.2.2.2.2.2))))) else (if (s0_7.length : Int) = 0 then (if (s0_8.length : Int) = s0_1 then (some (((s0_9.length : Int) == s0_1), s0_0, s0_1, s0_2, s0_3, s0_4, s0_6)) else (some (false, s0_0, s0_1, s0_2, s0_3, s0_4, s0_6))) else (some (false, s0_0, s0_1, s0_2, s0_3, s0_4, s0_6)))
set_option maxHeartbeats 8000000 in
set_option maxRecDepth 100000 in
theorem spec_l9Sizes.calls (g : Nat) (s0_0 : Int) (s0_1 : Int) (s0_2 : Int) (s0_3 : Bool) (s0_4 : Int) (s0_5 : List (S95)) (s0_6 : Int) (s0_7 : List Int) (s0_8 : List Bool) (s0_9 : List (S70)) (r1 : Bool) (r2 : Int) (r3 : Int) (r4 : Int) (r5 : Bool) (r6 : Int) (r7 : Int) (w0 w : World) (hI : IsS33 w0 w g s0_0 s0_1 s0_2 s0_3 s0_4 s0_5 s0_6 s0_7 s0_8 s0_9) (hB : Below w0.heap.size w0 w) (h : spec_l9Sizes.f s0_0 s0_1 s0_2 s0_3 s0_4 s0_5 s0_6 s0_7 s0_8 s0_9 = some (r1, r2, r3, r4, r5, r6, r7)) :
    Calls Try.prog 75 #[.pointer (some ⟨g, 0, none⟩)] w fun e w' => e = .returned (.bool r1) ∧ IsS33 w0 w' g r2 r3 r4 r5 r6 s0_5 r7 s0_7 s0_8 s0_9 ∧ Below w0.heap.size w0 w' ∧ KeepBut w w' g none := by
  have HI0 := Aside0.mk hI
  have HK := Aside0.mk (KeepBut.refl w g none)
  have HL := Aside0.mk hB.size
  clear hI
  have HW0 := Aside0.mk hB.size
  have HB := Aside0.mk hB
  clear hB
  have H : (if s0_3 = true then ((spec_l9Primary.f s0_0 s0_1 s0_2 s0_3 s0_4 s0_5 s0_6 s0_7 s0_8 s0_9).bind fun bt203 => (if bt203.1 = true then (if (s0_7.length : Int) = bt203.2.2.1 then (if (s0_8.length : Int) = 0 then (some (((s0_9.length : Int) == 0), bt203.2.1, bt203.2.2.1, bt203.2.2.2.1, bt203.2.2.2.2.1, bt203.2.2.2.2.2.1, bt203.2.2.2.2.2.2)) else (some (false, bt203.2.1, bt203.2.2.1, bt203.2.2.2.1, bt203.2.2.2.2.1, bt203.2.2.2.2.2.1, bt203.2.2.2.2.2.2))) else (some (false, bt203.2.1, bt203.2.2.1, bt203.2.2.2.1, bt203.2.2.2.2.1, bt203.2.2.2.2.2.1, bt203.2.2.2.2.2.2))) else (if (s0_7.length : Int) = 0 then (if (s0_8.length : Int) = 0 then (some (((s0_9.length : Int) == 0), bt203.2.1, bt203.2.2.1, bt203.2.2.2.1, bt203.2.2.2.2.1, bt203.2.2.2.2.2.1, bt203.2.2.2.2.2.2)) else (some (false, bt203.2.1, bt203.2.2.1, bt203.2.2.2.1, bt203.2.2.2.2.1, bt203.2.2.2.2.2.1, bt203.2.2.2.2.2.2))) else (some (false, bt203.2.1, bt203.2.2.1, bt203.2.2.2.1, bt203.2.2.2.2.1, bt203.2.2.2.2.2.1, bt203.2.2.2.2.2.2))))) else (if (s0_7.length : Int) = 0 then (if (s0_8.length : Int) = s0_1 then (some (((s0_9.length : Int) == s0_1), s0_0, s0_1, s0_2, s0_3, s0_4, s0_6)) else (some (false, s0_0, s0_1, s0_2, s0_3, s0_4, s0_6))) else (some (false, s0_0, s0_1, s0_2, s0_3, s0_4, s0_6)))) = some (r1, r2, r3, r4, r5, r6, r7) := h
  clear h
  by_cases c2 : s0_3 = true
  · subst c2
    have H1 : ((spec_l9Primary.f s0_0 s0_1 s0_2 true s0_4 s0_5 s0_6 s0_7 s0_8 s0_9).bind fun bt203 => (if bt203.1 = true then (if (s0_7.length : Int) = bt203.2.2.1 then (if (s0_8.length : Int) = 0 then (some (((s0_9.length : Int) == 0), bt203.2.1, bt203.2.2.1, bt203.2.2.2.1, bt203.2.2.2.2.1, bt203.2.2.2.2.2.1, bt203.2.2.2.2.2.2)) else (some (false, bt203.2.1, bt203.2.2.1, bt203.2.2.2.1, bt203.2.2.2.2.1, bt203.2.2.2.2.2.1, bt203.2.2.2.2.2.2))) else (some (false, bt203.2.1, bt203.2.2.1, bt203.2.2.2.1, bt203.2.2.2.2.1, bt203.2.2.2.2.2.1, bt203.2.2.2.2.2.2))) else (if (s0_7.length : Int) = 0 then (if (s0_8.length : Int) = 0 then (some (((s0_9.length : Int) == 0), bt203.2.1, bt203.2.2.1, bt203.2.2.2.1, bt203.2.2.2.2.1, bt203.2.2.2.2.2.1, bt203.2.2.2.2.2.2)) else (some (false, bt203.2.1, bt203.2.2.1, bt203.2.2.2.1, bt203.2.2.2.2.1, bt203.2.2.2.2.2.1, bt203.2.2.2.2.2.2))) else (some (false, bt203.2.1, bt203.2.2.1, bt203.2.2.2.1, bt203.2.2.2.2.1, bt203.2.2.2.2.2.1, bt203.2.2.2.2.2.2))))) = some (r1, r2, r3, r4, r5, r6, r7) := by rw [if_pos rfl] at H; exact H
    clear H
    have H := H1
    clear H1
    replace H := Option.bind_eq_some_iff.mp H
    obtain ⟨⟨t203, t204, t205, t206, t207, t208, t209⟩, A30, H⟩ := H
    replace H : (if t203 = true then (if (s0_7.length : Int) = t205 then (if (s0_8.length : Int) = 0 then (some (((s0_9.length : Int) == 0), t204, t205, t206, t207, t208, t209)) else (some (false, t204, t205, t206, t207, t208, t209))) else (some (false, t204, t205, t206, t207, t208, t209))) else (if (s0_7.length : Int) = 0 then (if (s0_8.length : Int) = 0 then (some (((s0_9.length : Int) == 0), t204, t205, t206, t207, t208, t209)) else (some (false, t204, t205, t206, t207, t208, t209))) else (some (false, t204, t205, t206, t207, t208, t209)))) = some (r1, r2, r3, r4, r5, r6, r7) := H
    have A3 := Aside0.mk A30
    clear A30
    by_cases c4 : t203 = true
    · subst c4
      have H1 : (if (s0_7.length : Int) = t205 then (if (s0_8.length : Int) = 0 then (some (((s0_9.length : Int) == 0), t204, t205, t206, t207, t208, t209)) else (some (false, t204, t205, t206, t207, t208, t209))) else (some (false, t204, t205, t206, t207, t208, t209))) = some (r1, r2, r3, r4, r5, r6, r7) := by rw [if_pos rfl] at H; exact H
      clear H
      have H := H1
      clear H1
      by_cases c5 : (s0_7.length : Int) = t205
      · rw [if_pos c5] at H
        have c5b0 : ((s0_7.length : Int) == t205) = true := beq_iff_eq.mpr c5
        have c5b1 : ((s0_7.length : Int) != t205) = false := bne_eq_false_iff_eq.mpr c5
        clear c5
        by_cases c6 : (s0_8.length : Int) = 0
        · rw [if_pos c6] at H
          have c6b0 : ((s0_8.length : Int) == 0) = true := beq_iff_eq.mpr c6
          have c6b1 : ((s0_8.length : Int) != 0) = false := bne_eq_false_iff_eq.mpr c6
          clear c6
          simp only [Option.some.injEq, Prod.mk.injEq] at H
          obtain ⟨rfl, rfl, rfl, rfl, rfl, rfl, rfl⟩ := H
          obtain ⟨ASz7_5, cSz7_5, ASz7_7, cSz7_7, ASz7_8, cSz7_8, ASz7_9, cSz7_9, HGz7, hgz7, HSz7_5, HSz7_7, HSz7_8, HSz7_9⟩ := HI0.out
          have hcz7_0 := cellS33_0 HGz7
          have hcz7_1 := cellS33_1 HGz7
          have hcz7_2 := cellS33_2 HGz7
          have hcz7_3 := cellS33_3 HGz7
          have hcz7_4 := cellS33_4 HGz7
          have hcz7_5 := cellS33_5 HGz7
          have hcz7_6 := cellS33_6 HGz7
          have hcz7_7 := cellS33_7 HGz7
          have hcz7_8 := cellS33_8 HGz7
          have hcz7_9 := cellS33_9 HGz7
          have hfz7_0 := blk_frozen HGz7 0
          have hfz7_1 := blk_frozen HGz7 1
          have hfz7_2 := blk_frozen HGz7 2
          have hfz7_3 := blk_frozen HGz7 3
          have hfz7_4 := blk_frozen HGz7 4
          have hfz7_6 := blk_frozen HGz7 6
          clear HGz7 hgz7
          go_enter Try.func75, Try.ntmps75
          go_wp2_with (first | ((with_reducible refine gate_callee (f := 89) rfl ?_); refine goesL_ (some 14) rfl rfl Try.func89 (by kernel_rfl) rfl #[.pointer (some ⟨g, 0, none⟩)] rfl (by (try simp only [List.map_toArray, List.map_cons, List.map_nil]); first | done | rfl | (simp only [List.length_drop, List.length_take]; rfl)) ?_; (with_reducible refine (spec_l9Primary.calls g s0_0 s0_1 s0_2 true s0_4 s0_5 s0_6 s0_7 s0_8 s0_9 true t204 t205 t206 t207 t208 t209 w0 _ ?side1 ?side2 A3.out).mono ?_); (case side1 => repeat (first | (with_reducible first | exact HI0.out | apply IsS33.alloc | apply IsS33.drewN | apply IsS33.drew | apply IsS33.set_0 | apply IsS33.set_1 | apply IsS33.set_2 | apply IsS33.set_3 | apply IsS33.set_4 | apply IsS33.set_6) | exact HI0.out)); (case side2 => repeat (first | (with_reducible first | exact HB.out | apply below_alloc | apply pw_below_drewN | apply below_drew1 | refine below_set ?_ (IsS33.ge HI0.out)) | exact HB.out)); rintro e w8 ⟨rfl, hi, hb, hk⟩; refine ⟨_, rfl, ?_⟩; have n0_ := Aside0.mk (KeepBut.trans (by repeat (first | (with_reducible first | exact HK.out | apply KeepBut.set_ | apply keep_drewN | apply keep_drew | apply keep_alloc) | exact HK.out)) hk (.inl rfl)); have n1_ := Aside0.mk (hb); have n2_ := Aside0.mk (hi); clear HK; clear HB; clear HI0; have HK := n0_; have HB := n1_; have HI0 := n2_; clear n0_ n1_ n2_; (try clear hb); (try clear hb2); (try clear hk); (try clear hi); obtain ⟨ASz9_5, cSz9_5, ASz9_7, cSz9_7, ASz9_8, cSz9_8, ASz9_9, cSz9_9, HGz9, hgz9, HSz9_5, HSz9_7, HSz9_8, HSz9_9⟩ := HI0.out; have hcz9_0 := cellS33_0 HGz9; have hcz9_1 := cellS33_1 HGz9; have hcz9_2 := cellS33_2 HGz9; have hcz9_3 := cellS33_3 HGz9; have hcz9_4 := cellS33_4 HGz9; have hcz9_5 := cellS33_5 HGz9; have hcz9_6 := cellS33_6 HGz9; have hcz9_7 := cellS33_7 HGz9; have hcz9_8 := cellS33_8 HGz9; have hcz9_9 := cellS33_9 HGz9; have hfz9_0 := blk_frozen HGz9 0; have hfz9_1 := blk_frozen HGz9 1; have hfz9_2 := blk_frozen HGz9 2; have hfz9_3 := blk_frozen HGz9 3; have hfz9_4 := blk_frozen HGz9 4; have hfz9_6 := blk_frozen HGz9 6; clear HGz9 hgz9))
          go_ret
          exact ⟨by first | rfl | (simp [errW_none, errW_some] <;> rfl) | (simp [*, errW_none, errW_some] <;> rfl), by repeat (first | (with_reducible first | exact HI0.out | apply IsS33.alloc | apply IsS33.drewN | apply IsS33.drew | apply IsS33.set_0 | apply IsS33.set_1 | apply IsS33.set_2 | apply IsS33.set_3 | apply IsS33.set_4 | apply IsS33.set_6) | exact HI0.out), by repeat (first | (with_reducible first | exact HB.out | apply below_alloc | apply pw_below_drewN | apply below_drew1 | refine below_set ?_ (IsS33.ge HI0.out)) | exact HB.out), by repeat (first | (with_reducible first | exact HK.out | apply KeepBut.set_ | apply keep_drewN | apply keep_drew | apply keep_alloc) | exact HK.out)⟩
        · rw [if_neg c6] at H
          have c6b0 : ((s0_8.length : Int) == 0) = false := beq_eq_false_iff_ne.mpr c6
          have c6b1 : ((s0_8.length : Int) != 0) = true := bne_iff_ne.mpr c6
          have c6b2 : ¬ (s0_8 = []) := fun h_ => c6 (by rw [h_]; rfl)
          simp only [Option.some.injEq, Prod.mk.injEq] at H
          obtain ⟨rfl, rfl, rfl, rfl, rfl, rfl, rfl⟩ := H
          obtain ⟨ASz10_5, cSz10_5, ASz10_7, cSz10_7, ASz10_8, cSz10_8, ASz10_9, cSz10_9, HGz10, hgz10, HSz10_5, HSz10_7, HSz10_8, HSz10_9⟩ := HI0.out
          have hcz10_0 := cellS33_0 HGz10
          have hcz10_1 := cellS33_1 HGz10
          have hcz10_2 := cellS33_2 HGz10
          have hcz10_3 := cellS33_3 HGz10
          have hcz10_4 := cellS33_4 HGz10
          have hcz10_5 := cellS33_5 HGz10
          have hcz10_6 := cellS33_6 HGz10
          have hcz10_7 := cellS33_7 HGz10
          have hcz10_8 := cellS33_8 HGz10
          have hcz10_9 := cellS33_9 HGz10
          have hfz10_0 := blk_frozen HGz10 0
          have hfz10_1 := blk_frozen HGz10 1
          have hfz10_2 := blk_frozen HGz10 2
          have hfz10_3 := blk_frozen HGz10 3
          have hfz10_4 := blk_frozen HGz10 4
          have hfz10_6 := blk_frozen HGz10 6
          clear HGz10 hgz10
          go_enter Try.func75, Try.ntmps75
          go_wp2_with (first | ((with_reducible refine gate_callee (f := 89) rfl ?_); refine goesL_ (some 14) rfl rfl Try.func89 (by kernel_rfl) rfl #[.pointer (some ⟨g, 0, none⟩)] rfl (by (try simp only [List.map_toArray, List.map_cons, List.map_nil]); first | done | rfl | (simp only [List.length_drop, List.length_take]; rfl)) ?_; (with_reducible refine (spec_l9Primary.calls g s0_0 s0_1 s0_2 true s0_4 s0_5 s0_6 s0_7 s0_8 s0_9 true t204 t205 t206 t207 t208 t209 w0 _ ?side1 ?side2 A3.out).mono ?_); (case side1 => repeat (first | (with_reducible first | exact HI0.out | apply IsS33.alloc | apply IsS33.drewN | apply IsS33.drew | apply IsS33.set_0 | apply IsS33.set_1 | apply IsS33.set_2 | apply IsS33.set_3 | apply IsS33.set_4 | apply IsS33.set_6) | exact HI0.out)); (case side2 => repeat (first | (with_reducible first | exact HB.out | apply below_alloc | apply pw_below_drewN | apply below_drew1 | refine below_set ?_ (IsS33.ge HI0.out)) | exact HB.out)); rintro e w11 ⟨rfl, hi, hb, hk⟩; refine ⟨_, rfl, ?_⟩; have n0_ := Aside0.mk (KeepBut.trans (by repeat (first | (with_reducible first | exact HK.out | apply KeepBut.set_ | apply keep_drewN | apply keep_drew | apply keep_alloc) | exact HK.out)) hk (.inl rfl)); have n1_ := Aside0.mk (hb); have n2_ := Aside0.mk (hi); clear HK; clear HB; clear HI0; have HK := n0_; have HB := n1_; have HI0 := n2_; clear n0_ n1_ n2_; (try clear hb); (try clear hb2); (try clear hk); (try clear hi); obtain ⟨ASz12_5, cSz12_5, ASz12_7, cSz12_7, ASz12_8, cSz12_8, ASz12_9, cSz12_9, HGz12, hgz12, HSz12_5, HSz12_7, HSz12_8, HSz12_9⟩ := HI0.out; have hcz12_0 := cellS33_0 HGz12; have hcz12_1 := cellS33_1 HGz12; have hcz12_2 := cellS33_2 HGz12; have hcz12_3 := cellS33_3 HGz12; have hcz12_4 := cellS33_4 HGz12; have hcz12_5 := cellS33_5 HGz12; have hcz12_6 := cellS33_6 HGz12; have hcz12_7 := cellS33_7 HGz12; have hcz12_8 := cellS33_8 HGz12; have hcz12_9 := cellS33_9 HGz12; have hfz12_0 := blk_frozen HGz12 0; have hfz12_1 := blk_frozen HGz12 1; have hfz12_2 := blk_frozen HGz12 2; have hfz12_3 := blk_frozen HGz12 3; have hfz12_4 := blk_frozen HGz12 4; have hfz12_6 := blk_frozen HGz12 6; clear HGz12 hgz12))
          go_ret
          exact ⟨by first | rfl | (simp [errW_none, errW_some] <;> rfl) | (simp [*, errW_none, errW_some] <;> rfl), by repeat (first | (with_reducible first | exact HI0.out | apply IsS33.alloc | apply IsS33.drewN | apply IsS33.drew | apply IsS33.set_0 | apply IsS33.set_1 | apply IsS33.set_2 | apply IsS33.set_3 | apply IsS33.set_4 | apply IsS33.set_6) | exact HI0.out), by repeat (first | (with_reducible first | exact HB.out | apply below_alloc | apply pw_below_drewN | apply below_drew1 | refine below_set ?_ (IsS33.ge HI0.out)) | exact HB.out), by repeat (first | (with_reducible first | exact HK.out | apply KeepBut.set_ | apply keep_drewN | apply keep_drew | apply keep_alloc) | exact HK.out)⟩
      · rw [if_neg c5] at H
        have c5b0 : ((s0_7.length : Int) == t205) = false := beq_eq_false_iff_ne.mpr c5
        have c5b1 : ((s0_7.length : Int) != t205) = true := bne_iff_ne.mpr c5
        simp only [Option.some.injEq, Prod.mk.injEq] at H
        obtain ⟨rfl, rfl, rfl, rfl, rfl, rfl, rfl⟩ := H
        obtain ⟨ASz13_5, cSz13_5, ASz13_7, cSz13_7, ASz13_8, cSz13_8, ASz13_9, cSz13_9, HGz13, hgz13, HSz13_5, HSz13_7, HSz13_8, HSz13_9⟩ := HI0.out
        have hcz13_0 := cellS33_0 HGz13
        have hcz13_1 := cellS33_1 HGz13
        have hcz13_2 := cellS33_2 HGz13
        have hcz13_3 := cellS33_3 HGz13
        have hcz13_4 := cellS33_4 HGz13
        have hcz13_5 := cellS33_5 HGz13
        have hcz13_6 := cellS33_6 HGz13
        have hcz13_7 := cellS33_7 HGz13
        have hcz13_8 := cellS33_8 HGz13
        have hcz13_9 := cellS33_9 HGz13
        have hfz13_0 := blk_frozen HGz13 0
        have hfz13_1 := blk_frozen HGz13 1
        have hfz13_2 := blk_frozen HGz13 2
        have hfz13_3 := blk_frozen HGz13 3
        have hfz13_4 := blk_frozen HGz13 4
        have hfz13_6 := blk_frozen HGz13 6
        clear HGz13 hgz13
        go_enter Try.func75, Try.ntmps75
        go_wp2_with (first | ((with_reducible refine gate_callee (f := 89) rfl ?_); refine goesL_ (some 14) rfl rfl Try.func89 (by kernel_rfl) rfl #[.pointer (some ⟨g, 0, none⟩)] rfl (by (try simp only [List.map_toArray, List.map_cons, List.map_nil]); first | done | rfl | (simp only [List.length_drop, List.length_take]; rfl)) ?_; (with_reducible refine (spec_l9Primary.calls g s0_0 s0_1 s0_2 true s0_4 s0_5 s0_6 s0_7 s0_8 s0_9 true t204 t205 t206 t207 t208 t209 w0 _ ?side1 ?side2 A3.out).mono ?_); (case side1 => repeat (first | (with_reducible first | exact HI0.out | apply IsS33.alloc | apply IsS33.drewN | apply IsS33.drew | apply IsS33.set_0 | apply IsS33.set_1 | apply IsS33.set_2 | apply IsS33.set_3 | apply IsS33.set_4 | apply IsS33.set_6) | exact HI0.out)); (case side2 => repeat (first | (with_reducible first | exact HB.out | apply below_alloc | apply pw_below_drewN | apply below_drew1 | refine below_set ?_ (IsS33.ge HI0.out)) | exact HB.out)); rintro e w14 ⟨rfl, hi, hb, hk⟩; refine ⟨_, rfl, ?_⟩; have n0_ := Aside0.mk (KeepBut.trans (by repeat (first | (with_reducible first | exact HK.out | apply KeepBut.set_ | apply keep_drewN | apply keep_drew | apply keep_alloc) | exact HK.out)) hk (.inl rfl)); have n1_ := Aside0.mk (hb); have n2_ := Aside0.mk (hi); clear HK; clear HB; clear HI0; have HK := n0_; have HB := n1_; have HI0 := n2_; clear n0_ n1_ n2_; (try clear hb); (try clear hb2); (try clear hk); (try clear hi); obtain ⟨ASz15_5, cSz15_5, ASz15_7, cSz15_7, ASz15_8, cSz15_8, ASz15_9, cSz15_9, HGz15, hgz15, HSz15_5, HSz15_7, HSz15_8, HSz15_9⟩ := HI0.out; have hcz15_0 := cellS33_0 HGz15; have hcz15_1 := cellS33_1 HGz15; have hcz15_2 := cellS33_2 HGz15; have hcz15_3 := cellS33_3 HGz15; have hcz15_4 := cellS33_4 HGz15; have hcz15_5 := cellS33_5 HGz15; have hcz15_6 := cellS33_6 HGz15; have hcz15_7 := cellS33_7 HGz15; have hcz15_8 := cellS33_8 HGz15; have hcz15_9 := cellS33_9 HGz15; have hfz15_0 := blk_frozen HGz15 0; have hfz15_1 := blk_frozen HGz15 1; have hfz15_2 := blk_frozen HGz15 2; have hfz15_3 := blk_frozen HGz15 3; have hfz15_4 := blk_frozen HGz15 4; have hfz15_6 := blk_frozen HGz15 6; clear HGz15 hgz15))
        go_ret
        exact ⟨by first | rfl | (simp [errW_none, errW_some] <;> rfl) | (simp [*, errW_none, errW_some] <;> rfl), by repeat (first | (with_reducible first | exact HI0.out | apply IsS33.alloc | apply IsS33.drewN | apply IsS33.drew | apply IsS33.set_0 | apply IsS33.set_1 | apply IsS33.set_2 | apply IsS33.set_3 | apply IsS33.set_4 | apply IsS33.set_6) | exact HI0.out), by repeat (first | (with_reducible first | exact HB.out | apply below_alloc | apply pw_below_drewN | apply below_drew1 | refine below_set ?_ (IsS33.ge HI0.out)) | exact HB.out), by repeat (first | (with_reducible first | exact HK.out | apply KeepBut.set_ | apply keep_drewN | apply keep_drew | apply keep_alloc) | exact HK.out)⟩
    · replace c4 := Bool.eq_false_iff.mpr c4
      subst c4
      have H1 : (if (s0_7.length : Int) = 0 then (if (s0_8.length : Int) = 0 then (some (((s0_9.length : Int) == 0), t204, t205, t206, t207, t208, t209)) else (some (false, t204, t205, t206, t207, t208, t209))) else (some (false, t204, t205, t206, t207, t208, t209))) = some (r1, r2, r3, r4, r5, r6, r7) := by rw [if_neg (show ¬ (false = true) by decide)] at H; exact H
      clear H
      have H := H1
      clear H1
      by_cases c16 : (s0_7.length : Int) = 0
      · rw [if_pos c16] at H
        have c16b0 : ((s0_7.length : Int) == 0) = true := beq_iff_eq.mpr c16
        have c16b1 : ((s0_7.length : Int) != 0) = false := bne_eq_false_iff_eq.mpr c16
        clear c16
        by_cases c17 : (s0_8.length : Int) = 0
        · rw [if_pos c17] at H
          have c17b0 : ((s0_8.length : Int) == 0) = true := beq_iff_eq.mpr c17
          have c17b1 : ((s0_8.length : Int) != 0) = false := bne_eq_false_iff_eq.mpr c17
          clear c17
          simp only [Option.some.injEq, Prod.mk.injEq] at H
          obtain ⟨rfl, rfl, rfl, rfl, rfl, rfl, rfl⟩ := H
          obtain ⟨ASz18_5, cSz18_5, ASz18_7, cSz18_7, ASz18_8, cSz18_8, ASz18_9, cSz18_9, HGz18, hgz18, HSz18_5, HSz18_7, HSz18_8, HSz18_9⟩ := HI0.out
          have hcz18_0 := cellS33_0 HGz18
          have hcz18_1 := cellS33_1 HGz18
          have hcz18_2 := cellS33_2 HGz18
          have hcz18_3 := cellS33_3 HGz18
          have hcz18_4 := cellS33_4 HGz18
          have hcz18_5 := cellS33_5 HGz18
          have hcz18_6 := cellS33_6 HGz18
          have hcz18_7 := cellS33_7 HGz18
          have hcz18_8 := cellS33_8 HGz18
          have hcz18_9 := cellS33_9 HGz18
          have hfz18_0 := blk_frozen HGz18 0
          have hfz18_1 := blk_frozen HGz18 1
          have hfz18_2 := blk_frozen HGz18 2
          have hfz18_3 := blk_frozen HGz18 3
          have hfz18_4 := blk_frozen HGz18 4
          have hfz18_6 := blk_frozen HGz18 6
          clear HGz18 hgz18
          go_enter Try.func75, Try.ntmps75
          go_wp2_with (first | ((with_reducible refine gate_callee (f := 89) rfl ?_); refine goesL_ (some 14) rfl rfl Try.func89 (by kernel_rfl) rfl #[.pointer (some ⟨g, 0, none⟩)] rfl (by (try simp only [List.map_toArray, List.map_cons, List.map_nil]); first | done | rfl | (simp only [List.length_drop, List.length_take]; rfl)) ?_; (with_reducible refine (spec_l9Primary.calls g s0_0 s0_1 s0_2 true s0_4 s0_5 s0_6 s0_7 s0_8 s0_9 false t204 t205 t206 t207 t208 t209 w0 _ ?side1 ?side2 A3.out).mono ?_); (case side1 => repeat (first | (with_reducible first | exact HI0.out | apply IsS33.alloc | apply IsS33.drewN | apply IsS33.drew | apply IsS33.set_0 | apply IsS33.set_1 | apply IsS33.set_2 | apply IsS33.set_3 | apply IsS33.set_4 | apply IsS33.set_6) | exact HI0.out)); (case side2 => repeat (first | (with_reducible first | exact HB.out | apply below_alloc | apply pw_below_drewN | apply below_drew1 | refine below_set ?_ (IsS33.ge HI0.out)) | exact HB.out)); rintro e w19 ⟨rfl, hi, hb, hk⟩; refine ⟨_, rfl, ?_⟩; have n0_ := Aside0.mk (KeepBut.trans (by repeat (first | (with_reducible first | exact HK.out | apply KeepBut.set_ | apply keep_drewN | apply keep_drew | apply keep_alloc) | exact HK.out)) hk (.inl rfl)); have n1_ := Aside0.mk (hb); have n2_ := Aside0.mk (hi); clear HK; clear HB; clear HI0; have HK := n0_; have HB := n1_; have HI0 := n2_; clear n0_ n1_ n2_; (try clear hb); (try clear hb2); (try clear hk); (try clear hi); obtain ⟨ASz20_5, cSz20_5, ASz20_7, cSz20_7, ASz20_8, cSz20_8, ASz20_9, cSz20_9, HGz20, hgz20, HSz20_5, HSz20_7, HSz20_8, HSz20_9⟩ := HI0.out; have hcz20_0 := cellS33_0 HGz20; have hcz20_1 := cellS33_1 HGz20; have hcz20_2 := cellS33_2 HGz20; have hcz20_3 := cellS33_3 HGz20; have hcz20_4 := cellS33_4 HGz20; have hcz20_5 := cellS33_5 HGz20; have hcz20_6 := cellS33_6 HGz20; have hcz20_7 := cellS33_7 HGz20; have hcz20_8 := cellS33_8 HGz20; have hcz20_9 := cellS33_9 HGz20; have hfz20_0 := blk_frozen HGz20 0; have hfz20_1 := blk_frozen HGz20 1; have hfz20_2 := blk_frozen HGz20 2; have hfz20_3 := blk_frozen HGz20 3; have hfz20_4 := blk_frozen HGz20 4; have hfz20_6 := blk_frozen HGz20 6; clear HGz20 hgz20))
          go_ret
          exact ⟨by first | rfl | (simp [errW_none, errW_some] <;> rfl) | (simp [*, errW_none, errW_some] <;> rfl), by repeat (first | (with_reducible first | exact HI0.out | apply IsS33.alloc | apply IsS33.drewN | apply IsS33.drew | apply IsS33.set_0 | apply IsS33.set_1 | apply IsS33.set_2 | apply IsS33.set_3 | apply IsS33.set_4 | apply IsS33.set_6) | exact HI0.out), by repeat (first | (with_reducible first | exact HB.out | apply below_alloc | apply pw_below_drewN | apply below_drew1 | refine below_set ?_ (IsS33.ge HI0.out)) | exact HB.out), by repeat (first | (with_reducible first | exact HK.out | apply KeepBut.set_ | apply keep_drewN | apply keep_drew | apply keep_alloc) | exact HK.out)⟩
        · rw [if_neg c17] at H
          have c17b0 : ((s0_8.length : Int) == 0) = false := beq_eq_false_iff_ne.mpr c17
          have c17b1 : ((s0_8.length : Int) != 0) = true := bne_iff_ne.mpr c17
          have c17b2 : ¬ (s0_8 = []) := fun h_ => c17 (by rw [h_]; rfl)
          simp only [Option.some.injEq, Prod.mk.injEq] at H
          obtain ⟨rfl, rfl, rfl, rfl, rfl, rfl, rfl⟩ := H
          obtain ⟨ASz21_5, cSz21_5, ASz21_7, cSz21_7, ASz21_8, cSz21_8, ASz21_9, cSz21_9, HGz21, hgz21, HSz21_5, HSz21_7, HSz21_8, HSz21_9⟩ := HI0.out
          have hcz21_0 := cellS33_0 HGz21
          have hcz21_1 := cellS33_1 HGz21
          have hcz21_2 := cellS33_2 HGz21
          have hcz21_3 := cellS33_3 HGz21
          have hcz21_4 := cellS33_4 HGz21
          have hcz21_5 := cellS33_5 HGz21
          have hcz21_6 := cellS33_6 HGz21
          have hcz21_7 := cellS33_7 HGz21
          have hcz21_8 := cellS33_8 HGz21
          have hcz21_9 := cellS33_9 HGz21
          have hfz21_0 := blk_frozen HGz21 0
          have hfz21_1 := blk_frozen HGz21 1
          have hfz21_2 := blk_frozen HGz21 2
          have hfz21_3 := blk_frozen HGz21 3
          have hfz21_4 := blk_frozen HGz21 4
          have hfz21_6 := blk_frozen HGz21 6
          clear HGz21 hgz21
          go_enter Try.func75, Try.ntmps75
          go_wp2_with (first | ((with_reducible refine gate_callee (f := 89) rfl ?_); refine goesL_ (some 14) rfl rfl Try.func89 (by kernel_rfl) rfl #[.pointer (some ⟨g, 0, none⟩)] rfl (by (try simp only [List.map_toArray, List.map_cons, List.map_nil]); first | done | rfl | (simp only [List.length_drop, List.length_take]; rfl)) ?_; (with_reducible refine (spec_l9Primary.calls g s0_0 s0_1 s0_2 true s0_4 s0_5 s0_6 s0_7 s0_8 s0_9 false t204 t205 t206 t207 t208 t209 w0 _ ?side1 ?side2 A3.out).mono ?_); (case side1 => repeat (first | (with_reducible first | exact HI0.out | apply IsS33.alloc | apply IsS33.drewN | apply IsS33.drew | apply IsS33.set_0 | apply IsS33.set_1 | apply IsS33.set_2 | apply IsS33.set_3 | apply IsS33.set_4 | apply IsS33.set_6) | exact HI0.out)); (case side2 => repeat (first | (with_reducible first | exact HB.out | apply below_alloc | apply pw_below_drewN | apply below_drew1 | refine below_set ?_ (IsS33.ge HI0.out)) | exact HB.out)); rintro e w22 ⟨rfl, hi, hb, hk⟩; refine ⟨_, rfl, ?_⟩; have n0_ := Aside0.mk (KeepBut.trans (by repeat (first | (with_reducible first | exact HK.out | apply KeepBut.set_ | apply keep_drewN | apply keep_drew | apply keep_alloc) | exact HK.out)) hk (.inl rfl)); have n1_ := Aside0.mk (hb); have n2_ := Aside0.mk (hi); clear HK; clear HB; clear HI0; have HK := n0_; have HB := n1_; have HI0 := n2_; clear n0_ n1_ n2_; (try clear hb); (try clear hb2); (try clear hk); (try clear hi); obtain ⟨ASz23_5, cSz23_5, ASz23_7, cSz23_7, ASz23_8, cSz23_8, ASz23_9, cSz23_9, HGz23, hgz23, HSz23_5, HSz23_7, HSz23_8, HSz23_9⟩ := HI0.out; have hcz23_0 := cellS33_0 HGz23; have hcz23_1 := cellS33_1 HGz23; have hcz23_2 := cellS33_2 HGz23; have hcz23_3 := cellS33_3 HGz23; have hcz23_4 := cellS33_4 HGz23; have hcz23_5 := cellS33_5 HGz23; have hcz23_6 := cellS33_6 HGz23; have hcz23_7 := cellS33_7 HGz23; have hcz23_8 := cellS33_8 HGz23; have hcz23_9 := cellS33_9 HGz23; have hfz23_0 := blk_frozen HGz23 0; have hfz23_1 := blk_frozen HGz23 1; have hfz23_2 := blk_frozen HGz23 2; have hfz23_3 := blk_frozen HGz23 3; have hfz23_4 := blk_frozen HGz23 4; have hfz23_6 := blk_frozen HGz23 6; clear HGz23 hgz23))
          go_ret
          exact ⟨by first | rfl | (simp [errW_none, errW_some] <;> rfl) | (simp [*, errW_none, errW_some] <;> rfl), by repeat (first | (with_reducible first | exact HI0.out | apply IsS33.alloc | apply IsS33.drewN | apply IsS33.drew | apply IsS33.set_0 | apply IsS33.set_1 | apply IsS33.set_2 | apply IsS33.set_3 | apply IsS33.set_4 | apply IsS33.set_6) | exact HI0.out), by repeat (first | (with_reducible first | exact HB.out | apply below_alloc | apply pw_below_drewN | apply below_drew1 | refine below_set ?_ (IsS33.ge HI0.out)) | exact HB.out), by repeat (first | (with_reducible first | exact HK.out | apply KeepBut.set_ | apply keep_drewN | apply keep_drew | apply keep_alloc) | exact HK.out)⟩
      · rw [if_neg c16] at H
        have c16b0 : ((s0_7.length : Int) == 0) = false := beq_eq_false_iff_ne.mpr c16
        have c16b1 : ((s0_7.length : Int) != 0) = true := bne_iff_ne.mpr c16
        have c16b2 : ¬ (s0_7 = []) := fun h_ => c16 (by rw [h_]; rfl)
        simp only [Option.some.injEq, Prod.mk.injEq] at H
        obtain ⟨rfl, rfl, rfl, rfl, rfl, rfl, rfl⟩ := H
        obtain ⟨ASz24_5, cSz24_5, ASz24_7, cSz24_7, ASz24_8, cSz24_8, ASz24_9, cSz24_9, HGz24, hgz24, HSz24_5, HSz24_7, HSz24_8, HSz24_9⟩ := HI0.out
        have hcz24_0 := cellS33_0 HGz24
        have hcz24_1 := cellS33_1 HGz24
        have hcz24_2 := cellS33_2 HGz24
        have hcz24_3 := cellS33_3 HGz24
        have hcz24_4 := cellS33_4 HGz24
        have hcz24_5 := cellS33_5 HGz24
        have hcz24_6 := cellS33_6 HGz24
        have hcz24_7 := cellS33_7 HGz24
        have hcz24_8 := cellS33_8 HGz24
        have hcz24_9 := cellS33_9 HGz24
        have hfz24_0 := blk_frozen HGz24 0
        have hfz24_1 := blk_frozen HGz24 1
        have hfz24_2 := blk_frozen HGz24 2
        have hfz24_3 := blk_frozen HGz24 3
        have hfz24_4 := blk_frozen HGz24 4
        have hfz24_6 := blk_frozen HGz24 6
        clear HGz24 hgz24
        go_enter Try.func75, Try.ntmps75
        go_wp2_with (first | ((with_reducible refine gate_callee (f := 89) rfl ?_); refine goesL_ (some 14) rfl rfl Try.func89 (by kernel_rfl) rfl #[.pointer (some ⟨g, 0, none⟩)] rfl (by (try simp only [List.map_toArray, List.map_cons, List.map_nil]); first | done | rfl | (simp only [List.length_drop, List.length_take]; rfl)) ?_; (with_reducible refine (spec_l9Primary.calls g s0_0 s0_1 s0_2 true s0_4 s0_5 s0_6 s0_7 s0_8 s0_9 false t204 t205 t206 t207 t208 t209 w0 _ ?side1 ?side2 A3.out).mono ?_); (case side1 => repeat (first | (with_reducible first | exact HI0.out | apply IsS33.alloc | apply IsS33.drewN | apply IsS33.drew | apply IsS33.set_0 | apply IsS33.set_1 | apply IsS33.set_2 | apply IsS33.set_3 | apply IsS33.set_4 | apply IsS33.set_6) | exact HI0.out)); (case side2 => repeat (first | (with_reducible first | exact HB.out | apply below_alloc | apply pw_below_drewN | apply below_drew1 | refine below_set ?_ (IsS33.ge HI0.out)) | exact HB.out)); rintro e w25 ⟨rfl, hi, hb, hk⟩; refine ⟨_, rfl, ?_⟩; have n0_ := Aside0.mk (KeepBut.trans (by repeat (first | (with_reducible first | exact HK.out | apply KeepBut.set_ | apply keep_drewN | apply keep_drew | apply keep_alloc) | exact HK.out)) hk (.inl rfl)); have n1_ := Aside0.mk (hb); have n2_ := Aside0.mk (hi); clear HK; clear HB; clear HI0; have HK := n0_; have HB := n1_; have HI0 := n2_; clear n0_ n1_ n2_; (try clear hb); (try clear hb2); (try clear hk); (try clear hi); obtain ⟨ASz26_5, cSz26_5, ASz26_7, cSz26_7, ASz26_8, cSz26_8, ASz26_9, cSz26_9, HGz26, hgz26, HSz26_5, HSz26_7, HSz26_8, HSz26_9⟩ := HI0.out; have hcz26_0 := cellS33_0 HGz26; have hcz26_1 := cellS33_1 HGz26; have hcz26_2 := cellS33_2 HGz26; have hcz26_3 := cellS33_3 HGz26; have hcz26_4 := cellS33_4 HGz26; have hcz26_5 := cellS33_5 HGz26; have hcz26_6 := cellS33_6 HGz26; have hcz26_7 := cellS33_7 HGz26; have hcz26_8 := cellS33_8 HGz26; have hcz26_9 := cellS33_9 HGz26; have hfz26_0 := blk_frozen HGz26 0; have hfz26_1 := blk_frozen HGz26 1; have hfz26_2 := blk_frozen HGz26 2; have hfz26_3 := blk_frozen HGz26 3; have hfz26_4 := blk_frozen HGz26 4; have hfz26_6 := blk_frozen HGz26 6; clear HGz26 hgz26))
        go_ret
        exact ⟨by first | rfl | (simp [errW_none, errW_some] <;> rfl) | (simp [*, errW_none, errW_some] <;> rfl), by repeat (first | (with_reducible first | exact HI0.out | apply IsS33.alloc | apply IsS33.drewN | apply IsS33.drew | apply IsS33.set_0 | apply IsS33.set_1 | apply IsS33.set_2 | apply IsS33.set_3 | apply IsS33.set_4 | apply IsS33.set_6) | exact HI0.out), by repeat (first | (with_reducible first | exact HB.out | apply below_alloc | apply pw_below_drewN | apply below_drew1 | refine below_set ?_ (IsS33.ge HI0.out)) | exact HB.out), by repeat (first | (with_reducible first | exact HK.out | apply KeepBut.set_ | apply keep_drewN | apply keep_drew | apply keep_alloc) | exact HK.out)⟩
  · replace c2 := Bool.eq_false_iff.mpr c2
    subst c2
    have H1 : (if (s0_7.length : Int) = 0 then (if (s0_8.length : Int) = s0_1 then (some (((s0_9.length : Int) == s0_1), s0_0, s0_1, s0_2, false, s0_4, s0_6)) else (some (false, s0_0, s0_1, s0_2, false, s0_4, s0_6))) else (some (false, s0_0, s0_1, s0_2, false, s0_4, s0_6))) = some (r1, r2, r3, r4, r5, r6, r7) := by rw [if_neg (show ¬ (false = true) by decide)] at H; exact H
    clear H
    have H := H1
    clear H1
    by_cases c27 : (s0_7.length : Int) = 0
    · rw [if_pos c27] at H
      have c27b0 : ((s0_7.length : Int) == 0) = true := beq_iff_eq.mpr c27
      have c27b1 : ((s0_7.length : Int) != 0) = false := bne_eq_false_iff_eq.mpr c27
      clear c27
      by_cases c28 : (s0_8.length : Int) = s0_1
      · rw [if_pos c28] at H
        have c28b0 : ((s0_8.length : Int) == s0_1) = true := beq_iff_eq.mpr c28
        have c28b1 : ((s0_8.length : Int) != s0_1) = false := bne_eq_false_iff_eq.mpr c28
        clear c28
        simp only [Option.some.injEq, Prod.mk.injEq] at H
        obtain ⟨rfl, rfl, rfl, rfl, rfl, rfl, rfl⟩ := H
        obtain ⟨ASz29_5, cSz29_5, ASz29_7, cSz29_7, ASz29_8, cSz29_8, ASz29_9, cSz29_9, HGz29, hgz29, HSz29_5, HSz29_7, HSz29_8, HSz29_9⟩ := HI0.out
        have hcz29_0 := cellS33_0 HGz29
        have hcz29_1 := cellS33_1 HGz29
        have hcz29_2 := cellS33_2 HGz29
        have hcz29_3 := cellS33_3 HGz29
        have hcz29_4 := cellS33_4 HGz29
        have hcz29_5 := cellS33_5 HGz29
        have hcz29_6 := cellS33_6 HGz29
        have hcz29_7 := cellS33_7 HGz29
        have hcz29_8 := cellS33_8 HGz29
        have hcz29_9 := cellS33_9 HGz29
        have hfz29_0 := blk_frozen HGz29 0
        have hfz29_1 := blk_frozen HGz29 1
        have hfz29_2 := blk_frozen HGz29 2
        have hfz29_3 := blk_frozen HGz29 3
        have hfz29_4 := blk_frozen HGz29 4
        have hfz29_6 := blk_frozen HGz29 6
        clear HGz29 hgz29
        go_enter Try.func75, Try.ntmps75
        go_wp2
        go_ret
        exact ⟨by first | rfl | (simp [errW_none, errW_some] <;> rfl) | (simp [*, errW_none, errW_some] <;> rfl), by repeat (first | (with_reducible first | exact HI0.out | apply IsS33.alloc | apply IsS33.drewN | apply IsS33.drew | apply IsS33.set_0 | apply IsS33.set_1 | apply IsS33.set_2 | apply IsS33.set_3 | apply IsS33.set_4 | apply IsS33.set_6) | exact HI0.out), by repeat (first | (with_reducible first | exact HB.out | apply below_alloc | apply pw_below_drewN | apply below_drew1 | refine below_set ?_ (IsS33.ge HI0.out)) | exact HB.out), by repeat (first | (with_reducible first | exact HK.out | apply KeepBut.set_ | apply keep_drewN | apply keep_drew | apply keep_alloc) | exact HK.out)⟩
      · rw [if_neg c28] at H
        have c28b0 : ((s0_8.length : Int) == s0_1) = false := beq_eq_false_iff_ne.mpr c28
        have c28b1 : ((s0_8.length : Int) != s0_1) = true := bne_iff_ne.mpr c28
        simp only [Option.some.injEq, Prod.mk.injEq] at H
        obtain ⟨rfl, rfl, rfl, rfl, rfl, rfl, rfl⟩ := H
        obtain ⟨ASz30_5, cSz30_5, ASz30_7, cSz30_7, ASz30_8, cSz30_8, ASz30_9, cSz30_9, HGz30, hgz30, HSz30_5, HSz30_7, HSz30_8, HSz30_9⟩ := HI0.out
        have hcz30_0 := cellS33_0 HGz30
        have hcz30_1 := cellS33_1 HGz30
        have hcz30_2 := cellS33_2 HGz30
        have hcz30_3 := cellS33_3 HGz30
        have hcz30_4 := cellS33_4 HGz30
        have hcz30_5 := cellS33_5 HGz30
        have hcz30_6 := cellS33_6 HGz30
        have hcz30_7 := cellS33_7 HGz30
        have hcz30_8 := cellS33_8 HGz30
        have hcz30_9 := cellS33_9 HGz30
        have hfz30_0 := blk_frozen HGz30 0
        have hfz30_1 := blk_frozen HGz30 1
        have hfz30_2 := blk_frozen HGz30 2
        have hfz30_3 := blk_frozen HGz30 3
        have hfz30_4 := blk_frozen HGz30 4
        have hfz30_6 := blk_frozen HGz30 6
        clear HGz30 hgz30
        go_enter Try.func75, Try.ntmps75
        go_wp2
        go_ret
        exact ⟨by first | rfl | (simp [errW_none, errW_some] <;> rfl) | (simp [*, errW_none, errW_some] <;> rfl), by repeat (first | (with_reducible first | exact HI0.out | apply IsS33.alloc | apply IsS33.drewN | apply IsS33.drew | apply IsS33.set_0 | apply IsS33.set_1 | apply IsS33.set_2 | apply IsS33.set_3 | apply IsS33.set_4 | apply IsS33.set_6) | exact HI0.out), by repeat (first | (with_reducible first | exact HB.out | apply below_alloc | apply pw_below_drewN | apply below_drew1 | refine below_set ?_ (IsS33.ge HI0.out)) | exact HB.out), by repeat (first | (with_reducible first | exact HK.out | apply KeepBut.set_ | apply keep_drewN | apply keep_drew | apply keep_alloc) | exact HK.out)⟩
    · rw [if_neg c27] at H
      have c27b0 : ((s0_7.length : Int) == 0) = false := beq_eq_false_iff_ne.mpr c27
      have c27b1 : ((s0_7.length : Int) != 0) = true := bne_iff_ne.mpr c27
      have c27b2 : ¬ (s0_7 = []) := fun h_ => c27 (by rw [h_]; rfl)
      simp only [Option.some.injEq, Prod.mk.injEq] at H
      obtain ⟨rfl, rfl, rfl, rfl, rfl, rfl, rfl⟩ := H
      obtain ⟨ASz31_5, cSz31_5, ASz31_7, cSz31_7, ASz31_8, cSz31_8, ASz31_9, cSz31_9, HGz31, hgz31, HSz31_5, HSz31_7, HSz31_8, HSz31_9⟩ := HI0.out
      have hcz31_0 := cellS33_0 HGz31
      have hcz31_1 := cellS33_1 HGz31
      have hcz31_2 := cellS33_2 HGz31
      have hcz31_3 := cellS33_3 HGz31
      have hcz31_4 := cellS33_4 HGz31
      have hcz31_5 := cellS33_5 HGz31
      have hcz31_6 := cellS33_6 HGz31
      have hcz31_7 := cellS33_7 HGz31
      have hcz31_8 := cellS33_8 HGz31
      have hcz31_9 := cellS33_9 HGz31
      have hfz31_0 := blk_frozen HGz31 0
      have hfz31_1 := blk_frozen HGz31 1
      have hfz31_2 := blk_frozen HGz31 2
      have hfz31_3 := blk_frozen HGz31 3
      have hfz31_4 := blk_frozen HGz31 4
      have hfz31_6 := blk_frozen HGz31 6
      clear HGz31 hgz31
      go_enter Try.func75, Try.ntmps75
      go_wp2
      go_ret
      exact ⟨by first | rfl | (simp [errW_none, errW_some] <;> rfl) | (simp [*, errW_none, errW_some] <;> rfl), by repeat (first | (with_reducible first | exact HI0.out | apply IsS33.alloc | apply IsS33.drewN | apply IsS33.drew | apply IsS33.set_0 | apply IsS33.set_1 | apply IsS33.set_2 | apply IsS33.set_3 | apply IsS33.set_4 | apply IsS33.set_6) | exact HI0.out), by repeat (first | (with_reducible first | exact HB.out | apply below_alloc | apply pw_below_drewN | apply below_drew1 | refine below_set ?_ (IsS33.ge HI0.out)) | exact HB.out), by repeat (first | (with_reducible first | exact HK.out | apply KeepBut.set_ | apply keep_drewN | apply keep_drew | apply keep_alloc) | exact HK.out)⟩


/-! ### q_spec_l9Doer: function 76 -/
def q_spec_l9Doer.f (a0_0 : Bool) (a0_1 : Int) (l0_2 : List (S95)) (a0_3 : Int) : Option (Int) := if a0_0 = true then ((spec_l9View.f a0_1).bind fun t1 => (if t1 = true then ((spec_LogFault.f l0_2).bind fun t3 => (if t3 = 0 then ((spec_l1In.f a0_3 0 (l0_2.length : Int)).bind fun t5 => (if t5 = true then (some 0) else (some 3))) else (some t3))) else (some 3))) else (if a0_1 = 0 then (if (l0_2.length : Int) > 0 then (some 1) else (if a0_3 = 0 then ((spec_l9View.f a0_1).bind fun t7 => (if t7 = true then ((spec_LogFault.f l0_2).bind fun t9 => (if t9 = 0 then ((spec_l1In.f a0_3 0 (l0_2.length : Int)).bind fun t11 => (if t11 = true then (some 0) else (some 3))) else (some t9))) else (some 3))) else (some 1))) else (some 1))
set_option maxHeartbeats 8000000 in
set_option maxRecDepth 100000 in
theorem q_spec_l9Doer.calls (p0 : Addr) (a0_0 : Bool) (a0_1 : Int) (A0_2 : Option Addr) (c0_2 : Nat) (l0_2 : List (S95)) (a0_3 : Int) (r : Int) (w : World) (hp0 : CellsAt w p0 [.bool a0_0, .int .i64 a0_1, .slice A0_2 l0_2.length c0_2, .int .i64 a0_3]) (hr0_2 : Kd.C k95 w A0_2 l0_2.length l0_2) (hc0_2 : l0_2.length ≤ c0_2) (h : q_spec_l9Doer.f a0_0 a0_1 l0_2 a0_3 = some r) :
    Calls Try.prog 76 #[.pointer (some p0)] w fun e w' => e = .returned (.int .i64 r) ∧ Below w.heap.size w w' := by
  have hu70 := Try.underlying70
  have HP0 := Aside0.mk hp0
  have HR0_2 := Aside0.mk hr0_2
  have HC0_2 := Aside0.mk hc0_2
  clear hp0 hr0_2 hc0_2
  have HB := Aside0.mk (Below.refl w.heap.size w)
  have H : (if a0_0 = true then ((spec_l9View.f a0_1).bind fun t1 => (if t1 = true then ((spec_LogFault.f l0_2).bind fun t3 => (if t3 = 0 then ((spec_l1In.f a0_3 0 (l0_2.length : Int)).bind fun t5 => (if t5 = true then (some 0) else (some 3))) else (some t3))) else (some 3))) else (if a0_1 = 0 then (if (l0_2.length : Int) > 0 then (some 1) else (if a0_3 = 0 then ((spec_l9View.f a0_1).bind fun t7 => (if t7 = true then ((spec_LogFault.f l0_2).bind fun t9 => (if t9 = 0 then ((spec_l1In.f a0_3 0 (l0_2.length : Int)).bind fun t11 => (if t11 = true then (some 0) else (some 3))) else (some t9))) else (some 3))) else (some 1))) else (some 1))) = some r := h
  clear h
  have HXhp0_0 : Aside0 (w.cell? p0 = some (.bool a0_0)) := ⟨HP0.out.zero rfl⟩
  have hp0_0 := (HB.out.cell (World.block_lt_of_cell? w _ HXhp0_0.out)).trans HXhp0_0.out
  have HXhp0_1 : Aside0 (w.cell? ⟨p0.block, p0.off + 1, none⟩ = some (.int .i64 a0_1)) := ⟨HP0.out.get 0 rfl⟩
  have hp0_1 := (HB.out.cell (World.block_lt_of_cell? w _ HXhp0_1.out)).trans HXhp0_1.out
  have HXhp0_2 : Aside0 (w.cell? ⟨p0.block, p0.off + 2, none⟩ = some (.slice A0_2 l0_2.length c0_2)) := ⟨HP0.out.get 1 rfl⟩
  have hp0_2 := (HB.out.cell (World.block_lt_of_cell? w _ HXhp0_2.out)).trans HXhp0_2.out
  have HXhp0_3 : Aside0 (w.cell? ⟨p0.block, p0.off + 3, none⟩ = some (.int .i64 a0_3)) := ⟨HP0.out.get 2 rfl⟩
  have hp0_3 := (HB.out.cell (World.block_lt_of_cell? w _ HXhp0_3.out)).trans HXhp0_3.out
  go_enter Try.func76, Try.ntmps76
  by_cases c1 : a0_0 = true
  · rw [if_pos c1] at H
    have c1b0 : a0_0 = true := c1
    try clear c1
    replace H := Option.bind_eq_some_iff.mp H
    obtain ⟨t1, A20, H⟩ := H
    replace H : (if t1 = true then ((spec_LogFault.f l0_2).bind fun t3 => (if t3 = 0 then ((spec_l1In.f a0_3 0 (l0_2.length : Int)).bind fun t5 => (if t5 = true then (some 0) else (some 3))) else (some t3))) else (some 3)) = some r := H
    have A2 := Aside0.mk A20
    clear A20
    go_wp2_with (fail)
    go_at_call 73
    (with_reducible refine (spec_l9View.calls a0_1 t1 _  A2.out).mono ?_)
    rintro e w1001 ⟨rfl, ⟨nd, rfl⟩⟩
    by_cases c2 : t1 = true
    · rw [if_pos c2] at H
      have c2b0 : t1 = true := c2
      try clear c2
      replace H := Option.bind_eq_some_iff.mp H
      obtain ⟨t3, A40, H⟩ := H
      replace H : (if t3 = 0 then ((spec_l1In.f a0_3 0 (l0_2.length : Int)).bind fun t5 => (if t5 = true then (some 0) else (some 3))) else (some t3)) = some r := H
      have A4 := Aside0.mk A40
      clear A40
      go_wp2_with (fail)
      go_at_call 74
      (with_reducible refine (spec_LogFault.calls A0_2 c0_2 l0_2 t3 _ ?side1 ?side2 A4.out).mono ?_)
      (case side1 => repeat (first | exact (Kd.C_below HR0_2.out HB.out) | (with_reducible refine Kd.C_alloc ?_ _) | (with_reducible refine Kd.C_drewN ?_ _) | (with_reducible refine Kd.C_drew ?_)))
      (case side2 => exact HC0_2.out)
      rintro e w1002 ⟨rfl, hb⟩; have n0_ := Aside0.mk (below_step (by repeat (first | (with_reducible first | exact HB.out | apply below_alloc | apply pw_below_drewN | apply below_drew1) | exact HB.out)) hb); clear HB; have HB := n0_; clear n0_; replace hp0_0 := (HB.out.cell (World.block_lt_of_cell? w _ HXhp0_0.out)).trans HXhp0_0.out; replace hp0_1 := (HB.out.cell (World.block_lt_of_cell? w _ HXhp0_1.out)).trans HXhp0_1.out; replace hp0_2 := (HB.out.cell (World.block_lt_of_cell? w _ HXhp0_2.out)).trans HXhp0_2.out; replace hp0_3 := (HB.out.cell (World.block_lt_of_cell? w _ HXhp0_3.out)).trans HXhp0_3.out; (try clear hb)
      by_cases c3 : t3 = 0
      · rw [if_pos c3] at H
        have c3b0 : (t3 == 0) = true := beq_iff_eq.mpr c3
        have c3b1 : (t3 != 0) = false := bne_eq_false_iff_eq.mpr c3
        clear c3
        replace H := Option.bind_eq_some_iff.mp H
        obtain ⟨t5, A60, H⟩ := H
        replace H : (if t5 = true then (some 0) else (some 3)) = some r := H
        have A6 := Aside0.mk A60
        clear A60
        by_cases c4 : t5 = true
        · rw [if_pos c4] at H
          have c4b0 : t5 = true := c4
          try clear c4
          obtain rfl := Option.some.inj H
          go_wp2_with (fail)
          repeat (go_quiet ((first | (go_at_call 52; (with_reducible first | refine Calls.quiet_of ((spec_l1In.calls a0_3 0 (l0_2.length : Int) t5 _  A6.out).mono fun _ _ h_ => ⟨h_.1, h_.2.out⟩) | refine quiet_addD ((spec_l1In.calls a0_3 0 (l0_2.length : Int) t5 _  A6.out).mono fun _ _ h_ => ⟨h_.1, h_.2.out⟩))))); try go_wp2_with (fail))
          go_ret
          exact ⟨by first | rfl | (simp <;> rfl) | (simp [*] <;> rfl), by repeat (first | (with_reducible first | exact HB.out | apply below_alloc | apply pw_below_drewN | apply below_drew1) | exact HB.out)⟩
        · rw [if_neg c4] at H
          have c4b0 : t5 = false := (Bool.eq_false_iff.2 c4)
          try clear c4
          obtain rfl := Option.some.inj H
          go_wp2_with (fail)
          repeat (go_quiet ((first | (go_at_call 52; (with_reducible first | refine Calls.quiet_of ((spec_l1In.calls a0_3 0 (l0_2.length : Int) t5 _  A6.out).mono fun _ _ h_ => ⟨h_.1, h_.2.out⟩) | refine quiet_addD ((spec_l1In.calls a0_3 0 (l0_2.length : Int) t5 _  A6.out).mono fun _ _ h_ => ⟨h_.1, h_.2.out⟩))))); try go_wp2_with (fail))
          go_ret
          exact ⟨by first | rfl | (simp <;> rfl) | (simp [*] <;> rfl), by repeat (first | (with_reducible first | exact HB.out | apply below_alloc | apply pw_below_drewN | apply below_drew1) | exact HB.out)⟩
      · rw [if_neg c3] at H
        have c3b0 : (t3 == 0) = false := beq_eq_false_iff_ne.mpr c3
        have c3b1 : (t3 != 0) = true := bne_iff_ne.mpr c3
        obtain rfl := Option.some.inj H
        go_wp2_with (fail)
        go_ret
        exact ⟨by first | rfl | (simp <;> rfl) | (simp [*] <;> rfl), by repeat (first | (with_reducible first | exact HB.out | apply below_alloc | apply pw_below_drewN | apply below_drew1) | exact HB.out)⟩
    · rw [if_neg c2] at H
      have c2b0 : t1 = false := (Bool.eq_false_iff.2 c2)
      try clear c2
      obtain rfl := Option.some.inj H
      go_wp2_with (fail)
      go_ret
      exact ⟨by first | rfl | (simp <;> rfl) | (simp [*] <;> rfl), by repeat (first | (with_reducible first | exact HB.out | apply below_alloc | apply pw_below_drewN | apply below_drew1) | exact HB.out)⟩
  · rw [if_neg c1] at H
    have c1b0 : a0_0 = false := (Bool.eq_false_iff.2 c1)
    try clear c1
    by_cases c5 : a0_1 = 0
    · rw [if_pos c5] at H
      have c5b0 : (a0_1 == 0) = true := beq_iff_eq.mpr c5
      have c5b1 : (a0_1 != 0) = false := bne_eq_false_iff_eq.mpr c5
      clear c5
      by_cases c6 : (l0_2.length : Int) > 0
      · rw [if_pos c6] at H
        have c6b0 : decide ((l0_2.length : Int) > 0) = true := decide_eq_true c6
        have c6b1 : decide (0 < (l0_2.length : Int)) = true := decide_eq_true c6
        have c6b2 : decide (0 < l0_2.length) = true := decide_eq_true (by omega)
        clear c6
        obtain rfl := Option.some.inj H
        go_wp2_with (fail)
        go_ret
        exact ⟨by first | rfl | (simp <;> rfl) | (simp [*] <;> rfl), by repeat (first | (with_reducible first | exact HB.out | apply below_alloc | apply pw_below_drewN | apply below_drew1) | exact HB.out)⟩
      · rw [if_neg c6] at H
        have c6b0 : decide ((l0_2.length : Int) > 0) = false := decide_eq_false c6
        have c6b1 : decide (0 < (l0_2.length : Int)) = false := decide_eq_false c6
        have c6b2 : decide (0 < l0_2.length) = false := decide_eq_false (by omega)
        clear c6
        by_cases c7 : a0_3 = 0
        · rw [if_pos c7] at H
          have c7b0 : (a0_3 == 0) = true := beq_iff_eq.mpr c7
          have c7b1 : (a0_3 != 0) = false := bne_eq_false_iff_eq.mpr c7
          clear c7
          replace H := Option.bind_eq_some_iff.mp H
          obtain ⟨t7, A80, H⟩ := H
          replace H : (if t7 = true then ((spec_LogFault.f l0_2).bind fun t9 => (if t9 = 0 then ((spec_l1In.f a0_3 0 (l0_2.length : Int)).bind fun t11 => (if t11 = true then (some 0) else (some 3))) else (some t9))) else (some 3)) = some r := H
          have A8 := Aside0.mk A80
          clear A80
          go_wp2_with (fail)
          go_at_call 73
          (with_reducible refine (spec_l9View.calls a0_1 t7 _  A8.out).mono ?_)
          rintro e w1003 ⟨rfl, ⟨nd, rfl⟩⟩
          by_cases c8 : t7 = true
          · rw [if_pos c8] at H
            have c8b0 : t7 = true := c8
            try clear c8
            replace H := Option.bind_eq_some_iff.mp H
            obtain ⟨t9, A100, H⟩ := H
            replace H : (if t9 = 0 then ((spec_l1In.f a0_3 0 (l0_2.length : Int)).bind fun t11 => (if t11 = true then (some 0) else (some 3))) else (some t9)) = some r := H
            have A10 := Aside0.mk A100
            clear A100
            go_wp2_with (fail)
            go_at_call 74
            (with_reducible refine (spec_LogFault.calls A0_2 c0_2 l0_2 t9 _ ?side1 ?side2 A10.out).mono ?_)
            (case side1 => repeat (first | exact (Kd.C_below HR0_2.out HB.out) | (with_reducible refine Kd.C_alloc ?_ _) | (with_reducible refine Kd.C_drewN ?_ _) | (with_reducible refine Kd.C_drew ?_)))
            (case side2 => exact HC0_2.out)
            rintro e w1004 ⟨rfl, hb⟩; have n0_ := Aside0.mk (below_step (by repeat (first | (with_reducible first | exact HB.out | apply below_alloc | apply pw_below_drewN | apply below_drew1) | exact HB.out)) hb); clear HB; have HB := n0_; clear n0_; replace hp0_0 := (HB.out.cell (World.block_lt_of_cell? w _ HXhp0_0.out)).trans HXhp0_0.out; replace hp0_1 := (HB.out.cell (World.block_lt_of_cell? w _ HXhp0_1.out)).trans HXhp0_1.out; replace hp0_2 := (HB.out.cell (World.block_lt_of_cell? w _ HXhp0_2.out)).trans HXhp0_2.out; replace hp0_3 := (HB.out.cell (World.block_lt_of_cell? w _ HXhp0_3.out)).trans HXhp0_3.out; (try clear hb)
            by_cases c9 : t9 = 0
            · rw [if_pos c9] at H
              have c9b0 : (t9 == 0) = true := beq_iff_eq.mpr c9
              have c9b1 : (t9 != 0) = false := bne_eq_false_iff_eq.mpr c9
              clear c9
              replace H := Option.bind_eq_some_iff.mp H
              obtain ⟨t11, A120, H⟩ := H
              replace H : (if t11 = true then (some 0) else (some 3)) = some r := H
              have A12 := Aside0.mk A120
              clear A120
              by_cases c10 : t11 = true
              · rw [if_pos c10] at H
                have c10b0 : t11 = true := c10
                try clear c10
                obtain rfl := Option.some.inj H
                go_wp2_with (fail)
                repeat (go_quiet ((first | (go_at_call 52; (with_reducible first | refine Calls.quiet_of ((spec_l1In.calls a0_3 0 (l0_2.length : Int) t11 _  A12.out).mono fun _ _ h_ => ⟨h_.1, h_.2.out⟩) | refine quiet_addD ((spec_l1In.calls a0_3 0 (l0_2.length : Int) t11 _  A12.out).mono fun _ _ h_ => ⟨h_.1, h_.2.out⟩))))); try go_wp2_with (fail))
                go_ret
                exact ⟨by first | rfl | (simp <;> rfl) | (simp [*] <;> rfl), by repeat (first | (with_reducible first | exact HB.out | apply below_alloc | apply pw_below_drewN | apply below_drew1) | exact HB.out)⟩
              · rw [if_neg c10] at H
                have c10b0 : t11 = false := (Bool.eq_false_iff.2 c10)
                try clear c10
                obtain rfl := Option.some.inj H
                go_wp2_with (fail)
                repeat (go_quiet ((first | (go_at_call 52; (with_reducible first | refine Calls.quiet_of ((spec_l1In.calls a0_3 0 (l0_2.length : Int) t11 _  A12.out).mono fun _ _ h_ => ⟨h_.1, h_.2.out⟩) | refine quiet_addD ((spec_l1In.calls a0_3 0 (l0_2.length : Int) t11 _  A12.out).mono fun _ _ h_ => ⟨h_.1, h_.2.out⟩))))); try go_wp2_with (fail))
                go_ret
                exact ⟨by first | rfl | (simp <;> rfl) | (simp [*] <;> rfl), by repeat (first | (with_reducible first | exact HB.out | apply below_alloc | apply pw_below_drewN | apply below_drew1) | exact HB.out)⟩
            · rw [if_neg c9] at H
              have c9b0 : (t9 == 0) = false := beq_eq_false_iff_ne.mpr c9
              have c9b1 : (t9 != 0) = true := bne_iff_ne.mpr c9
              obtain rfl := Option.some.inj H
              go_wp2_with (fail)
              go_ret
              exact ⟨by first | rfl | (simp <;> rfl) | (simp [*] <;> rfl), by repeat (first | (with_reducible first | exact HB.out | apply below_alloc | apply pw_below_drewN | apply below_drew1) | exact HB.out)⟩
          · rw [if_neg c8] at H
            have c8b0 : t7 = false := (Bool.eq_false_iff.2 c8)
            try clear c8
            obtain rfl := Option.some.inj H
            go_wp2_with (fail)
            go_ret
            exact ⟨by first | rfl | (simp <;> rfl) | (simp [*] <;> rfl), by repeat (first | (with_reducible first | exact HB.out | apply below_alloc | apply pw_below_drewN | apply below_drew1) | exact HB.out)⟩
        · rw [if_neg c7] at H
          have c7b0 : (a0_3 == 0) = false := beq_eq_false_iff_ne.mpr c7
          have c7b1 : (a0_3 != 0) = true := bne_iff_ne.mpr c7
          obtain rfl := Option.some.inj H
          go_wp2_with (fail)
          go_ret
          exact ⟨by first | rfl | (simp <;> rfl) | (simp [*] <;> rfl), by repeat (first | (with_reducible first | exact HB.out | apply below_alloc | apply pw_below_drewN | apply below_drew1) | exact HB.out)⟩
    · rw [if_neg c5] at H
      have c5b0 : (a0_1 == 0) = false := beq_eq_false_iff_ne.mpr c5
      have c5b1 : (a0_1 != 0) = true := bne_iff_ne.mpr c5
      obtain rfl := Option.some.inj H
      go_wp2_with (fail)
      go_ret
      exact ⟨by first | rfl | (simp <;> rfl) | (simp [*] <;> rfl), by repeat (first | (with_reducible first | exact HB.out | apply below_alloc | apply pw_below_drewN | apply below_drew1) | exact HB.out)⟩


/-! ### q_spec_l9Fault: function 36 -/
theorem hs_l9View (a : Int) (w : World) : Calls Try.prog 73 #[.int .i64 a] w fun e w' => e = .returned (.bool (decide (0 ≤ a) && decide (a ≤ 200))) ∧ w' = w := by
  go_enter Try.func73, Try.ntmps73
  go_wp2_with (go_at_call 52; refine (hs_l1In _ _ _ _).mono ?_; rintro e w' ⟨rfl, rfl⟩)
  go_ret
  exact ⟨rfl, rfl⟩
set_option maxHeartbeats 8000000 in
set_option maxRecDepth 100000 in
theorem hs_l9Doer (p : Addr) (d0 : Bool) (d1 : Int) (A : Option Addr) (c : Nat) (l : List (S95)) (d3 : Int) (n : Nat) (w : World) (hx0 : w.cell? p = some (.bool d0)) (hx1 : w.cell? ⟨p.block, p.off + 1, none⟩ = some (.int .i64 d1))
    (hx2 : w.cell? ⟨p.block, p.off + 2, none⟩ = some (.slice A n c)) (hx3 : w.cell? ⟨p.block, p.off + 3, none⟩ = some (.int .i64 d3)) (hr : Kd.C k95 w A l.length l) (hn : n = l.length) :
    Calls Try.prog 76 #[.pointer (some p)] w fun e w' => e = .returned (.int .i64 (doerF d0 d1 l d3)) ∧ Below w.heap.size w w' := by
  have hu := Try.underlying70
  have hp := World.block_lt_of_cell? w _ hx0
  have HR := Aside0.mk hr
  have HN := Aside0.mk hn
  clear hr hn
  have HB := Aside0.mk (Below.refl w.heap.size w)
  by_cases hl : 0 < n
  · have hl1 : decide (0 < n) = true := decide_eq_true hl
    have hl2 : decide (0 < (n : Int)) = true := decide_eq_true (by omega)
    have HL := Aside0.mk hl
    clear hl
    go_enter Try.func76, Try.ntmps76
    go_wp2_with (first | (go_at_call 73; refine (hs_l9View _ _).mono ?_; rintro e w' ⟨rfl, rfl⟩) | (go_at_call 74; rw [HN.out]; ((with_reducible refine (hs_LogFault0 _ _ _ _ _ HR.out rfl).mono ?_); rintro e w1 ⟨rfl, hb⟩; have n_ := Aside0.mk (below_step (by repeat (first | (with_reducible first | exact HB.out | apply below_alloc | apply pw_below_drewN | apply below_drew1) | exact HB.out)) hb); obtain ⟨hc_, hf_⟩ := bcell hb; clear HB hb; have HB := n_; clear n_)))
    all_goals try (go_quiet ((go_at_call 52; exact Calls.quiet_of_same (hs_l1In _ _ _ _))); go_wp2)
    all_goals
      go_ret
      refine ⟨ret_i64 ?_, (by repeat (first | (with_reducible first | exact HB.out | apply below_alloc | apply pw_below_drewN | apply below_drew1) | exact HB.out))⟩
      have hl := HL.out
      have hn := HN.out
      clear HL HN HB HR hx0 hx1 hx2 hx3 hu hl1 hl2
      try simp only [Bool.not_eq_eq_eq_not, Bool.not_true, Bool.not_false, decide_eq_true_eq, decide_eq_false_iff_not, beq_iff_eq, beq_eq_false_iff_ne, bne_iff_ne, bne_eq_false_iff_eq, ne_eq, Int.not_le, Int.not_lt, Bool.not_eq_true] at *
      unfold doerF
      grind
  · have hl1 : decide (0 < n) = false := decide_eq_false hl
    have hl2 : decide (0 < (n : Int)) = false := decide_eq_false (by omega)
    have HL := Aside0.mk hl
    clear hl
    go_enter Try.func76, Try.ntmps76
    go_wp2_with (first | (go_at_call 73; refine (hs_l9View _ _).mono ?_; rintro e w' ⟨rfl, rfl⟩) | (go_at_call 74; rw [HN.out]; ((with_reducible refine (hs_LogFault0 _ _ _ _ _ HR.out rfl).mono ?_); rintro e w1 ⟨rfl, hb⟩; have n_ := Aside0.mk (below_step (by repeat (first | (with_reducible first | exact HB.out | apply below_alloc | apply pw_below_drewN | apply below_drew1) | exact HB.out)) hb); obtain ⟨hc_, hf_⟩ := bcell hb; clear HB hb; have HB := n_; clear n_)))
    all_goals try (go_quiet ((go_at_call 52; exact Calls.quiet_of_same (hs_l1In _ _ _ _))); go_wp2)
    all_goals
      go_ret
      refine ⟨ret_i64 ?_, (by repeat (first | (with_reducible first | exact HB.out | apply below_alloc | apply pw_below_drewN | apply below_drew1) | exact HB.out))⟩
      have hl := HL.out
      have hn := HN.out
      clear HL HN HB HR hx0 hx1 hx2 hx3 hu hl1 hl2
      try simp only [Bool.not_eq_eq_eq_not, Bool.not_true, Bool.not_false, decide_eq_true_eq, decide_eq_false_iff_not, beq_iff_eq, beq_eq_false_iff_ne, bne_iff_ne, bne_eq_false_iff_eq, ne_eq, Int.not_le, Int.not_lt, Bool.not_eq_true] at *
      unfold doerF
      grind

theorem hs_in (a b c : Int) (w : World) : Calls Try.prog 52 #[.int .i64 a, .int .i64 b, .int .i64 c] w fun e w' => e = .returned (.bool (inR a b c)) ∧ w' = w := hs_l1In a b c w
theorem hs_view (a : Int) (w : World) : Calls Try.prog 73 #[.int .i64 a] w fun e w' => e = .returned (.bool (inR a 0 200)) ∧ w' = w := hs_l9View a w

set_option maxHeartbeats 8000000 in
set_option maxRecDepth 100000 in
theorem hs_l9Primary (p : Addr) (id size view last commit : Int) (norm : Bool) (v5 v7 v8 v9 : Value) (w : World) (hx : CellsAt w p [.int .i64 id, .int .i64 size, .int .i64 view, .bool norm, .int .i64 last, v5, .int .i64 commit, v7, v8, v9])
    (hs1 : 1 ≤ size) (hs2 : size ≤ 5) (hv1 : 0 ≤ view) (hv2 : view ≤ 200) :
    Calls Try.prog 89 #[.pointer (some p)] w fun e w' => e = .returned (.bool (view % size == id)) ∧ ∃ n, w' = w.drewN n := by
  have hx0 := hx.zero rfl
  have hx1 := hx.get 0 rfl
  have hx2 := hx.get 1 rfl
  clear hx
  have hz : (size == 0) = false := beq_eq_false_iff_ne.mpr (by omega)
  go_enter Try.func89, Try.ntmps89
  go_wp2
  go_quiet (fail)
  go_wp2
  go_ret
  exact ⟨rfl, _, rfl⟩
set_option maxHeartbeats 8000000 in
set_option maxRecDepth 100000 in
theorem hs_l9Sizes (p : Addr) (id size view last commit : Int) (norm : Bool) (v5 : Value) (A7 A8 A9 : Option Addr) (n7 c7 n8 c8 n9 c9 : Nat) (w : World)
    (hx : CellsAt w p [.int .i64 id, .int .i64 size, .int .i64 view, .bool norm, .int .i64 last, v5, .int .i64 commit, .slice A7 n7 c7, .slice A8 n8 c8, .slice A9 n9 c9])
    (hs1 : 1 ≤ size) (hs2 : size ≤ 5) (hv1 : 0 ≤ view) (hv2 : view ≤ 200) :
    Calls Try.prog 75 #[.pointer (some p)] w fun e w' => e = .returned (.bool (sizesB id size view norm n7 n8 n9)) ∧ ∃ n, w' = w.drewN n := by
  have HX := Aside0.mk hx
  have hx0 := hx.zero rfl
  have hx1 := hx.get 0 rfl
  have hx2 := hx.get 1 rfl
  have hx3 := hx.get 2 rfl
  have hx7 := hx.get 6 rfl
  have hx8 := hx.get 7 rfl
  have hx9 := hx.get 8 rfl
  clear hx
  go_enter Try.func75, Try.ntmps75
  go_wp2_with (go_at_call 89; refine (hs_l9Primary _ _ _ _ _ _ _ _ _ _ _ _ HX.out hs1 hs2 hv1 hv2).mono ?_; rintro e w' ⟨rfl, nq, rfl⟩)
  all_goals
    go_ret
    refine ⟨ret_bool ?_, ?_⟩
    · clear hx0 hx1 hx2 hx3 hx7 hx8 hx9 HX
      unfold sizesB

      grind
    · first | exact ⟨_, rfl⟩ | exact ⟨0, rfl⟩

set_option maxHeartbeats 16000000 in
set_option maxRecDepth 100000 in
theorem hs_l9Fault (p : Addr) (id size view last commit : Int) (norm : Bool) (A5 A7 A8 A9 : Option Addr) (c5 c7 c8 c9 n5 n7 n8 n9 : Nat) (log : List (S95)) (oks : List Int) (doers : List (S70)) (w : World)
    (hx : CellsAt w p [.int .i64 id, .int .i64 size, .int .i64 view, .bool norm, .int .i64 last, .slice A5 n5 c5, .int .i64 commit, .slice A7 n7 c7, .slice A8 n8 c8, .slice A9 n9 c9])
    (hn5 : n5 = log.length) (hn7 : n7 = oks.length) (hn9 : n9 = doers.length) (hr5 : Kd.C k95 w A5 log.length log) (hr7 : Kd.C (Kd.int .i64) w A7 oks.length oks) (hr9 : Kd.C k70 w A9 doers.length doers) :
    Calls Try.prog 36 #[.pointer (some p)] w fun e w' => e = .returned (.int .i64 (repF id size view norm last log commit oks n8 doers)) ∧ Below w.heap.size w w' := by
  have HX := Aside0.mk hx
  have hx0 := hx.zero rfl
  have hx1 := hx.get 0 rfl
  have hx2 := hx.get 1 rfl
  have hx3 := hx.get 2 rfl
  have hx4 := hx.get 3 rfl
  have hx5 := hx.get 4 rfl
  have hx6 := hx.get 5 rfl
  have hx7 := hx.get 6 rfl
  have hx9 := hx.get 8 rfl
  have hp := World.block_lt_of_cell? w _ hx0
  have HN5 := Aside0.mk hn5
  have HN7 := Aside0.mk hn7
  have HN9 := Aside0.mk hn9
  have HR5 := Aside0.mk hr5
  have HR7 := Aside0.mk hr7
  have HR9 := Aside0.mk hr9
  have HB := Aside0.mk (Below.refl w.heap.size w)
  clear hx hn5 hn7 hn9 hr5 hr7 hr9
  by_cases h1 : inR size 1 5 = true
  case neg =>
    rw [Bool.not_eq_true] at h1
    go_enter Try.func36, Try.ntmps36
    go_wp2
    go_quiet ((go_at_call 52; exact Calls.quiet_of_same (hs_in _ _ _ _)))
    go_wp2
    go_ret
    exact ⟨ret_i64 (by unfold repF; rw [if_pos (Or.inl h1)]), (by repeat (first | (with_reducible first | exact HB.out | apply below_alloc | apply pw_below_drewN | apply below_drew1) | exact HB.out))⟩
  obtain ⟨hs1, hs2⟩ := inR_iff.1 h1
  by_cases h2 : inR id 0 (size - 1) = true
  case neg =>
    rw [Bool.not_eq_true] at h2
    go_enter Try.func36, Try.ntmps36
    go_wp2
    go_quiet ((go_at_call 52; exact Calls.quiet_of_same (hs_in _ _ _ _)))
    go_wp2
    go_ret
    exact ⟨ret_i64 (by unfold repF; rw [if_pos (Or.inr (Or.inl h2))]), (by repeat (first | (with_reducible first | exact HB.out | apply below_alloc | apply pw_below_drewN | apply below_drew1) | exact HB.out))⟩
  by_cases h3 : inR view 0 200 = true
  case neg =>
    rw [Bool.not_eq_true] at h3
    go_enter Try.func36, Try.ntmps36
    go_wp2
    go_quiet ((first | (go_at_call 52; exact Calls.quiet_of_same (hs_in _ _ _ _)) | (go_at_call 73; exact Calls.quiet_of_same (hs_view _ _))))
    go_wp2
    go_ret
    exact ⟨ret_i64 (by unfold repF; rw [if_pos (Or.inr (Or.inr (Or.inl h3)))]), (by repeat (first | (with_reducible first | exact HB.out | apply below_alloc | apply pw_below_drewN | apply below_drew1) | exact HB.out))⟩
  obtain ⟨hv1, hv2⟩ := inR_iff.1 h3
  by_cases h4 : inR last 0 view = true
  case neg =>
    rw [Bool.not_eq_true] at h4
    go_enter Try.func36, Try.ntmps36
    go_wp2
    go_quiet ((first | (go_at_call 52; exact Calls.quiet_of_same (hs_in _ _ _ _)) | (go_at_call 73; exact Calls.quiet_of_same (hs_view _ _))))
    go_wp2
    go_ret
    exact ⟨ret_i64 (by unfold repF; rw [if_pos (Or.inr (Or.inr (Or.inr h4)))]), (by repeat (first | (with_reducible first | exact HB.out | apply below_alloc | apply pw_below_drewN | apply below_drew1) | exact HB.out))⟩
  have H14 : Aside0 (¬ (inR size 1 5 = false ∨ inR id 0 (size - 1) = false ∨ inR view 0 200 = false ∨ inR last 0 view = false)) := ⟨by rw [h1, h2, h3, h4]; simp⟩
  obtain ⟨lf, hlf⟩ : ∃ lf, lf = logF log := ⟨_, rfl⟩
  have HLF := Aside0.mk hlf
  clear hlf
  by_cases h5 : (lf != 0) = true
  case pos =>
    go_enter Try.func36, Try.ntmps36
    go_wp2
    go_quiet ((first | (go_at_call 52; exact Calls.quiet_of_same (hs_in _ _ _ _)) | (go_at_call 73; exact Calls.quiet_of_same (hs_view _ _))))
    go_wp2_with (go_at_call 74; rw [HN5.out]; ((with_reducible refine (hs_LogFault0 _ _ _ _ _ (Kd.C_drewN HR5.out _) rfl).mono ?_); rintro e w1 ⟨rfl, hb⟩; rw [← HLF.out]; have n_ := Aside0.mk (below_step (by repeat (first | (with_reducible first | exact HB.out | apply below_alloc | apply pw_below_drewN | apply below_drew1) | exact HB.out)) hb); obtain ⟨hc_, hf_⟩ := bcell hb; clear HB hb; have HB := n_; clear n_))
    go_ret
    exact ⟨ret_i64 (by unfold repF; rw [if_neg H14.out, ← HLF.out, if_pos (bne_iff_ne.1 h5)]), (by repeat (first | (with_reducible first | exact HB.out | apply below_alloc | apply pw_below_drewN | apply below_drew1) | exact HB.out))⟩
  rw [Bool.not_eq_true] at h5
  have H5 : Aside0 (¬ logF log ≠ 0) := ⟨by rw [← HLF.out]; simpa using h5⟩
  by_cases h6 : inR commit 0 n5 = true
  case neg =>
    rw [Bool.not_eq_true] at h6
    go_enter Try.func36, Try.ntmps36
    go_wp2
    go_quiet ((first | (go_at_call 52; exact Calls.quiet_of_same (hs_in _ _ _ _)) | (go_at_call 73; exact Calls.quiet_of_same (hs_view _ _))))
    go_wp2_with (first | (go_at_call 74; rw [HN5.out]; ((with_reducible refine (hs_LogFault0 _ _ _ _ _ (Kd.C_drewN HR5.out _) rfl).mono ?_); rintro e w1 ⟨rfl, hb⟩; rw [← HLF.out, ← HN5.out]; have n_ := Aside0.mk (below_step (by repeat (first | (with_reducible first | exact HB.out | apply below_alloc | apply pw_below_drewN | apply below_drew1) | exact HB.out)) hb); clear HB hb; have HB := n_; clear n_; have HX1 := Aside0.mk (HX.out.below HB.out); have hy0 := HX1.out.zero rfl; have hy1 := HX1.out.get 0 rfl; have hy2 := HX1.out.get 1 rfl; have hy3 := HX1.out.get 2 rfl; have hy4 := HX1.out.get 3 rfl; have hy5 := HX1.out.get 4 rfl; have hy6 := HX1.out.get 5 rfl; have hy7 := HX1.out.get 6 rfl; have hy9 := HX1.out.get 8 rfl)) | (go_at_call 52; refine (hs_in _ _ _ _).mono ?_; rintro e w' ⟨rfl, rfl⟩))
    go_ret
    exact ⟨ret_i64 (by unfold repF; rw [if_neg H14.out, if_neg H5.out, if_pos (by rw [← HN5.out]; exact h6)]), (by repeat (first | (with_reducible first | exact HB.out | apply below_alloc | apply pw_below_drewN | apply below_drew1) | exact HB.out))⟩
  have H6 : Aside0 (¬ inR commit 0 log.length = false) := ⟨by rw [← HN5.out, h6]; simp⟩
  by_cases h7 : norm = true ∧ last ≠ view
  case pos =>
    obtain ⟨rfl, h7⟩ := h7
    have h7b : (last != view) = true := bne_iff_ne.2 h7
    have H7 := Aside0.mk h7
    clear h7
    go_enter Try.func36, Try.ntmps36
    go_wp2
    go_quiet ((first | (go_at_call 52; exact Calls.quiet_of_same (hs_in _ _ _ _)) | (go_at_call 73; exact Calls.quiet_of_same (hs_view _ _))))
    go_wp2_with (first | (go_at_call 74; rw [HN5.out]; ((with_reducible refine (hs_LogFault0 _ _ _ _ _ (Kd.C_drewN HR5.out _) rfl).mono ?_); rintro e w1 ⟨rfl, hb⟩; rw [← HLF.out, ← HN5.out]; have n_ := Aside0.mk (below_step (by repeat (first | (with_reducible first | exact HB.out | apply below_alloc | apply pw_below_drewN | apply below_drew1) | exact HB.out)) hb); clear HB hb; have HB := n_; clear n_; have HX1 := Aside0.mk (HX.out.below HB.out); have hy0 := HX1.out.zero rfl; have hy1 := HX1.out.get 0 rfl; have hy2 := HX1.out.get 1 rfl; have hy3 := HX1.out.get 2 rfl; have hy4 := HX1.out.get 3 rfl; have hy5 := HX1.out.get 4 rfl; have hy6 := HX1.out.get 5 rfl; have hy7 := HX1.out.get 6 rfl; have hy9 := HX1.out.get 8 rfl)) | (go_at_call 52; refine (hs_in _ _ _ _).mono ?_; rintro e w' ⟨rfl, rfl⟩))
    go_quiet (fail)
    go_wp2
    go_ret
    exact ⟨ret_i64 (by unfold repF; rw [if_neg H14.out, if_neg H5.out, if_neg H6.out, if_pos (Or.inl ⟨rfl, H7.out⟩)]), (by repeat (first | (with_reducible first | exact HB.out | apply below_alloc | apply pw_below_drewN | apply below_drew1) | exact HB.out))⟩
  have H7 := Aside0.mk h7
  have h7c : norm = false ∨ (norm = true ∧ (last != view) = false) := by
    cases norm with
    | false => exact Or.inl rfl
    | true => exact Or.inr ⟨rfl, by simpa using h7⟩
  clear h7
  by_cases h8 : sizesB id size view norm n7 n8 n9 = true
  case neg =>
    rw [Bool.not_eq_true] at h8
    have H8 : Aside0 (sizesB id size view norm oks.length n8 doers.length = false) := ⟨by rw [← HN7.out, ← HN9.out]; exact h8⟩
    rcases h7c with rfl | ⟨rfl, h7b⟩
    all_goals
      go_enter Try.func36, Try.ntmps36
      go_wp2
      go_quiet ((first | (go_at_call 52; exact Calls.quiet_of_same (hs_in _ _ _ _)) | (go_at_call 73; exact Calls.quiet_of_same (hs_view _ _))))
      go_wp2_with (first | (go_at_call 74; rw [HN5.out]; ((with_reducible refine (hs_LogFault0 _ _ _ _ _ (Kd.C_drewN HR5.out _) rfl).mono ?_); rintro e w1 ⟨rfl, hb⟩; rw [← HLF.out, ← HN5.out]; have n_ := Aside0.mk (below_step (by repeat (first | (with_reducible first | exact HB.out | apply below_alloc | apply pw_below_drewN | apply below_drew1) | exact HB.out)) hb); clear HB hb; have HB := n_; clear n_; have HX1 := Aside0.mk (HX.out.below HB.out); have hy0 := HX1.out.zero rfl; have hy1 := HX1.out.get 0 rfl; have hy2 := HX1.out.get 1 rfl; have hy3 := HX1.out.get 2 rfl; have hy4 := HX1.out.get 3 rfl; have hy5 := HX1.out.get 4 rfl; have hy6 := HX1.out.get 5 rfl; have hy7 := HX1.out.get 6 rfl; have hy9 := HX1.out.get 8 rfl)) | (go_at_call 52; refine (hs_in _ _ _ _).mono ?_; rintro e w' ⟨rfl, rfl⟩))
      go_quiet ((go_at_call 75; exact Calls.quiet_of (hs_l9Sizes _ _ _ _ _ _ _ _ _ _ _ _ _ _ _ _ _ _ (HX1.out.drewN _) hs1 hs2 hv1 hv2)))
      go_wp2
      go_ret
      exact ⟨ret_i64 (by unfold repF; rw [if_neg H14.out, if_neg H5.out, if_neg H6.out, if_pos (Or.inr H8.out)]), (by repeat (first | (with_reducible first | exact HB.out | apply below_alloc | apply pw_below_drewN | apply below_drew1) | exact HB.out))⟩
  have hb7 : n7 ≤ 5 ∧ n9 ≤ 5 := by have h := of_decide_eq_true h8; grind
  obtain ⟨hb7, hb9⟩ := hb7
  have H8 : Aside0 (¬ ((norm = true ∧ last ≠ view) ∨ sizesB id size view norm oks.length n8 doers.length = false)) := ⟨by rw [← HN7.out, ← HN9.out, h8]; simpa using H7.out⟩
  have HREP : Aside0 (repF id size view norm last log commit oks n8 doers = if oksB log.length oks = false then 3 else doersF doers) := ⟨by unfold repF; rw [if_neg H14.out, if_neg H5.out, if_neg H6.out, if_neg H8.out]⟩
  clear H8
  rcases h7c with rfl | ⟨rfl, h7b⟩
  all_goals
    go_enter Try.func36, Try.ntmps36
    go_wp2
    go_quiet ((first | (go_at_call 52; exact Calls.quiet_of_same (hs_in _ _ _ _)) | (go_at_call 73; exact Calls.quiet_of_same (hs_view _ _))))
    go_wp2_with (first | (go_at_call 74; rw [HN5.out]; ((with_reducible refine (hs_LogFault0 _ _ _ _ _ (Kd.C_drewN HR5.out _) rfl).mono ?_); rintro e w1 ⟨rfl, hb⟩; rw [← HLF.out, ← HN5.out]; have n_ := Aside0.mk (below_step (by repeat (first | (with_reducible first | exact HB.out | apply below_alloc | apply pw_below_drewN | apply below_drew1) | exact HB.out)) hb); clear HB hb; have HB := n_; clear n_; have HX1 := Aside0.mk (HX.out.below HB.out); have hy0 := HX1.out.zero rfl; have hy1 := HX1.out.get 0 rfl; have hy2 := HX1.out.get 1 rfl; have hy3 := HX1.out.get 2 rfl; have hy4 := HX1.out.get 3 rfl; have hy5 := HX1.out.get 4 rfl; have hy6 := HX1.out.get 5 rfl; have hy7 := HX1.out.get 6 rfl; have hy9 := HX1.out.get 8 rfl)) | (go_at_call 52; refine (hs_in _ _ _ _).mono ?_; rintro e w' ⟨rfl, rfl⟩))
    go_quiet ((go_at_call 75; exact Calls.quiet_of (hs_l9Sizes _ _ _ _ _ _ _ _ _ _ _ _ _ _ _ _ _ _ (HX1.out.drewN _) hs1 hs2 hv1 hv2)))
    go_wp2
    simp only [h8]
    go_loop [5] (fun v => ∃ k : Nat, k ≤ n7 ∧ v = .int .i64 k ∧ Aside0 (oksB n5 oks = oksB n5 (oks.drop k))) (fun v => n7 - (intOf v).toNat)
    case atStart => exact ⟨0, by omega, rfl, ⟨by simp⟩⟩
    case round =>
      obtain ⟨k, hk, rfl, HO⟩ := hrel
      by_cases hlt : k < n7
      · have hl1 : decide ((k : Int) < (n7 : Int)) = true := decide_eq_true (by omega)
        obtain ⟨ad, cs, e1, _, hK, hcell⟩ := Kd.C_get (Kd.C_below HR7.out HB.out) 0 (k : Int) (by omega) (by rw [← HN7.out]; omega)
        cases e1
        have hx : cs = [.int .i64 (oks.getD k 0)] := hK
        subst hx
        have hz0 := hcell 0 _ rfl
        simp only [show (Kd.int .i64).sz = 1 from rfl, Nat.mul_one, Nat.add_zero, Int.toNat_natCast] at hz0
        clear hcell hK
        have HO2 := Aside0.mk (oksB_drop n5 oks k (by rw [← HN7.out]; omega))
        generalize oks.getD k 0 = x at *
        by_cases hb : inR x 0 n5 = true
        · go_wp2_with (go_at_call 52; refine (hs_in _ _ _ _).mono ?_; rintro e w' ⟨rfl, rfl⟩)
          go_round
          case rel => exact ⟨k + 1, by omega, by go_num, ⟨by rw [HO.out, HO2.out, if_pos hb]⟩⟩
          case measure => simp [intOf]; omega
        · have HF := Aside0.mk hb
          rw [Bool.not_eq_true] at hb
          go_wp2_with (go_at_call 52; refine (hs_in _ _ _ _).mono ?_; rintro e w' ⟨rfl, rfl⟩)
          go_ret
          exact ⟨ret_i64 (by rw [HREP.out, if_pos (by rw [← HN5.out, HO.out, HO2.out, if_neg HF.out])]), (by repeat (first | (with_reducible first | exact HB.out | apply below_alloc | apply pw_below_drewN | apply below_drew1) | exact HB.out))⟩
      · have hl1 : decide ((k : Int) < (n7 : Int)) = false := decide_eq_false (by omega)
        have H9 : Aside0 (¬ oksB log.length oks = false) := ⟨by rw [← HN5.out, HO.out, List.drop_eq_nil_of_le (by rw [← HN7.out]; omega)]; simp [oksB]⟩
        go_wp2
        go_loopw [6] (fun v w' => ∃ k : Nat, k ≤ n9 ∧ v = .int .i64 k ∧ Aside0 (doersF doers = doersF (doers.drop k)) ∧ Aside0 (Below w.heap.size w w')) (fun v _ => n9 - (intOf v).toNat)
        case atStart => exact ⟨0, by omega, rfl, ⟨by simp⟩, ⟨(by repeat (first | (with_reducible first | exact HB.out | apply below_alloc | apply pw_below_drewN | apply below_drew1) | exact HB.out))⟩⟩
        case round =>
          clear HB HX1 hy0 hy1 hy2 hy3 hy4 hy5 hy6 hy7 hy9 hlt hl1 HO hk
          obtain ⟨m, hk, rfl, HO, HB⟩ := hrel
          have hz9 := (HX.out.below HB.out).get 8 rfl
          by_cases hlt : m < n9
          · have hl1 : decide ((m : Int) < (n9 : Int)) = true := decide_eq_true (by omega)
            obtain ⟨ad, A2, c2, e1, hd0, hd1, hd2, hd3, hdl, hdr⟩ := at_T70 HR9.out (m : Int) (by omega) (by rw [← HN9.out]; omega)
            cases e1
            simp only [Int.toNat_natCast] at hd0 hd1 hd2 hd3
            have HD := Aside0.mk (doersF_drop doers m (by rw [← HN9.out]; omega))
            replace hd0 := Aside0.mk ((HB.out.cell (World.block_lt_of_cell? w _ hd0)).trans hd0)
            replace hd1 := Aside0.mk ((HB.out.cell (World.block_lt_of_cell? w _ hd1)).trans hd1)
            replace hd2 := Aside0.mk ((HB.out.cell (World.block_lt_of_cell? w _ hd2)).trans hd2)
            replace hd3 := Aside0.mk ((HB.out.cell (World.block_lt_of_cell? w _ hd3)).trans hd3)
            have HDL := Aside0.mk hdl
            have HDR := Aside0.mk (Kd.C_below hdr HB.out)
            clear hdl hdr
            generalize rd_T70 doers (m : Int) = x at *
            obtain ⟨r, hr⟩ : ∃ r, r = doerF x.f0 x.f1 x.f2 x.f3 := ⟨_, rfl⟩
            have HR2 := Aside0.mk hr
            clear hr
            by_cases hz : (r != 0) = true
            · go_wp2_with (go_at_call 76; ((with_reducible refine (hs_l9Doer _ _ _ _ _ _ _ _ _ hd0.out hd1.out hd2.out hd3.out HDR.out rfl).mono ?_); rintro e w1 ⟨rfl, hb⟩; rw [← HR2.out]; have n_ := Aside0.mk (below_step (by repeat (first | (with_reducible first | exact HB.out | apply below_alloc | apply pw_below_drewN | apply below_drew1) | exact HB.out)) hb); clear HB hb; have HB := n_; clear n_))
              go_ret
              exact ⟨ret_i64 (by rw [HREP.out, if_neg H9.out, HO.out, HD.out]; exact HR2.out.trans (if_neg (by rw [← HR2.out]; exact bne_iff_ne.1 hz)).symm), (by repeat (first | (with_reducible first | exact HB.out | apply below_alloc | apply pw_below_drewN | apply below_drew1) | exact HB.out))⟩
            · rw [Bool.not_eq_true] at hz
              have HZ : Aside0 (r = 0) := ⟨by simpa using hz⟩
              go_wp2_with (go_at_call 76; ((with_reducible refine (hs_l9Doer _ _ _ _ _ _ _ _ _ hd0.out hd1.out hd2.out hd3.out HDR.out rfl).mono ?_); rintro e w1 ⟨rfl, hb⟩; rw [← HR2.out]; have n_ := Aside0.mk (below_step (by repeat (first | (with_reducible first | exact HB.out | apply below_alloc | apply pw_below_drewN | apply below_drew1) | exact HB.out)) hb); clear HB hb; have HB := n_; clear n_))
              go_roundw
              case rel => exact ⟨m + 1, by omega, by go_num, ⟨by rw [HO.out, HD.out]; exact if_pos (HR2.out.symm.trans HZ.out)⟩, ⟨(by repeat (first | (with_reducible first | exact HB.out | apply below_alloc | apply pw_below_drewN | apply below_drew1) | exact HB.out))⟩⟩
              case measure => simp [intOf]; omega
          · have hl1 : decide ((m : Int) < (n9 : Int)) = false := decide_eq_false (by omega)
            go_wp2
            go_ret
            exact ⟨ret_i64 (by rw [HREP.out, if_neg H9.out, HO.out, List.drop_eq_nil_of_le (by rw [← HN9.out]; omega)]; rfl), (by repeat (first | (with_reducible first | exact HB.out | apply below_alloc | apply pw_below_drewN | apply below_drew1) | exact HB.out))⟩

def q_spec_l9Fault.f (a0_0 : Int) (a0_1 : Int) (a0_2 : Int) (a0_3 : Bool) (a0_4 : Int) (l0_5 : List (S95)) (a0_6 : Int) (l0_7 : List Int) (l0_8 : List Bool) (l0_9 : List (S70)) : Option (Int) := some (repF a0_0 a0_1 a0_2 a0_3 a0_4 l0_5 a0_6 l0_7 l0_8.length l0_9)
theorem q_spec_l9Fault.calls (p0 : Addr) (a0_0 : Int) (a0_1 : Int) (a0_2 : Int) (a0_3 : Bool) (a0_4 : Int) (A0_5 : Option Addr) (c0_5 : Nat) (l0_5 : List (S95)) (a0_6 : Int) (A0_7 : Option Addr) (c0_7 : Nat) (l0_7 : List Int) (A0_8 : Option Addr) (c0_8 : Nat) (l0_8 : List Bool) (A0_9 : Option Addr) (c0_9 : Nat) (l0_9 : List (S70)) (r : Int) (w : World) (hp0 : CellsAt w p0 [.int .i64 a0_0, .int .i64 a0_1, .int .i64 a0_2, .bool a0_3, .int .i64 a0_4, .slice A0_5 l0_5.length c0_5, .int .i64 a0_6, .slice A0_7 l0_7.length c0_7, .slice A0_8 l0_8.length c0_8, .slice A0_9 l0_9.length c0_9]) (hr0_5 : Kd.C k95 w A0_5 l0_5.length l0_5) (hc0_5 : l0_5.length ≤ c0_5) (hr0_7 : Kd.C (Kd.int .i64) w A0_7 l0_7.length l0_7) (hc0_7 : l0_7.length ≤ c0_7) (hr0_8 : Kd.C Kd.bool w A0_8 l0_8.length l0_8) (hc0_8 : l0_8.length ≤ c0_8) (hr0_9 : Kd.C k70 w A0_9 l0_9.length l0_9) (hc0_9 : l0_9.length ≤ c0_9) (h : q_spec_l9Fault.f a0_0 a0_1 a0_2 a0_3 a0_4 l0_5 a0_6 l0_7 l0_8 l0_9 = some r) :
    Calls Try.prog 36 #[.pointer (some p0)] w fun e w' => e = .returned (.int .i64 r) ∧ Below w.heap.size w w' := by
  obtain rfl := Option.some.inj h
  exact hs_l9Fault _ _ _ _ _ _ _ _ _ _ _ _ _ _ _ _ _ _ _ _ _ _ w hp0 rfl rfl rfl hr0_5 hr0_7 hr0_9


end Go.Proofs.Ytajhhmoglfgijaa.PFnExactCountDoers
