/- Functions of the law FnExactSameMachines as Lean functions, and proofs that the calls come to what they tell. -/
import Derived.Test.YtompkmjpikabkaaPFnExactSameMachinesx0
import Derived.Test.YtompkmjpikabkaaPFnExactSameMachinesx2
import Derived.Test.YtompkmjpikabkaaPFnExactSameMachinesx3
import Derived.Test.YtompkmjpikabkaaPFnExactSameMachinesx4
namespace Go.Proofs.Ytompkmjpikabkaa.PFnExactSameMachines
open Go.RowKit Go.Proofs.YtompkmjpikabkaaW.PrintWords Go.Proofs.YtompkmjpikabkaaW.PrintLast Go.Proofs.YtompkmjpikabkaaW.PrintMore
attribute [local go_sem] max2_int min2_int max_two min_two max_three min_three max_four min_four
set_option linter.unusedVariables false
set_option linter.unusedSimpArgs false

attribute [local go_sem high] eqA125 eqA143
/-- Cells from an address on. -/
def CellsAt (w : World) (p : Addr) (vs : List Value) : Prop := ∀ i u, vs[i]? = some u → w.cell? (p.add i) = some u
theorem CellsAt.zero {w : World} {p : Addr} {vs : List Value} (h : CellsAt w p vs) {u : Value} (e : vs[0]? = some u) : w.cell? p = some u := by have := h 0 u e; simpa [Addr.add] using this
theorem CellsAt.get {w : World} {p : Addr} {vs : List Value} (h : CellsAt w p vs) (i : Nat) {u : Value} (e : vs[i + 1]? = some u) : w.cell? ⟨p.block, p.off + (i + 1), none⟩ = some u := by
  have := h (i + 1) u e
  rw [← Nat.zero_add (i + 1), add_field _ _ _ (Nat.succ_pos i)] at this
  simpa [Addr.add] using this
theorem CellsAt.below {w w1 : World} {p : Addr} {vs : List Value} (h : CellsAt w p vs) (hb : Below w.heap.size w w1) : CellsAt w1 p vs := fun i u e => (hb.cell (World.block_lt_of_cell? w _ (h i u e))).trans (h i u e)
theorem CellsAt.of_blk {w : World} {g : Nat} {t : TypeId} {cs : Array Value} (h : w.heap[g]? = some (.cells cs t (0, 0))) : CellsAt w ⟨g, 0, none⟩ cs.toList := by
  intro i u e
  have : (⟨g, 0, none⟩ : Addr).add i = ⟨g, i, none⟩ := by unfold Addr.add; split <;> simp_all
  rw [this, blk_cell h, ← Array.getElem?_toList]
  exact e
theorem CellsAt.drewN {w : World} {p : Addr} {vs : List Value} (h : CellsAt w p vs) (n : Nat) : CellsAt (w.drewN n) p vs := h
/-- A block that was laid and called past. -/
theorem cellsAt_new {w w1 : World} {vs : List Value} {t : TypeId} (hb : Below (w.alloc (.cells vs.toArray t)).heap.size (w.alloc (.cells vs.toArray t)) w1) : CellsAt w1 ⟨w.heap.size, 0, none⟩ vs := by
  have h : CellsAt (w.alloc (.cells vs.toArray t)) ⟨w.heap.size, 0, none⟩ vs.toArray.toList := CellsAt.of_blk (blk_new w _)
  exact h.below hb

/-- Cells from a place in a block on. -/
def CellsF (w : World) (b o : Nat) (vs : List Value) : Prop := ∀ i u, vs[i]? = some u → w.cell? ⟨b, o + i, none⟩ = some u
theorem cf_nil (w : World) (b o : Nat) : CellsF w b o [] := fun i u h => by simp at h
theorem cf_cons {w : World} {b o : Nat} {v : Value} {vs : List Value} (h : w.cell? ⟨b, o, none⟩ = some v) (t : CellsF w b (o + 1) vs) : CellsF w b o (v :: vs) := by
  intro i u hi
  cases i with
  | zero => cases hi; exact h
  | succ i => have := t i u (by simpa using hi); rwa [Nat.add_assoc, Nat.add_comm 1 i] at this
theorem cellsAt_mk {w : World} {p : Addr} {v : Value} {vs : List Value} (h : w.cell? p = some v) (t : CellsF w p.block (p.off + 1) vs) : CellsAt w p (v :: vs) := by
  intro i u hi
  cases i with
  | zero => cases hi; simpa [Addr.add] using h
  | succ i => have := t i u (by simpa using hi); simp only [Addr.add]; rw [if_neg (by omega), ← Nat.add_assoc, Nat.add_right_comm]; exact this
theorem quiet_addD {P : Program} {f : FuncId} {args : Array Value} {w : World} {a n : Nat} {v : Value}
    (h : Calls P f args (w.drewN (a + n)) fun e w' => e = .returned v ∧ ∃ m, w' = (w.drewN (a + n)).drewN m) :
    Calls P f args (w.drewN (a + n)) fun e w'' => e = .returned v ∧ ∃ m, w'' = w.drewN (a + m) :=
  h.mono fun _ _ ⟨he, m, hm⟩ => ⟨he, n + m, by rw [hm, World.drewN_drewN, Nat.add_assoc]⟩
theorem blk_belowR {w w1 : World} {g : Nat} {o : Obj} (hb : Below w.heap.size w w1) (h : w.heap[g]? = some o) : w1.heap[g]? = some o := blk_below h hb
theorem NB_ne {a b : Nat} (h : a ≠ b) : a ≠ b := h
/-- Cells stored one behind the other. -/
def setRow (W : World) (g : Nat) (j : Nat) : List Value → World
  | [] => W
  | u :: us => setRow (W.setCell ⟨g, j, none⟩ u) g (j + 1) us
theorem store_box {P : Program} {ops : Array Oper} {o : Oper} {rest : List Oper} {a : Act} {Q : Exit → Act → World → Prop} {W : World} (g j : Nat) (us : List Value) {t : TypeId} {p : Tmp} {v : Operand} (hgd : o.guard = none) (ho : o.op = .store t (.tmp p) v) (hN : o.dst = none)
    (hrun : (execOp a.eval o).run P W = .ok .skip (setRow W g j us)) (h : ∀ w', w' = setRow W g j us → wpList P ops Q rest a w') : wpList P ops Q (o :: rest) a W := store_event hgd ho hN hrun h

/-! ### spec_SamePools: function 59 -/
mutual
def spec_SamePools.l0 : Nat → (List (S146)) → (List (S143)) → (List (S125)) → (List (S146)) → (List (S143)) → (List (S125)) → Int → Option (Bool)
  | 0, _, _, _, _, _, _, _ => none
  | k + 1, l0_0, l0_1, l0_2, l1_0, l1_1, l1_2, x3 => if x3 < (l0_2.length : Int) then (if 0 ≤ x3 then (if x3 < (l1_2.length : Int) then (if (!(((rd_T125 l0_2 x3).f0) == ((rd_T125 l1_2 x3).f0)) || (!(((rd_T125 l0_2 x3).f1) == ((rd_T125 l1_2 x3).f1)) || (!(((rd_T125 l0_2 x3).f2) == ((rd_T125 l1_2 x3).f2))))) = true then (some false) else (spec_SamePools.l0 k l0_0 l0_1 l0_2 l1_0 l1_1 l1_2 (wrap64 (x3 + 1)))) else (none)) else (none)) else (spec_SamePools.l1 k l0_0 l0_1 l0_2 l1_0 l1_1 l1_2 x3 0)
def spec_SamePools.l1 : Nat → (List (S146)) → (List (S143)) → (List (S125)) → (List (S146)) → (List (S143)) → (List (S125)) → Int → Int → Option (Bool)
  | 0, _, _, _, _, _, _, _, _ => none
  | k + 1, l0_0, l0_1, l0_2, l1_0, l1_1, l1_2, x3, x6 => if x6 < (l0_1.length : Int) then (if 0 ≤ x6 then (if x6 < (l1_1.length : Int) then (if (!(((rd_T143 l0_1 x6).f0) == ((rd_T143 l1_1 x6).f0)) || (!(((rd_T143 l0_1 x6).f1) == ((rd_T143 l1_1 x6).f1)))) = true then (some false) else (spec_SamePools.l1 k l0_0 l0_1 l0_2 l1_0 l1_1 l1_2 x3 (wrap64 (x6 + 1)))) else (none)) else (none)) else (spec_SamePools.l2 k l0_0 l0_1 l0_2 l1_0 l1_1 l1_2 x3 x6 0)
def spec_SamePools.l2 : Nat → (List (S146)) → (List (S143)) → (List (S125)) → (List (S146)) → (List (S143)) → (List (S125)) → Int → Int → Int → Option (Bool)
  | 0, _, _, _, _, _, _, _, _, _ => none
  | k + 1, l0_0, l0_1, l0_2, l1_0, l1_1, l1_2, x3, x6, x9 => if x9 < (l0_0.length : Int) then (if 0 ≤ x9 then (if x9 < (l1_0.length : Int) then (if ((rd_T146 l0_0 x9).f0) = ((rd_T146 l1_0 x9).f0) then (if (((rd_T146 l0_0 x9).f1) == ((rd_T146 l1_0 x9).f1)) = true then ((spec_l5Nums.f k ((rd_T146 l0_0 x9).f2) ((rd_T146 l1_0 x9).f2)).bind fun t12 => (if t12 = true then (spec_SamePools.l2 k l0_0 l0_1 l0_2 l1_0 l1_1 l1_2 x3 x6 (wrap64 (x9 + 1))) else (some false))) else (some false)) else (some false)) else (none)) else (none)) else (some true)
end
def spec_SamePools.f (k : Nat) (l0_0 : List (S146)) (l0_1 : List (S143)) (l0_2 : List (S125)) (l1_0 : List (S146)) (l1_1 : List (S143)) (l1_2 : List (S125)) : Option (Bool) := if (l0_2.length : Int) = (l1_2.length : Int) then (if (l0_0.length : Int) = (l1_0.length : Int) then (if (l0_1.length : Int) = (l1_1.length : Int) then (spec_SamePools.l0 k l0_0 l0_1 l0_2 l1_0 l1_1 l1_2 0) else (some false)) else (some false)) else (some false)
theorem spec_SamePools.mono_l : ∀ k, (∀ y0 y1 y2 y3 y4 y5 y6, LeO (spec_SamePools.l0 k y0 y1 y2 y3 y4 y5 y6) (spec_SamePools.l0 (k + 1) y0 y1 y2 y3 y4 y5 y6)) ∧ (∀ y0 y1 y2 y3 y4 y5 y6 y7, LeO (spec_SamePools.l1 k y0 y1 y2 y3 y4 y5 y6 y7) (spec_SamePools.l1 (k + 1) y0 y1 y2 y3 y4 y5 y6 y7)) ∧ (∀ y0 y1 y2 y3 y4 y5 y6 y7 y8, LeO (spec_SamePools.l2 k y0 y1 y2 y3 y4 y5 y6 y7 y8) (spec_SamePools.l2 (k + 1) y0 y1 y2 y3 y4 y5 y6 y7 y8))
  | 0 => ⟨fun _ _ _ _ _ _ _ r h => by simp [spec_SamePools.l0] at h, fun _ _ _ _ _ _ _ _ r h => by simp [spec_SamePools.l1] at h, fun _ _ _ _ _ _ _ _ _ r h => by simp [spec_SamePools.l2] at h⟩
  | k + 1 => by
    obtain ⟨ih0, ih1, ih2⟩ := spec_SamePools.mono_l k
    refine ⟨?_, ?_, ?_⟩
    · intro y0 y1 y2 y3 y4 y5 y6
      unfold spec_SamePools.l0
      repeat' first
      | (with_reducible exact ih0 _ _ _ _ _ _ _)
      | (with_reducible exact ih1 _ _ _ _ _ _ _ _)
      | (with_reducible exact ih2 _ _ _ _ _ _ _ _ _)
      | (with_reducible exact spec_l5Nums.mono _ _ _)
      | (with_reducible exact LeO.refl _)
      | (with_reducible exact LeO.none _)
      | (with_reducible refine LeO.ite ?_ ?_)
      | (with_reducible refine LeO.bind ?_ (fun _ => ?_))
      | exact ih0 _ _ _ _ _ _ _
      | exact ih1 _ _ _ _ _ _ _ _
      | exact ih2 _ _ _ _ _ _ _ _ _
      | exact spec_l5Nums.mono _ _ _
      | exact LeO.none _
      | refine LeO.ite ?_ ?_
      | refine LeO.bind ?_ (fun _ => ?_)
    · intro y0 y1 y2 y3 y4 y5 y6 y7
      unfold spec_SamePools.l1
      repeat' first
      | (with_reducible exact ih0 _ _ _ _ _ _ _)
      | (with_reducible exact ih1 _ _ _ _ _ _ _ _)
      | (with_reducible exact ih2 _ _ _ _ _ _ _ _ _)
      | (with_reducible exact spec_l5Nums.mono _ _ _)
      | (with_reducible exact LeO.refl _)
      | (with_reducible exact LeO.none _)
      | (with_reducible refine LeO.ite ?_ ?_)
      | (with_reducible refine LeO.bind ?_ (fun _ => ?_))
      | exact ih0 _ _ _ _ _ _ _
      | exact ih1 _ _ _ _ _ _ _ _
      | exact ih2 _ _ _ _ _ _ _ _ _
      | exact spec_l5Nums.mono _ _ _
      | exact LeO.none _
      | refine LeO.ite ?_ ?_
      | refine LeO.bind ?_ (fun _ => ?_)
    · intro y0 y1 y2 y3 y4 y5 y6 y7 y8
      unfold spec_SamePools.l2
      repeat' first
      | (with_reducible exact ih0 _ _ _ _ _ _ _)
      | (with_reducible exact ih1 _ _ _ _ _ _ _ _)
      | (with_reducible exact ih2 _ _ _ _ _ _ _ _ _)
      | (with_reducible exact spec_l5Nums.mono _ _ _)
      | (with_reducible exact LeO.refl _)
      | (with_reducible exact LeO.none _)
      | (with_reducible refine LeO.ite ?_ ?_)
      | (with_reducible refine LeO.bind ?_ (fun _ => ?_))
      | exact ih0 _ _ _ _ _ _ _
      | exact ih1 _ _ _ _ _ _ _ _
      | exact ih2 _ _ _ _ _ _ _ _ _
      | exact spec_l5Nums.mono _ _ _
      | exact LeO.none _
      | refine LeO.ite ?_ ?_
      | refine LeO.bind ?_ (fun _ => ?_)
theorem spec_SamePools.mono : ∀ a0 a1 a2 a3 a4 a5 k, LeO (spec_SamePools.f k a0 a1 a2 a3 a4 a5) (spec_SamePools.f (k + 1) a0 a1 a2 a3 a4 a5) := by
  intro a0 a1 a2 a3 a4 a5 k
  obtain ⟨ih0, ih1, ih2⟩ := spec_SamePools.mono_l k
  unfold spec_SamePools.f
  repeat' first
      | (with_reducible exact ih0 _ _ _ _ _ _ _)
      | (with_reducible exact ih1 _ _ _ _ _ _ _ _)
      | (with_reducible exact ih2 _ _ _ _ _ _ _ _ _)
      | (with_reducible exact spec_l5Nums.mono _ _ _)
      | (with_reducible exact LeO.refl _)
      | (with_reducible exact LeO.none _)
      | (with_reducible refine LeO.ite ?_ ?_)
      | (with_reducible refine LeO.bind ?_ (fun _ => ?_))
      | exact ih0 _ _ _ _ _ _ _
      | exact ih1 _ _ _ _ _ _ _ _
      | exact ih2 _ _ _ _ _ _ _ _ _
      | exact spec_l5Nums.mono _ _ _
      | exact LeO.none _
      | refine LeO.ite ?_ ?_
      | refine LeO.bind ?_ (fun _ => ?_)
set_option maxHeartbeats 8000000 in
set_option maxRecDepth 100000 in
theorem spec_SamePools.calls (k : Nat) (A0_0 : Option Addr) (c0_0 : Nat) (l0_0 : List (S146)) (A0_1 : Option Addr) (c0_1 : Nat) (l0_1 : List (S143)) (A0_2 : Option Addr) (c0_2 : Nat) (l0_2 : List (S125)) (A1_0 : Option Addr) (c1_0 : Nat) (l1_0 : List (S146)) (A1_1 : Option Addr) (c1_1 : Nat) (l1_1 : List (S143)) (A1_2 : Option Addr) (c1_2 : Nat) (l1_2 : List (S125)) (r : Bool) (w : World) (hr0_0 : Kd.C k146 w A0_0 l0_0.length l0_0) (hc0_0 : l0_0.length ≤ c0_0) (hr0_1 : Kd.C k143 w A0_1 l0_1.length l0_1) (hc0_1 : l0_1.length ≤ c0_1) (hr0_2 : Kd.C k125 w A0_2 l0_2.length l0_2) (hc0_2 : l0_2.length ≤ c0_2) (hr1_0 : Kd.C k146 w A1_0 l1_0.length l1_0) (hc1_0 : l1_0.length ≤ c1_0) (hr1_1 : Kd.C k143 w A1_1 l1_1.length l1_1) (hc1_1 : l1_1.length ≤ c1_1) (hr1_2 : Kd.C k125 w A1_2 l1_2.length l1_2) (hc1_2 : l1_2.length ≤ c1_2) (h : spec_SamePools.f k l0_0 l0_1 l0_2 l1_0 l1_1 l1_2 = some r) :
    Calls Try.prog 59 #[.agg #[.slice A0_0 l0_0.length c0_0, .slice A0_1 l0_1.length c0_1, .slice A0_2 l0_2.length c0_2], .agg #[.slice A1_0 l1_0.length c1_0, .slice A1_1 l1_1.length c1_1, .slice A1_2 l1_2.length c1_2]] w fun e w' => e = .returned (.bool r) ∧ Below w.heap.size w w' := by
  have hu55 := Try.underlying55
  have hu57 := Try.underlying57
  have hu125 := Try.underlying125
  have hu143 := Try.underlying143
  have hu146 := Try.underlying146
  have HR0_0 := Aside0.mk hr0_0
  have HC0_0 := Aside0.mk hc0_0
  have HR0_1 := Aside0.mk hr0_1
  have HC0_1 := Aside0.mk hc0_1
  have HR0_2 := Aside0.mk hr0_2
  have HC0_2 := Aside0.mk hc0_2
  have HR1_0 := Aside0.mk hr1_0
  have HC1_0 := Aside0.mk hc1_0
  have HR1_1 := Aside0.mk hr1_1
  have HC1_1 := Aside0.mk hc1_1
  have HR1_2 := Aside0.mk hr1_2
  have HC1_2 := Aside0.mk hc1_2
  clear hr0_0 hc0_0 hr0_1 hc0_1 hr0_2 hc0_2 hr1_0 hc1_0 hr1_1 hc1_1 hr1_2 hc1_2
  have HB := Aside0.mk (Below.refl w.heap.size w)
  have H : (if (l0_2.length : Int) = (l1_2.length : Int) then (if (l0_0.length : Int) = (l1_0.length : Int) then (if (l0_1.length : Int) = (l1_1.length : Int) then (spec_SamePools.l0 k l0_0 l0_1 l0_2 l1_0 l1_1 l1_2 0) else (some false)) else (some false)) else (some false)) = some r := h
  clear h
  go_enter Try.func59, Try.ntmps59
  by_cases c1 : (l0_2.length : Int) = (l1_2.length : Int)
  · rw [if_pos c1] at H
    have c1b0 : ((l0_2.length : Int) == (l1_2.length : Int)) = true := beq_iff_eq.mpr c1
    have c1b1 : ((l0_2.length : Int) != (l1_2.length : Int)) = false := bne_eq_false_iff_eq.mpr c1
    have c1b2 : (l0_2.length == l1_2.length) = true := beq_iff_eq.mpr (by omega)
    clear c1
    by_cases c2 : (l0_0.length : Int) = (l1_0.length : Int)
    · rw [if_pos c2] at H
      have c2b0 : ((l0_0.length : Int) == (l1_0.length : Int)) = true := beq_iff_eq.mpr c2
      have c2b1 : ((l0_0.length : Int) != (l1_0.length : Int)) = false := bne_eq_false_iff_eq.mpr c2
      have c2b2 : (l0_0.length == l1_0.length) = true := beq_iff_eq.mpr (by omega)
      clear c2
      by_cases c3 : (l0_1.length : Int) = (l1_1.length : Int)
      · rw [if_pos c3] at H
        have c3b0 : ((l0_1.length : Int) == (l1_1.length : Int)) = true := beq_iff_eq.mpr c3
        have c3b1 : ((l0_1.length : Int) != (l1_1.length : Int)) = false := bne_eq_false_iff_eq.mpr c3
        have c3b2 : (l0_1.length == l1_1.length) = true := beq_iff_eq.mpr (by omega)
        clear c3
        have H' := Aside0.mk H
        clear H
        go_wp2_with (first | ((with_reducible refine gate_dst (N := 2) rfl ?_); refine box_event ?hg (N := 2) ?hd (cs := #[.slice A0_0 l0_0.length c0_0, .slice A0_1 l0_1.length c0_1, .slice A0_2 l0_2.length c0_2]) (t := 57) ?hr ?_; (case hd => rfl); (case hg => rfl); (case hr => first | (go_simp; done) | (go_simp; rfl)); intro gb1 hg w1001 hbox hb; have n0_ := Aside0.mk (below_step (by repeat (first | (with_reducible first | exact HB.out | apply below_alloc | apply pw_below_drewN | apply below_drew1) | exact HB.out)) hb); have GEgb1 := Aside0.mk ((by rw [hg]; exact (below_size (by repeat (first | (with_reducible first | exact HB.out | apply below_alloc | apply pw_below_drewN | apply below_drew1) | exact HB.out))) : w.heap.size ≤ gb1)); clear HB; have HB := n0_; clear n0_; have BKgb1 := Aside0.mk hbox; have hxgb1_0 : _ = some (.slice A0_0 l0_0.length c0_0 : Value) := (blk_cell BKgb1.out 0).trans rfl; have hfgb1_0 := blk_frozen BKgb1.out 0; have hxgb1_1 : _ = some (.slice A0_1 l0_1.length c0_1 : Value) := (blk_cell BKgb1.out 1).trans rfl; have hfgb1_1 := blk_frozen BKgb1.out 1; have hxgb1_2 : _ = some (.slice A0_2 l0_2.length c0_2 : Value) := (blk_cell BKgb1.out 2).trans rfl; have hfgb1_2 := blk_frozen BKgb1.out 2; clear hb hbox hg) | ((with_reducible refine gate_dst (N := 3) rfl ?_); refine box_event ?hg (N := 3) ?hd (cs := #[.slice A1_0 l1_0.length c1_0, .slice A1_1 l1_1.length c1_1, .slice A1_2 l1_2.length c1_2]) (t := 57) ?hr ?_; (case hd => rfl); (case hg => rfl); (case hr => first | (go_simp; done) | (go_simp; rfl)); intro gb2 hg w1002 hbox hb; have NBgb1_gb2 := Aside0.mk (by rw [hg]; exact Nat.ne_of_lt (blk_lt BKgb1.out) : gb1 ≠ gb2); have n0_ := Aside0.mk (below_step (by repeat (first | (with_reducible first | exact HB.out | apply below_alloc | apply pw_below_drewN | apply below_drew1) | exact HB.out)) hb); have GEgb2 := Aside0.mk ((by rw [hg]; exact (below_size (by repeat (first | (with_reducible first | exact HB.out | apply below_alloc | apply pw_below_drewN | apply below_drew1) | exact HB.out))) : w.heap.size ≤ gb2)); clear HB; have HB := n0_; clear n0_; have n_ := Aside0.mk (blk_belowR hb BKgb1.out); clear BKgb1; have BKgb1 := n_; clear n_; replace hxgb1_0 : _ = some (.slice A0_0 l0_0.length c0_0 : Value) := (blk_cell BKgb1.out 0).trans rfl; replace hfgb1_0 := blk_frozen BKgb1.out 0; replace hxgb1_1 : _ = some (.slice A0_1 l0_1.length c0_1 : Value) := (blk_cell BKgb1.out 1).trans rfl; replace hfgb1_1 := blk_frozen BKgb1.out 1; replace hxgb1_2 : _ = some (.slice A0_2 l0_2.length c0_2 : Value) := (blk_cell BKgb1.out 2).trans rfl; replace hfgb1_2 := blk_frozen BKgb1.out 2; have BKgb2 := Aside0.mk hbox; have hxgb2_0 : _ = some (.slice A1_0 l1_0.length c1_0 : Value) := (blk_cell BKgb2.out 0).trans rfl; have hfgb2_0 := blk_frozen BKgb2.out 0; have hxgb2_1 : _ = some (.slice A1_1 l1_1.length c1_1 : Value) := (blk_cell BKgb2.out 1).trans rfl; have hfgb2_1 := blk_frozen BKgb2.out 1; have hxgb2_2 : _ = some (.slice A1_2 l1_2.length c1_2 : Value) := (blk_cell BKgb2.out 2).trans rfl; have hfgb2_2 := blk_frozen BKgb2.out 2; clear hb hbox hg))
        go_loopg [5] k (fun kq v5 w' => ∃ (x3 : Int), v5 = .int .i64 x3 ∧ Aside0 (spec_SamePools.l0 kq l0_0 l0_1 l0_2 l1_0 l1_1 l1_2 x3 = some r) ∧ Aside0 (kq ≤ k) ∧ Aside0 (w'.heap[gb1]? = some (.cells #[.slice A0_0 l0_0.length c0_0, .slice A0_1 l0_1.length c0_1, .slice A0_2 l0_2.length c0_2] 57 (0, 0))) ∧ Aside0 (w'.heap[gb2]? = some (.cells #[.slice A1_0 l1_0.length c1_0, .slice A1_1 l1_1.length c1_1, .slice A1_2 l1_2.length c1_2] 57 (0, 0))) ∧ Aside0 (Below w.heap.size w w'))
        case atStart => exact ⟨(0), (by first | rfl | (simp; done) | (simp [*]; done)), H', ⟨Nat.le_refl _⟩, ⟨by (with_reducible repeat (first | refine blk_drewN ?_ _ | refine blk_drew ?_ | refine blk_alloc ?_ _)); exact BKgb1.out⟩, ⟨by (with_reducible repeat (first | refine blk_drewN ?_ _ | refine blk_drew ?_ | refine blk_alloc ?_ _)); exact BKgb2.out⟩, ⟨by repeat (first | (with_reducible first | exact HB.out | apply below_alloc | apply pw_below_drewN | apply below_drew1) | exact HB.out)⟩⟩
        case round =>
          clear H'
          obtain ⟨x3, rfl, HA, HK1, BKgb1, BKgb2, HB⟩ := hrel
          cases gk with
          | zero => exact absurd HA.out (by simp [spec_SamePools.l0])
          | succ k1 =>
            have H := HA.out
            clear HA
            simp only [spec_SamePools.l0] at H
            have hxgb1_0 : _ = some (.slice A0_0 l0_0.length c0_0 : Value) := (blk_cell BKgb1.out 0).trans rfl; have hfgb1_0 := blk_frozen BKgb1.out 0; have hxgb1_1 : _ = some (.slice A0_1 l0_1.length c0_1 : Value) := (blk_cell BKgb1.out 1).trans rfl; have hfgb1_1 := blk_frozen BKgb1.out 1; have hxgb1_2 : _ = some (.slice A0_2 l0_2.length c0_2 : Value) := (blk_cell BKgb1.out 2).trans rfl; have hfgb1_2 := blk_frozen BKgb1.out 2
            have hxgb2_0 : _ = some (.slice A1_0 l1_0.length c1_0 : Value) := (blk_cell BKgb2.out 0).trans rfl; have hfgb2_0 := blk_frozen BKgb2.out 0; have hxgb2_1 : _ = some (.slice A1_1 l1_1.length c1_1 : Value) := (blk_cell BKgb2.out 1).trans rfl; have hfgb2_1 := blk_frozen BKgb2.out 1; have hxgb2_2 : _ = some (.slice A1_2 l1_2.length c1_2 : Value) := (blk_cell BKgb2.out 2).trans rfl; have hfgb2_2 := blk_frozen BKgb2.out 2
            by_cases c4 : x3 < (l0_2.length : Int)
            · rw [if_pos c4] at H
              have c4b0 : decide (x3 < (l0_2.length : Int)) = true := decide_eq_true c4
              clear c4
              by_cases c5 : 0 ≤ x3
              · rw [if_pos c5] at H
                have c5b0 : decide (0 ≤ x3) = true := decide_eq_true c5
                clear c5
                by_cases c6 : x3 < (l1_2.length : Int)
                · rw [if_pos c6] at H
                  have c6b0 : decide (x3 < (l1_2.length : Int)) = true := decide_eq_true c6
                  clear c6
                  by_cases c7 : (!(((rd_T125 l0_2 x3).f0) == ((rd_T125 l1_2 x3).f0)) || (!(((rd_T125 l0_2 x3).f1) == ((rd_T125 l1_2 x3).f1)) || (!(((rd_T125 l0_2 x3).f2) == ((rd_T125 l1_2 x3).f2))))) = true
                  · rw [if_pos c7] at H
                    have c7b0 : (!(((rd_T125 l0_2 x3).f0) == ((rd_T125 l1_2 x3).f0)) || (!(((rd_T125 l0_2 x3).f1) == ((rd_T125 l1_2 x3).f1)) || (!(((rd_T125 l0_2 x3).f2) == ((rd_T125 l1_2 x3).f2))))) = true := c7
                    clear c7
                    obtain rfl := Option.some.inj H
                    have p4 : 0 ≤ (x3 : Int) := of_decide_eq_true (by first | (with_reducible assumption) | assumption)
                    have q4 : (x3 : Int) < (l0_2.length : Int) := of_decide_eq_true (by first | (with_reducible assumption) | assumption)
                    obtain ⟨ad4, e4, hx4_0, hx4_1, hx4_2⟩ := at_T125 HR0_2.out x3 p4 q4
                    cases e4
                    have HXhx4_0 := Aside0.mk hx4_0
                    replace hx4_0 := (HB.out.cell (World.block_lt_of_cell? w _ HXhx4_0.out)).trans HXhx4_0.out
                    have HXhx4_1 := Aside0.mk hx4_1
                    replace hx4_1 := (HB.out.cell (World.block_lt_of_cell? w _ HXhx4_1.out)).trans HXhx4_1.out
                    have HXhx4_2 := Aside0.mk hx4_2
                    replace hx4_2 := (HB.out.cell (World.block_lt_of_cell? w _ HXhx4_2.out)).trans HXhx4_2.out
                    replace p4 := eq_true p4
                    replace q4 := eq_true q4
                    have p5 : 0 ≤ (x3 : Int) := of_decide_eq_true (by first | (with_reducible assumption) | assumption)
                    have q5 : (x3 : Int) < (l1_2.length : Int) := of_decide_eq_true (by first | (with_reducible assumption) | assumption)
                    obtain ⟨ad5, e5, hx5_0, hx5_1, hx5_2⟩ := at_T125 HR1_2.out x3 p5 q5
                    cases e5
                    have HXhx5_0 := Aside0.mk hx5_0
                    replace hx5_0 := (HB.out.cell (World.block_lt_of_cell? w _ HXhx5_0.out)).trans HXhx5_0.out
                    have HXhx5_1 := Aside0.mk hx5_1
                    replace hx5_1 := (HB.out.cell (World.block_lt_of_cell? w _ HXhx5_1.out)).trans HXhx5_1.out
                    have HXhx5_2 := Aside0.mk hx5_2
                    replace hx5_2 := (HB.out.cell (World.block_lt_of_cell? w _ HXhx5_2.out)).trans HXhx5_2.out
                    replace p5 := eq_true p5
                    replace q5 := eq_true q5
                    go_wp2_with (fail)
                    repeat (go_quiet (fail); try go_wp2_with (fail))
                    go_ret
                    exact ⟨by first | rfl | (simp <;> rfl) | (simp [*] <;> rfl), by repeat (first | (with_reducible first | exact HB.out | apply below_alloc | apply pw_below_drewN | apply below_drew1 | refine below_set ?_ GEgb1.out | refine below_set ?_ GEgb2.out) | exact HB.out)⟩
                  · rw [if_neg c7] at H
                    have c7b0 : (!(((rd_T125 l0_2 x3).f0) == ((rd_T125 l1_2 x3).f0)) || (!(((rd_T125 l0_2 x3).f1) == ((rd_T125 l1_2 x3).f1)) || (!(((rd_T125 l0_2 x3).f2) == ((rd_T125 l1_2 x3).f2))))) = false := (Bool.eq_false_iff.2 c7)
                    clear c7
                    have H' := Aside0.mk H
                    clear H
                    have p4 : 0 ≤ (x3 : Int) := of_decide_eq_true (by first | (with_reducible assumption) | assumption)
                    have q4 : (x3 : Int) < (l0_2.length : Int) := of_decide_eq_true (by first | (with_reducible assumption) | assumption)
                    obtain ⟨ad4, e4, hx4_0, hx4_1, hx4_2⟩ := at_T125 HR0_2.out x3 p4 q4
                    cases e4
                    have HXhx4_0 := Aside0.mk hx4_0
                    replace hx4_0 := (HB.out.cell (World.block_lt_of_cell? w _ HXhx4_0.out)).trans HXhx4_0.out
                    have HXhx4_1 := Aside0.mk hx4_1
                    replace hx4_1 := (HB.out.cell (World.block_lt_of_cell? w _ HXhx4_1.out)).trans HXhx4_1.out
                    have HXhx4_2 := Aside0.mk hx4_2
                    replace hx4_2 := (HB.out.cell (World.block_lt_of_cell? w _ HXhx4_2.out)).trans HXhx4_2.out
                    replace p4 := eq_true p4
                    replace q4 := eq_true q4
                    have p5 : 0 ≤ (x3 : Int) := of_decide_eq_true (by first | (with_reducible assumption) | assumption)
                    have q5 : (x3 : Int) < (l1_2.length : Int) := of_decide_eq_true (by first | (with_reducible assumption) | assumption)
                    obtain ⟨ad5, e5, hx5_0, hx5_1, hx5_2⟩ := at_T125 HR1_2.out x3 p5 q5
                    cases e5
                    have HXhx5_0 := Aside0.mk hx5_0
                    replace hx5_0 := (HB.out.cell (World.block_lt_of_cell? w _ HXhx5_0.out)).trans HXhx5_0.out
                    have HXhx5_1 := Aside0.mk hx5_1
                    replace hx5_1 := (HB.out.cell (World.block_lt_of_cell? w _ HXhx5_1.out)).trans HXhx5_1.out
                    have HXhx5_2 := Aside0.mk hx5_2
                    replace hx5_2 := (HB.out.cell (World.block_lt_of_cell? w _ HXhx5_2.out)).trans HXhx5_2.out
                    replace p5 := eq_true p5
                    replace q5 := eq_true q5
                    go_wp2_with (fail)
                    repeat (go_quiet (fail); try go_wp2_with (fail))
                    go_roundg k1
                    case measure => have := HK1.out; omega
                    case rel => exact ⟨((wrap64 (x3 + 1))), (by first | rfl | (simp; done) | (simp [*]; done)), H', ⟨by have := HK1.out; omega⟩, ⟨by (with_reducible repeat (first | refine blk_drewN ?_ _ | refine blk_drew ?_ | refine blk_alloc ?_ _)); exact BKgb1.out⟩, ⟨by (with_reducible repeat (first | refine blk_drewN ?_ _ | refine blk_drew ?_ | refine blk_alloc ?_ _)); exact BKgb2.out⟩, ⟨by repeat (first | (with_reducible first | exact HB.out | apply below_alloc | apply pw_below_drewN | apply below_drew1) | exact HB.out)⟩⟩
                · rw [if_neg c6] at H
                  exact absurd H (by simp)
              · rw [if_neg c5] at H
                exact absurd H (by simp)
            · rw [if_neg c4] at H
              have c4b0 : decide (x3 < (l0_2.length : Int)) = false := decide_eq_false c4
              clear c4
              have H' := Aside0.mk H
              clear H
              go_wp2_with (fail)
              go_loopg [6] k1 (fun kq v6 w' => ∃ (x6 : Int), v6 = .int .i64 x6 ∧ Aside0 (spec_SamePools.l1 kq l0_0 l0_1 l0_2 l1_0 l1_1 l1_2 x3 x6 = some r) ∧ Aside0 (kq ≤ k1) ∧ Aside0 (w'.heap[gb1]? = some (.cells #[.slice A0_0 l0_0.length c0_0, .slice A0_1 l0_1.length c0_1, .slice A0_2 l0_2.length c0_2] 57 (0, 0))) ∧ Aside0 (w'.heap[gb2]? = some (.cells #[.slice A1_0 l1_0.length c1_0, .slice A1_1 l1_1.length c1_1, .slice A1_2 l1_2.length c1_2] 57 (0, 0))) ∧ Aside0 (Below w.heap.size w w'))
              case atStart => exact ⟨(0), (by first | rfl | (simp; done) | (simp [*]; done)), H', ⟨Nat.le_refl _⟩, ⟨by (with_reducible repeat (first | refine blk_drewN ?_ _ | refine blk_drew ?_ | refine blk_alloc ?_ _)); exact BKgb1.out⟩, ⟨by (with_reducible repeat (first | refine blk_drewN ?_ _ | refine blk_drew ?_ | refine blk_alloc ?_ _)); exact BKgb2.out⟩, ⟨by repeat (first | (with_reducible first | exact HB.out | apply below_alloc | apply pw_below_drewN | apply below_drew1) | exact HB.out)⟩⟩
              case round =>
                clear H'
                obtain ⟨x6, rfl, HA, HK2, BKgb1, BKgb2, HB⟩ := hrel
                cases gk with
                | zero => exact absurd HA.out (by simp [spec_SamePools.l1])
                | succ k2 =>
                  have H := HA.out
                  clear HA
                  simp only [spec_SamePools.l1] at H
                  have hxgb1_0 : _ = some (.slice A0_0 l0_0.length c0_0 : Value) := (blk_cell BKgb1.out 0).trans rfl; have hfgb1_0 := blk_frozen BKgb1.out 0; have hxgb1_1 : _ = some (.slice A0_1 l0_1.length c0_1 : Value) := (blk_cell BKgb1.out 1).trans rfl; have hfgb1_1 := blk_frozen BKgb1.out 1; have hxgb1_2 : _ = some (.slice A0_2 l0_2.length c0_2 : Value) := (blk_cell BKgb1.out 2).trans rfl; have hfgb1_2 := blk_frozen BKgb1.out 2
                  have hxgb2_0 : _ = some (.slice A1_0 l1_0.length c1_0 : Value) := (blk_cell BKgb2.out 0).trans rfl; have hfgb2_0 := blk_frozen BKgb2.out 0; have hxgb2_1 : _ = some (.slice A1_1 l1_1.length c1_1 : Value) := (blk_cell BKgb2.out 1).trans rfl; have hfgb2_1 := blk_frozen BKgb2.out 1; have hxgb2_2 : _ = some (.slice A1_2 l1_2.length c1_2 : Value) := (blk_cell BKgb2.out 2).trans rfl; have hfgb2_2 := blk_frozen BKgb2.out 2
                  by_cases c8 : x6 < (l0_1.length : Int)
                  · rw [if_pos c8] at H
                    have c8b0 : decide (x6 < (l0_1.length : Int)) = true := decide_eq_true c8
                    clear c8
                    by_cases c9 : 0 ≤ x6
                    · rw [if_pos c9] at H
                      have c9b0 : decide (0 ≤ x6) = true := decide_eq_true c9
                      clear c9
                      by_cases c10 : x6 < (l1_1.length : Int)
                      · rw [if_pos c10] at H
                        have c10b0 : decide (x6 < (l1_1.length : Int)) = true := decide_eq_true c10
                        clear c10
                        by_cases c11 : (!(((rd_T143 l0_1 x6).f0) == ((rd_T143 l1_1 x6).f0)) || (!(((rd_T143 l0_1 x6).f1) == ((rd_T143 l1_1 x6).f1)))) = true
                        · rw [if_pos c11] at H
                          have c11b0 : (!(((rd_T143 l0_1 x6).f0) == ((rd_T143 l1_1 x6).f0)) || (!(((rd_T143 l0_1 x6).f1) == ((rd_T143 l1_1 x6).f1)))) = true := c11
                          clear c11
                          obtain rfl := Option.some.inj H
                          have p7 : 0 ≤ (x6 : Int) := of_decide_eq_true (by first | (with_reducible assumption) | assumption)
                          have q7 : (x6 : Int) < (l0_1.length : Int) := of_decide_eq_true (by first | (with_reducible assumption) | assumption)
                          obtain ⟨ad7, e7, hx7_0, hx7_1⟩ := at_T143 HR0_1.out x6 p7 q7
                          cases e7
                          have HXhx7_0 := Aside0.mk hx7_0
                          replace hx7_0 := (HB.out.cell (World.block_lt_of_cell? w _ HXhx7_0.out)).trans HXhx7_0.out
                          have HXhx7_1 := Aside0.mk hx7_1
                          replace hx7_1 := (HB.out.cell (World.block_lt_of_cell? w _ HXhx7_1.out)).trans HXhx7_1.out
                          replace p7 := eq_true p7
                          replace q7 := eq_true q7
                          have p8 : 0 ≤ (x6 : Int) := of_decide_eq_true (by first | (with_reducible assumption) | assumption)
                          have q8 : (x6 : Int) < (l1_1.length : Int) := of_decide_eq_true (by first | (with_reducible assumption) | assumption)
                          obtain ⟨ad8, e8, hx8_0, hx8_1⟩ := at_T143 HR1_1.out x6 p8 q8
                          cases e8
                          have HXhx8_0 := Aside0.mk hx8_0
                          replace hx8_0 := (HB.out.cell (World.block_lt_of_cell? w _ HXhx8_0.out)).trans HXhx8_0.out
                          have HXhx8_1 := Aside0.mk hx8_1
                          replace hx8_1 := (HB.out.cell (World.block_lt_of_cell? w _ HXhx8_1.out)).trans HXhx8_1.out
                          replace p8 := eq_true p8
                          replace q8 := eq_true q8
                          go_wp2_with (fail)
                          repeat (go_quiet (fail); try go_wp2_with (fail))
                          go_ret
                          exact ⟨by first | rfl | (simp <;> rfl) | (simp [*] <;> rfl), by repeat (first | (with_reducible first | exact HB.out | apply below_alloc | apply pw_below_drewN | apply below_drew1 | refine below_set ?_ GEgb1.out | refine below_set ?_ GEgb2.out) | exact HB.out)⟩
                        · rw [if_neg c11] at H
                          have c11b0 : (!(((rd_T143 l0_1 x6).f0) == ((rd_T143 l1_1 x6).f0)) || (!(((rd_T143 l0_1 x6).f1) == ((rd_T143 l1_1 x6).f1)))) = false := (Bool.eq_false_iff.2 c11)
                          clear c11
                          have H' := Aside0.mk H
                          clear H
                          have p7 : 0 ≤ (x6 : Int) := of_decide_eq_true (by first | (with_reducible assumption) | assumption)
                          have q7 : (x6 : Int) < (l0_1.length : Int) := of_decide_eq_true (by first | (with_reducible assumption) | assumption)
                          obtain ⟨ad7, e7, hx7_0, hx7_1⟩ := at_T143 HR0_1.out x6 p7 q7
                          cases e7
                          have HXhx7_0 := Aside0.mk hx7_0
                          replace hx7_0 := (HB.out.cell (World.block_lt_of_cell? w _ HXhx7_0.out)).trans HXhx7_0.out
                          have HXhx7_1 := Aside0.mk hx7_1
                          replace hx7_1 := (HB.out.cell (World.block_lt_of_cell? w _ HXhx7_1.out)).trans HXhx7_1.out
                          replace p7 := eq_true p7
                          replace q7 := eq_true q7
                          have p8 : 0 ≤ (x6 : Int) := of_decide_eq_true (by first | (with_reducible assumption) | assumption)
                          have q8 : (x6 : Int) < (l1_1.length : Int) := of_decide_eq_true (by first | (with_reducible assumption) | assumption)
                          obtain ⟨ad8, e8, hx8_0, hx8_1⟩ := at_T143 HR1_1.out x6 p8 q8
                          cases e8
                          have HXhx8_0 := Aside0.mk hx8_0
                          replace hx8_0 := (HB.out.cell (World.block_lt_of_cell? w _ HXhx8_0.out)).trans HXhx8_0.out
                          have HXhx8_1 := Aside0.mk hx8_1
                          replace hx8_1 := (HB.out.cell (World.block_lt_of_cell? w _ HXhx8_1.out)).trans HXhx8_1.out
                          replace p8 := eq_true p8
                          replace q8 := eq_true q8
                          go_wp2_with (fail)
                          repeat (go_quiet (fail); try go_wp2_with (fail))
                          go_roundg k2
                          case measure => have := HK1.out; have := HK2.out; omega
                          case rel => exact ⟨((wrap64 (x6 + 1))), (by first | rfl | (simp; done) | (simp [*]; done)), H', ⟨by have := HK1.out; have := HK2.out; omega⟩, ⟨by (with_reducible repeat (first | refine blk_drewN ?_ _ | refine blk_drew ?_ | refine blk_alloc ?_ _)); exact BKgb1.out⟩, ⟨by (with_reducible repeat (first | refine blk_drewN ?_ _ | refine blk_drew ?_ | refine blk_alloc ?_ _)); exact BKgb2.out⟩, ⟨by repeat (first | (with_reducible first | exact HB.out | apply below_alloc | apply pw_below_drewN | apply below_drew1) | exact HB.out)⟩⟩
                      · rw [if_neg c10] at H
                        exact absurd H (by simp)
                    · rw [if_neg c9] at H
                      exact absurd H (by simp)
                  · rw [if_neg c8] at H
                    have c8b0 : decide (x6 < (l0_1.length : Int)) = false := decide_eq_false c8
                    clear c8
                    have H' := Aside0.mk H
                    clear H
                    go_wp2_with (fail)
                    go_loopg [7] k2 (fun kq v7 w' => ∃ (x9 : Int), v7 = .int .i64 x9 ∧ Aside0 (spec_SamePools.l2 kq l0_0 l0_1 l0_2 l1_0 l1_1 l1_2 x3 x6 x9 = some r) ∧ Aside0 (kq ≤ k2) ∧ Aside0 (w'.heap[gb1]? = some (.cells #[.slice A0_0 l0_0.length c0_0, .slice A0_1 l0_1.length c0_1, .slice A0_2 l0_2.length c0_2] 57 (0, 0))) ∧ Aside0 (w'.heap[gb2]? = some (.cells #[.slice A1_0 l1_0.length c1_0, .slice A1_1 l1_1.length c1_1, .slice A1_2 l1_2.length c1_2] 57 (0, 0))) ∧ Aside0 (Below w.heap.size w w'))
                    case atStart => exact ⟨(0), (by first | rfl | (simp; done) | (simp [*]; done)), H', ⟨Nat.le_refl _⟩, ⟨by (with_reducible repeat (first | refine blk_drewN ?_ _ | refine blk_drew ?_ | refine blk_alloc ?_ _)); exact BKgb1.out⟩, ⟨by (with_reducible repeat (first | refine blk_drewN ?_ _ | refine blk_drew ?_ | refine blk_alloc ?_ _)); exact BKgb2.out⟩, ⟨by repeat (first | (with_reducible first | exact HB.out | apply below_alloc | apply pw_below_drewN | apply below_drew1) | exact HB.out)⟩⟩
                    case round =>
                      clear H'
                      obtain ⟨x9, rfl, HA, HK3, BKgb1, BKgb2, HB⟩ := hrel
                      cases gk with
                      | zero => exact absurd HA.out (by simp [spec_SamePools.l2])
                      | succ k3 =>
                        have H := HA.out
                        clear HA
                        simp only [spec_SamePools.l2] at H
                        have hxgb1_0 : _ = some (.slice A0_0 l0_0.length c0_0 : Value) := (blk_cell BKgb1.out 0).trans rfl; have hfgb1_0 := blk_frozen BKgb1.out 0; have hxgb1_1 : _ = some (.slice A0_1 l0_1.length c0_1 : Value) := (blk_cell BKgb1.out 1).trans rfl; have hfgb1_1 := blk_frozen BKgb1.out 1; have hxgb1_2 : _ = some (.slice A0_2 l0_2.length c0_2 : Value) := (blk_cell BKgb1.out 2).trans rfl; have hfgb1_2 := blk_frozen BKgb1.out 2
                        have hxgb2_0 : _ = some (.slice A1_0 l1_0.length c1_0 : Value) := (blk_cell BKgb2.out 0).trans rfl; have hfgb2_0 := blk_frozen BKgb2.out 0; have hxgb2_1 : _ = some (.slice A1_1 l1_1.length c1_1 : Value) := (blk_cell BKgb2.out 1).trans rfl; have hfgb2_1 := blk_frozen BKgb2.out 1; have hxgb2_2 : _ = some (.slice A1_2 l1_2.length c1_2 : Value) := (blk_cell BKgb2.out 2).trans rfl; have hfgb2_2 := blk_frozen BKgb2.out 2
                        by_cases c12 : x9 < (l0_0.length : Int)
                        · rw [if_pos c12] at H
                          have c12b0 : decide (x9 < (l0_0.length : Int)) = true := decide_eq_true c12
                          clear c12
                          by_cases c13 : 0 ≤ x9
                          · rw [if_pos c13] at H
                            have c13b0 : decide (0 ≤ x9) = true := decide_eq_true c13
                            clear c13
                            by_cases c14 : x9 < (l1_0.length : Int)
                            · rw [if_pos c14] at H
                              have c14b0 : decide (x9 < (l1_0.length : Int)) = true := decide_eq_true c14
                              clear c14
                              by_cases c15 : ((rd_T146 l0_0 x9).f0) = ((rd_T146 l1_0 x9).f0)
                              · rw [if_pos c15] at H
                                have c15b0 : (((rd_T146 l0_0 x9).f0) == ((rd_T146 l1_0 x9).f0)) = true := beq_iff_eq.mpr c15
                                have c15b1 : (((rd_T146 l0_0 x9).f0) != ((rd_T146 l1_0 x9).f0)) = false := bne_eq_false_iff_eq.mpr c15
                                clear c15
                                by_cases c16 : (((rd_T146 l0_0 x9).f1) == ((rd_T146 l1_0 x9).f1)) = true
                                · rw [if_pos c16] at H
                                  have c16b0 : (((rd_T146 l0_0 x9).f1) == ((rd_T146 l1_0 x9).f1)) = true := c16
                                  have c16b1 : (((rd_T146 l0_0 x9).f1) != ((rd_T146 l1_0 x9).f1)) = false := congrArg (fun b => !b) c16
                                  clear c16
                                  replace H := Option.bind_eq_some_iff.mp H
                                  obtain ⟨t12, A130, H⟩ := H
                                  replace H : (if t12 = true then (spec_SamePools.l2 k3 l0_0 l0_1 l0_2 l1_0 l1_1 l1_2 x3 x6 (wrap64 (x9 + 1))) else (some false)) = some r := H
                                  have A13 := Aside0.mk A130
                                  clear A130
                                  by_cases c17 : t12 = true
                                  · rw [if_pos c17] at H
                                    have c17b0 : t12 = true := c17
                                    try clear c17
                                    have H' := Aside0.mk H
                                    clear H
                                    have p10 : 0 ≤ (x9 : Int) := of_decide_eq_true (by first | (with_reducible assumption) | assumption)
                                    have q10 : (x9 : Int) < (l0_0.length : Int) := of_decide_eq_true (by first | (with_reducible assumption) | assumption)
                                    obtain ⟨ad10, A10_2, c10_2, e10, hx10_0, hx10_1, hx10_2, hl10_2, hi10_2⟩ := at_T146 HR0_0.out x9 p10 q10
                                    cases e10
                                    have HXhx10_0 := Aside0.mk hx10_0
                                    replace hx10_0 := (HB.out.cell (World.block_lt_of_cell? w _ HXhx10_0.out)).trans HXhx10_0.out
                                    have HXhx10_1 := Aside0.mk hx10_1
                                    replace hx10_1 := (HB.out.cell (World.block_lt_of_cell? w _ HXhx10_1.out)).trans HXhx10_1.out
                                    have HXhx10_2 := Aside0.mk hx10_2
                                    replace hx10_2 := (HB.out.cell (World.block_lt_of_cell? w _ HXhx10_2.out)).trans HXhx10_2.out
                                    have HR10_2 := Aside0.mk hi10_2
                                    have HC10_2 := Aside0.mk hl10_2
                                    clear hi10_2 hl10_2
                                    replace p10 := eq_true p10
                                    replace q10 := eq_true q10
                                    have p11 : 0 ≤ (x9 : Int) := of_decide_eq_true (by first | (with_reducible assumption) | assumption)
                                    have q11 : (x9 : Int) < (l1_0.length : Int) := of_decide_eq_true (by first | (with_reducible assumption) | assumption)
                                    obtain ⟨ad11, A11_2, c11_2, e11, hx11_0, hx11_1, hx11_2, hl11_2, hi11_2⟩ := at_T146 HR1_0.out x9 p11 q11
                                    cases e11
                                    have HXhx11_0 := Aside0.mk hx11_0
                                    replace hx11_0 := (HB.out.cell (World.block_lt_of_cell? w _ HXhx11_0.out)).trans HXhx11_0.out
                                    have HXhx11_1 := Aside0.mk hx11_1
                                    replace hx11_1 := (HB.out.cell (World.block_lt_of_cell? w _ HXhx11_1.out)).trans HXhx11_1.out
                                    have HXhx11_2 := Aside0.mk hx11_2
                                    replace hx11_2 := (HB.out.cell (World.block_lt_of_cell? w _ HXhx11_2.out)).trans HXhx11_2.out
                                    have HR11_2 := Aside0.mk hi11_2
                                    have HC11_2 := Aside0.mk hl11_2
                                    clear hi11_2 hl11_2
                                    replace p11 := eq_true p11
                                    replace q11 := eq_true q11
                                    go_wp2_with (fail)
                                    repeat (go_quiet ((first | (go_at_call 82; (with_reducible first | refine Calls.quiet_of ((spec_l5Nums.calls k3 A10_2 c10_2 ((rd_T146 l0_0 x9).f2) A11_2 c11_2 ((rd_T146 l1_0 x9).f2) t12 _ ?side1 ?side2 ?side3 ?side4 A13.out).mono fun _ _ h_ => ⟨h_.1, h_.2.out⟩) | refine quiet_addD ((spec_l5Nums.calls k3 A10_2 c10_2 ((rd_T146 l0_0 x9).f2) A11_2 c11_2 ((rd_T146 l1_0 x9).f2) t12 _ ?side1 ?side2 ?side3 ?side4 A13.out).mono fun _ _ h_ => ⟨h_.1, h_.2.out⟩)); (case side1 => repeat (first | exact (Kd.C_below HR10_2.out HB.out) | (with_reducible refine Kd.C_alloc ?_ _) | (with_reducible refine Kd.C_drewN ?_ _) | (with_reducible refine Kd.C_drew ?_))); (case side2 => exact HC10_2.out); (case side3 => repeat (first | exact (Kd.C_below HR11_2.out HB.out) | (with_reducible refine Kd.C_alloc ?_ _) | (with_reducible refine Kd.C_drewN ?_ _) | (with_reducible refine Kd.C_drew ?_))); (case side4 => exact HC11_2.out)))); try go_wp2_with (fail))
                                    go_roundg k3
                                    case measure => have := HK1.out; have := HK2.out; have := HK3.out; omega
                                    case rel => exact ⟨((wrap64 (x9 + 1))), (by first | rfl | (simp; done) | (simp [*]; done)), H', ⟨by have := HK1.out; have := HK2.out; have := HK3.out; omega⟩, ⟨by (with_reducible repeat (first | refine blk_drewN ?_ _ | refine blk_drew ?_ | refine blk_alloc ?_ _)); exact BKgb1.out⟩, ⟨by (with_reducible repeat (first | refine blk_drewN ?_ _ | refine blk_drew ?_ | refine blk_alloc ?_ _)); exact BKgb2.out⟩, ⟨by repeat (first | (with_reducible first | exact HB.out | apply below_alloc | apply pw_below_drewN | apply below_drew1) | exact HB.out)⟩⟩
                                  · rw [if_neg c17] at H
                                    have c17b0 : t12 = false := (Bool.eq_false_iff.2 c17)
                                    try clear c17
                                    obtain rfl := Option.some.inj H
                                    have p10 : 0 ≤ (x9 : Int) := of_decide_eq_true (by first | (with_reducible assumption) | assumption)
                                    have q10 : (x9 : Int) < (l0_0.length : Int) := of_decide_eq_true (by first | (with_reducible assumption) | assumption)
                                    obtain ⟨ad10, A10_2, c10_2, e10, hx10_0, hx10_1, hx10_2, hl10_2, hi10_2⟩ := at_T146 HR0_0.out x9 p10 q10
                                    cases e10
                                    have HXhx10_0 := Aside0.mk hx10_0
                                    replace hx10_0 := (HB.out.cell (World.block_lt_of_cell? w _ HXhx10_0.out)).trans HXhx10_0.out
                                    have HXhx10_1 := Aside0.mk hx10_1
                                    replace hx10_1 := (HB.out.cell (World.block_lt_of_cell? w _ HXhx10_1.out)).trans HXhx10_1.out
                                    have HXhx10_2 := Aside0.mk hx10_2
                                    replace hx10_2 := (HB.out.cell (World.block_lt_of_cell? w _ HXhx10_2.out)).trans HXhx10_2.out
                                    have HR10_2 := Aside0.mk hi10_2
                                    have HC10_2 := Aside0.mk hl10_2
                                    clear hi10_2 hl10_2
                                    replace p10 := eq_true p10
                                    replace q10 := eq_true q10
                                    have p11 : 0 ≤ (x9 : Int) := of_decide_eq_true (by first | (with_reducible assumption) | assumption)
                                    have q11 : (x9 : Int) < (l1_0.length : Int) := of_decide_eq_true (by first | (with_reducible assumption) | assumption)
                                    obtain ⟨ad11, A11_2, c11_2, e11, hx11_0, hx11_1, hx11_2, hl11_2, hi11_2⟩ := at_T146 HR1_0.out x9 p11 q11
                                    cases e11
                                    have HXhx11_0 := Aside0.mk hx11_0
                                    replace hx11_0 := (HB.out.cell (World.block_lt_of_cell? w _ HXhx11_0.out)).trans HXhx11_0.out
                                    have HXhx11_1 := Aside0.mk hx11_1
                                    replace hx11_1 := (HB.out.cell (World.block_lt_of_cell? w _ HXhx11_1.out)).trans HXhx11_1.out
                                    have HXhx11_2 := Aside0.mk hx11_2
                                    replace hx11_2 := (HB.out.cell (World.block_lt_of_cell? w _ HXhx11_2.out)).trans HXhx11_2.out
                                    have HR11_2 := Aside0.mk hi11_2
                                    have HC11_2 := Aside0.mk hl11_2
                                    clear hi11_2 hl11_2
                                    replace p11 := eq_true p11
                                    replace q11 := eq_true q11
                                    go_wp2_with (fail)
                                    repeat (go_quiet ((first | (go_at_call 82; (with_reducible first | refine Calls.quiet_of ((spec_l5Nums.calls k3 A10_2 c10_2 ((rd_T146 l0_0 x9).f2) A11_2 c11_2 ((rd_T146 l1_0 x9).f2) t12 _ ?side1 ?side2 ?side3 ?side4 A13.out).mono fun _ _ h_ => ⟨h_.1, h_.2.out⟩) | refine quiet_addD ((spec_l5Nums.calls k3 A10_2 c10_2 ((rd_T146 l0_0 x9).f2) A11_2 c11_2 ((rd_T146 l1_0 x9).f2) t12 _ ?side1 ?side2 ?side3 ?side4 A13.out).mono fun _ _ h_ => ⟨h_.1, h_.2.out⟩)); (case side1 => repeat (first | exact (Kd.C_below HR10_2.out HB.out) | (with_reducible refine Kd.C_alloc ?_ _) | (with_reducible refine Kd.C_drewN ?_ _) | (with_reducible refine Kd.C_drew ?_))); (case side2 => exact HC10_2.out); (case side3 => repeat (first | exact (Kd.C_below HR11_2.out HB.out) | (with_reducible refine Kd.C_alloc ?_ _) | (with_reducible refine Kd.C_drewN ?_ _) | (with_reducible refine Kd.C_drew ?_))); (case side4 => exact HC11_2.out)))); try go_wp2_with (fail))
                                    go_ret
                                    exact ⟨by first | rfl | (simp <;> rfl) | (simp [*] <;> rfl), by repeat (first | (with_reducible first | exact HB.out | apply below_alloc | apply pw_below_drewN | apply below_drew1 | refine below_set ?_ GEgb1.out | refine below_set ?_ GEgb2.out) | exact HB.out)⟩
                                · rw [if_neg c16] at H
                                  have c16b0 : (((rd_T146 l0_0 x9).f1) == ((rd_T146 l1_0 x9).f1)) = false := (Bool.eq_false_iff.2 c16)
                                  have c16b1 : (((rd_T146 l0_0 x9).f1) != ((rd_T146 l1_0 x9).f1)) = true := congrArg (fun b => !b) (Bool.eq_false_iff.2 c16)
                                  clear c16
                                  obtain rfl := Option.some.inj H
                                  have p10 : 0 ≤ (x9 : Int) := of_decide_eq_true (by first | (with_reducible assumption) | assumption)
                                  have q10 : (x9 : Int) < (l0_0.length : Int) := of_decide_eq_true (by first | (with_reducible assumption) | assumption)
                                  obtain ⟨ad10, A10_2, c10_2, e10, hx10_0, hx10_1, hx10_2, hl10_2, hi10_2⟩ := at_T146 HR0_0.out x9 p10 q10
                                  cases e10
                                  have HXhx10_0 := Aside0.mk hx10_0
                                  replace hx10_0 := (HB.out.cell (World.block_lt_of_cell? w _ HXhx10_0.out)).trans HXhx10_0.out
                                  have HXhx10_1 := Aside0.mk hx10_1
                                  replace hx10_1 := (HB.out.cell (World.block_lt_of_cell? w _ HXhx10_1.out)).trans HXhx10_1.out
                                  have HXhx10_2 := Aside0.mk hx10_2
                                  replace hx10_2 := (HB.out.cell (World.block_lt_of_cell? w _ HXhx10_2.out)).trans HXhx10_2.out
                                  have HR10_2 := Aside0.mk hi10_2
                                  have HC10_2 := Aside0.mk hl10_2
                                  clear hi10_2 hl10_2
                                  replace p10 := eq_true p10
                                  replace q10 := eq_true q10
                                  have p11 : 0 ≤ (x9 : Int) := of_decide_eq_true (by first | (with_reducible assumption) | assumption)
                                  have q11 : (x9 : Int) < (l1_0.length : Int) := of_decide_eq_true (by first | (with_reducible assumption) | assumption)
                                  obtain ⟨ad11, A11_2, c11_2, e11, hx11_0, hx11_1, hx11_2, hl11_2, hi11_2⟩ := at_T146 HR1_0.out x9 p11 q11
                                  cases e11
                                  have HXhx11_0 := Aside0.mk hx11_0
                                  replace hx11_0 := (HB.out.cell (World.block_lt_of_cell? w _ HXhx11_0.out)).trans HXhx11_0.out
                                  have HXhx11_1 := Aside0.mk hx11_1
                                  replace hx11_1 := (HB.out.cell (World.block_lt_of_cell? w _ HXhx11_1.out)).trans HXhx11_1.out
                                  have HXhx11_2 := Aside0.mk hx11_2
                                  replace hx11_2 := (HB.out.cell (World.block_lt_of_cell? w _ HXhx11_2.out)).trans HXhx11_2.out
                                  have HR11_2 := Aside0.mk hi11_2
                                  have HC11_2 := Aside0.mk hl11_2
                                  clear hi11_2 hl11_2
                                  replace p11 := eq_true p11
                                  replace q11 := eq_true q11
                                  go_wp2_with (fail)
                                  repeat (go_quiet (fail); try go_wp2_with (fail))
                                  go_ret
                                  exact ⟨by first | rfl | (simp <;> rfl) | (simp [*] <;> rfl), by repeat (first | (with_reducible first | exact HB.out | apply below_alloc | apply pw_below_drewN | apply below_drew1 | refine below_set ?_ GEgb1.out | refine below_set ?_ GEgb2.out) | exact HB.out)⟩
                              · rw [if_neg c15] at H
                                have c15b0 : (((rd_T146 l0_0 x9).f0) == ((rd_T146 l1_0 x9).f0)) = false := beq_eq_false_iff_ne.mpr c15
                                have c15b1 : (((rd_T146 l0_0 x9).f0) != ((rd_T146 l1_0 x9).f0)) = true := bne_iff_ne.mpr c15
                                obtain rfl := Option.some.inj H
                                have p10 : 0 ≤ (x9 : Int) := of_decide_eq_true (by first | (with_reducible assumption) | assumption)
                                have q10 : (x9 : Int) < (l0_0.length : Int) := of_decide_eq_true (by first | (with_reducible assumption) | assumption)
                                obtain ⟨ad10, A10_2, c10_2, e10, hx10_0, hx10_1, hx10_2, hl10_2, hi10_2⟩ := at_T146 HR0_0.out x9 p10 q10
                                cases e10
                                have HXhx10_0 := Aside0.mk hx10_0
                                replace hx10_0 := (HB.out.cell (World.block_lt_of_cell? w _ HXhx10_0.out)).trans HXhx10_0.out
                                have HXhx10_1 := Aside0.mk hx10_1
                                replace hx10_1 := (HB.out.cell (World.block_lt_of_cell? w _ HXhx10_1.out)).trans HXhx10_1.out
                                have HXhx10_2 := Aside0.mk hx10_2
                                replace hx10_2 := (HB.out.cell (World.block_lt_of_cell? w _ HXhx10_2.out)).trans HXhx10_2.out
                                have HR10_2 := Aside0.mk hi10_2
                                have HC10_2 := Aside0.mk hl10_2
                                clear hi10_2 hl10_2
                                replace p10 := eq_true p10
                                replace q10 := eq_true q10
                                have p11 : 0 ≤ (x9 : Int) := of_decide_eq_true (by first | (with_reducible assumption) | assumption)
                                have q11 : (x9 : Int) < (l1_0.length : Int) := of_decide_eq_true (by first | (with_reducible assumption) | assumption)
                                obtain ⟨ad11, A11_2, c11_2, e11, hx11_0, hx11_1, hx11_2, hl11_2, hi11_2⟩ := at_T146 HR1_0.out x9 p11 q11
                                cases e11
                                have HXhx11_0 := Aside0.mk hx11_0
                                replace hx11_0 := (HB.out.cell (World.block_lt_of_cell? w _ HXhx11_0.out)).trans HXhx11_0.out
                                have HXhx11_1 := Aside0.mk hx11_1
                                replace hx11_1 := (HB.out.cell (World.block_lt_of_cell? w _ HXhx11_1.out)).trans HXhx11_1.out
                                have HXhx11_2 := Aside0.mk hx11_2
                                replace hx11_2 := (HB.out.cell (World.block_lt_of_cell? w _ HXhx11_2.out)).trans HXhx11_2.out
                                have HR11_2 := Aside0.mk hi11_2
                                have HC11_2 := Aside0.mk hl11_2
                                clear hi11_2 hl11_2
                                replace p11 := eq_true p11
                                replace q11 := eq_true q11
                                go_wp2_with (fail)
                                repeat (go_quiet (fail); try go_wp2_with (fail))
                                go_ret
                                exact ⟨by first | rfl | (simp <;> rfl) | (simp [*] <;> rfl), by repeat (first | (with_reducible first | exact HB.out | apply below_alloc | apply pw_below_drewN | apply below_drew1 | refine below_set ?_ GEgb1.out | refine below_set ?_ GEgb2.out) | exact HB.out)⟩
                            · rw [if_neg c14] at H
                              exact absurd H (by simp)
                          · rw [if_neg c13] at H
                            exact absurd H (by simp)
                        · rw [if_neg c12] at H
                          have c12b0 : decide (x9 < (l0_0.length : Int)) = false := decide_eq_false c12
                          clear c12
                          obtain rfl := Option.some.inj H
                          go_wp2_with (fail)
                          go_ret
                          exact ⟨by first | rfl | (simp <;> rfl) | (simp [*] <;> rfl), by repeat (first | (with_reducible first | exact HB.out | apply below_alloc | apply pw_below_drewN | apply below_drew1 | refine below_set ?_ GEgb1.out | refine below_set ?_ GEgb2.out) | exact HB.out)⟩
      · rw [if_neg c3] at H
        have c3b0 : ((l0_1.length : Int) == (l1_1.length : Int)) = false := beq_eq_false_iff_ne.mpr c3
        have c3b1 : ((l0_1.length : Int) != (l1_1.length : Int)) = true := bne_iff_ne.mpr c3
        have c3b2 : (l0_1.length == l1_1.length) = false := beq_eq_false_iff_ne.mpr (by omega)
        obtain rfl := Option.some.inj H
        go_wp2_with (first | ((with_reducible refine gate_dst (N := 2) rfl ?_); refine box_event ?hg (N := 2) ?hd (cs := #[.slice A0_0 l0_0.length c0_0, .slice A0_1 l0_1.length c0_1, .slice A0_2 l0_2.length c0_2]) (t := 57) ?hr ?_; (case hd => rfl); (case hg => rfl); (case hr => first | (go_simp; done) | (go_simp; rfl)); intro gb1 hg w1003 hbox hb; have n0_ := Aside0.mk (below_step (by repeat (first | (with_reducible first | exact HB.out | apply below_alloc | apply pw_below_drewN | apply below_drew1) | exact HB.out)) hb); have GEgb1 := Aside0.mk ((by rw [hg]; exact (below_size (by repeat (first | (with_reducible first | exact HB.out | apply below_alloc | apply pw_below_drewN | apply below_drew1) | exact HB.out))) : w.heap.size ≤ gb1)); clear HB; have HB := n0_; clear n0_; have BKgb1 := Aside0.mk hbox; have hxgb1_0 : _ = some (.slice A0_0 l0_0.length c0_0 : Value) := (blk_cell BKgb1.out 0).trans rfl; have hfgb1_0 := blk_frozen BKgb1.out 0; have hxgb1_1 : _ = some (.slice A0_1 l0_1.length c0_1 : Value) := (blk_cell BKgb1.out 1).trans rfl; have hfgb1_1 := blk_frozen BKgb1.out 1; have hxgb1_2 : _ = some (.slice A0_2 l0_2.length c0_2 : Value) := (blk_cell BKgb1.out 2).trans rfl; have hfgb1_2 := blk_frozen BKgb1.out 2; clear hb hbox hg) | ((with_reducible refine gate_dst (N := 3) rfl ?_); refine box_event ?hg (N := 3) ?hd (cs := #[.slice A1_0 l1_0.length c1_0, .slice A1_1 l1_1.length c1_1, .slice A1_2 l1_2.length c1_2]) (t := 57) ?hr ?_; (case hd => rfl); (case hg => rfl); (case hr => first | (go_simp; done) | (go_simp; rfl)); intro gb2 hg w1004 hbox hb; have NBgb1_gb2 := Aside0.mk (by rw [hg]; exact Nat.ne_of_lt (blk_lt BKgb1.out) : gb1 ≠ gb2); have n0_ := Aside0.mk (below_step (by repeat (first | (with_reducible first | exact HB.out | apply below_alloc | apply pw_below_drewN | apply below_drew1) | exact HB.out)) hb); have GEgb2 := Aside0.mk ((by rw [hg]; exact (below_size (by repeat (first | (with_reducible first | exact HB.out | apply below_alloc | apply pw_below_drewN | apply below_drew1) | exact HB.out))) : w.heap.size ≤ gb2)); clear HB; have HB := n0_; clear n0_; have n_ := Aside0.mk (blk_belowR hb BKgb1.out); clear BKgb1; have BKgb1 := n_; clear n_; replace hxgb1_0 : _ = some (.slice A0_0 l0_0.length c0_0 : Value) := (blk_cell BKgb1.out 0).trans rfl; replace hfgb1_0 := blk_frozen BKgb1.out 0; replace hxgb1_1 : _ = some (.slice A0_1 l0_1.length c0_1 : Value) := (blk_cell BKgb1.out 1).trans rfl; replace hfgb1_1 := blk_frozen BKgb1.out 1; replace hxgb1_2 : _ = some (.slice A0_2 l0_2.length c0_2 : Value) := (blk_cell BKgb1.out 2).trans rfl; replace hfgb1_2 := blk_frozen BKgb1.out 2; have BKgb2 := Aside0.mk hbox; have hxgb2_0 : _ = some (.slice A1_0 l1_0.length c1_0 : Value) := (blk_cell BKgb2.out 0).trans rfl; have hfgb2_0 := blk_frozen BKgb2.out 0; have hxgb2_1 : _ = some (.slice A1_1 l1_1.length c1_1 : Value) := (blk_cell BKgb2.out 1).trans rfl; have hfgb2_1 := blk_frozen BKgb2.out 1; have hxgb2_2 : _ = some (.slice A1_2 l1_2.length c1_2 : Value) := (blk_cell BKgb2.out 2).trans rfl; have hfgb2_2 := blk_frozen BKgb2.out 2; clear hb hbox hg))
        go_ret
        exact ⟨by first | rfl | (simp <;> rfl) | (simp [*] <;> rfl), by repeat (first | (with_reducible first | exact HB.out | apply below_alloc | apply pw_below_drewN | apply below_drew1 | refine below_set ?_ GEgb1.out | refine below_set ?_ GEgb2.out) | exact HB.out)⟩
    · rw [if_neg c2] at H
      have c2b0 : ((l0_0.length : Int) == (l1_0.length : Int)) = false := beq_eq_false_iff_ne.mpr c2
      have c2b1 : ((l0_0.length : Int) != (l1_0.length : Int)) = true := bne_iff_ne.mpr c2
      have c2b2 : (l0_0.length == l1_0.length) = false := beq_eq_false_iff_ne.mpr (by omega)
      obtain rfl := Option.some.inj H
      go_wp2_with (first | ((with_reducible refine gate_dst (N := 2) rfl ?_); refine box_event ?hg (N := 2) ?hd (cs := #[.slice A0_0 l0_0.length c0_0, .slice A0_1 l0_1.length c0_1, .slice A0_2 l0_2.length c0_2]) (t := 57) ?hr ?_; (case hd => rfl); (case hg => rfl); (case hr => first | (go_simp; done) | (go_simp; rfl)); intro gb1 hg w1005 hbox hb; have n0_ := Aside0.mk (below_step (by repeat (first | (with_reducible first | exact HB.out | apply below_alloc | apply pw_below_drewN | apply below_drew1) | exact HB.out)) hb); have GEgb1 := Aside0.mk ((by rw [hg]; exact (below_size (by repeat (first | (with_reducible first | exact HB.out | apply below_alloc | apply pw_below_drewN | apply below_drew1) | exact HB.out))) : w.heap.size ≤ gb1)); clear HB; have HB := n0_; clear n0_; have BKgb1 := Aside0.mk hbox; have hxgb1_0 : _ = some (.slice A0_0 l0_0.length c0_0 : Value) := (blk_cell BKgb1.out 0).trans rfl; have hfgb1_0 := blk_frozen BKgb1.out 0; have hxgb1_1 : _ = some (.slice A0_1 l0_1.length c0_1 : Value) := (blk_cell BKgb1.out 1).trans rfl; have hfgb1_1 := blk_frozen BKgb1.out 1; have hxgb1_2 : _ = some (.slice A0_2 l0_2.length c0_2 : Value) := (blk_cell BKgb1.out 2).trans rfl; have hfgb1_2 := blk_frozen BKgb1.out 2; clear hb hbox hg) | ((with_reducible refine gate_dst (N := 3) rfl ?_); refine box_event ?hg (N := 3) ?hd (cs := #[.slice A1_0 l1_0.length c1_0, .slice A1_1 l1_1.length c1_1, .slice A1_2 l1_2.length c1_2]) (t := 57) ?hr ?_; (case hd => rfl); (case hg => rfl); (case hr => first | (go_simp; done) | (go_simp; rfl)); intro gb2 hg w1006 hbox hb; have NBgb1_gb2 := Aside0.mk (by rw [hg]; exact Nat.ne_of_lt (blk_lt BKgb1.out) : gb1 ≠ gb2); have n0_ := Aside0.mk (below_step (by repeat (first | (with_reducible first | exact HB.out | apply below_alloc | apply pw_below_drewN | apply below_drew1) | exact HB.out)) hb); have GEgb2 := Aside0.mk ((by rw [hg]; exact (below_size (by repeat (first | (with_reducible first | exact HB.out | apply below_alloc | apply pw_below_drewN | apply below_drew1) | exact HB.out))) : w.heap.size ≤ gb2)); clear HB; have HB := n0_; clear n0_; have n_ := Aside0.mk (blk_belowR hb BKgb1.out); clear BKgb1; have BKgb1 := n_; clear n_; replace hxgb1_0 : _ = some (.slice A0_0 l0_0.length c0_0 : Value) := (blk_cell BKgb1.out 0).trans rfl; replace hfgb1_0 := blk_frozen BKgb1.out 0; replace hxgb1_1 : _ = some (.slice A0_1 l0_1.length c0_1 : Value) := (blk_cell BKgb1.out 1).trans rfl; replace hfgb1_1 := blk_frozen BKgb1.out 1; replace hxgb1_2 : _ = some (.slice A0_2 l0_2.length c0_2 : Value) := (blk_cell BKgb1.out 2).trans rfl; replace hfgb1_2 := blk_frozen BKgb1.out 2; have BKgb2 := Aside0.mk hbox; have hxgb2_0 : _ = some (.slice A1_0 l1_0.length c1_0 : Value) := (blk_cell BKgb2.out 0).trans rfl; have hfgb2_0 := blk_frozen BKgb2.out 0; have hxgb2_1 : _ = some (.slice A1_1 l1_1.length c1_1 : Value) := (blk_cell BKgb2.out 1).trans rfl; have hfgb2_1 := blk_frozen BKgb2.out 1; have hxgb2_2 : _ = some (.slice A1_2 l1_2.length c1_2 : Value) := (blk_cell BKgb2.out 2).trans rfl; have hfgb2_2 := blk_frozen BKgb2.out 2; clear hb hbox hg))
      go_ret
      exact ⟨by first | rfl | (simp <;> rfl) | (simp [*] <;> rfl), by repeat (first | (with_reducible first | exact HB.out | apply below_alloc | apply pw_below_drewN | apply below_drew1 | refine below_set ?_ GEgb1.out | refine below_set ?_ GEgb2.out) | exact HB.out)⟩
  · rw [if_neg c1] at H
    have c1b0 : ((l0_2.length : Int) == (l1_2.length : Int)) = false := beq_eq_false_iff_ne.mpr c1
    have c1b1 : ((l0_2.length : Int) != (l1_2.length : Int)) = true := bne_iff_ne.mpr c1
    have c1b2 : (l0_2.length == l1_2.length) = false := beq_eq_false_iff_ne.mpr (by omega)
    obtain rfl := Option.some.inj H
    go_wp2_with (first | ((with_reducible refine gate_dst (N := 2) rfl ?_); refine box_event ?hg (N := 2) ?hd (cs := #[.slice A0_0 l0_0.length c0_0, .slice A0_1 l0_1.length c0_1, .slice A0_2 l0_2.length c0_2]) (t := 57) ?hr ?_; (case hd => rfl); (case hg => rfl); (case hr => first | (go_simp; done) | (go_simp; rfl)); intro gb1 hg w1007 hbox hb; have n0_ := Aside0.mk (below_step (by repeat (first | (with_reducible first | exact HB.out | apply below_alloc | apply pw_below_drewN | apply below_drew1) | exact HB.out)) hb); have GEgb1 := Aside0.mk ((by rw [hg]; exact (below_size (by repeat (first | (with_reducible first | exact HB.out | apply below_alloc | apply pw_below_drewN | apply below_drew1) | exact HB.out))) : w.heap.size ≤ gb1)); clear HB; have HB := n0_; clear n0_; have BKgb1 := Aside0.mk hbox; have hxgb1_0 : _ = some (.slice A0_0 l0_0.length c0_0 : Value) := (blk_cell BKgb1.out 0).trans rfl; have hfgb1_0 := blk_frozen BKgb1.out 0; have hxgb1_1 : _ = some (.slice A0_1 l0_1.length c0_1 : Value) := (blk_cell BKgb1.out 1).trans rfl; have hfgb1_1 := blk_frozen BKgb1.out 1; have hxgb1_2 : _ = some (.slice A0_2 l0_2.length c0_2 : Value) := (blk_cell BKgb1.out 2).trans rfl; have hfgb1_2 := blk_frozen BKgb1.out 2; clear hb hbox hg) | ((with_reducible refine gate_dst (N := 3) rfl ?_); refine box_event ?hg (N := 3) ?hd (cs := #[.slice A1_0 l1_0.length c1_0, .slice A1_1 l1_1.length c1_1, .slice A1_2 l1_2.length c1_2]) (t := 57) ?hr ?_; (case hd => rfl); (case hg => rfl); (case hr => first | (go_simp; done) | (go_simp; rfl)); intro gb2 hg w1008 hbox hb; have NBgb1_gb2 := Aside0.mk (by rw [hg]; exact Nat.ne_of_lt (blk_lt BKgb1.out) : gb1 ≠ gb2); have n0_ := Aside0.mk (below_step (by repeat (first | (with_reducible first | exact HB.out | apply below_alloc | apply pw_below_drewN | apply below_drew1) | exact HB.out)) hb); have GEgb2 := Aside0.mk ((by rw [hg]; exact (below_size (by repeat (first | (with_reducible first | exact HB.out | apply below_alloc | apply pw_below_drewN | apply below_drew1) | exact HB.out))) : w.heap.size ≤ gb2)); clear HB; have HB := n0_; clear n0_; have n_ := Aside0.mk (blk_belowR hb BKgb1.out); clear BKgb1; have BKgb1 := n_; clear n_; replace hxgb1_0 : _ = some (.slice A0_0 l0_0.length c0_0 : Value) := (blk_cell BKgb1.out 0).trans rfl; replace hfgb1_0 := blk_frozen BKgb1.out 0; replace hxgb1_1 : _ = some (.slice A0_1 l0_1.length c0_1 : Value) := (blk_cell BKgb1.out 1).trans rfl; replace hfgb1_1 := blk_frozen BKgb1.out 1; replace hxgb1_2 : _ = some (.slice A0_2 l0_2.length c0_2 : Value) := (blk_cell BKgb1.out 2).trans rfl; replace hfgb1_2 := blk_frozen BKgb1.out 2; have BKgb2 := Aside0.mk hbox; have hxgb2_0 : _ = some (.slice A1_0 l1_0.length c1_0 : Value) := (blk_cell BKgb2.out 0).trans rfl; have hfgb2_0 := blk_frozen BKgb2.out 0; have hxgb2_1 : _ = some (.slice A1_1 l1_1.length c1_1 : Value) := (blk_cell BKgb2.out 1).trans rfl; have hfgb2_1 := blk_frozen BKgb2.out 1; have hxgb2_2 : _ = some (.slice A1_2 l1_2.length c1_2 : Value) := (blk_cell BKgb2.out 2).trans rfl; have hfgb2_2 := blk_frozen BKgb2.out 2; clear hb hbox hg))
    go_ret
    exact ⟨by first | rfl | (simp <;> rfl) | (simp [*] <;> rfl), by repeat (first | (with_reducible first | exact HB.out | apply below_alloc | apply pw_below_drewN | apply below_drew1 | refine below_set ?_ GEgb1.out | refine below_set ?_ GEgb2.out) | exact HB.out)⟩

end Go.Proofs.Ytompkmjpikabkaa.PFnExactSameMachines
