/-
  For all arguments the program's UnpackEntry returns what the reference's returns; no conditions.
-/
import Derived.Test.YtkibnkfmcmbhnabPFnExactUnpackEntryx8
import Derived.Test.YtkibnkfmcmbhnabPW
import Derived.Test.YtkibnkfmcmbhnabGoodFnExactUnpackEntry
namespace Go.Proofs.Ytkibnkfmcmbhnab.Pure
open Go.RowKit Go.Proofs.Ytkibnkfmcmbhnab.PFnExactUnpackEntry Go.Proofs.YtkibnkfmcmbhnabW.PrintWords Go.Proofs.YtkibnkfmcmbhnabW.PrintLast Go.Proofs.YtkibnkfmcmbhnabW.PrintMore Go.Proofs.Ytkibnkfmcmbhnab.PW

set_option linter.unusedSimpArgs false
set_option linter.unusedVariables false
/-- What an operation's fault is. -/
def opF (kd vol a v : Int) : Int :=
  if 1 ≤ kd ∧ kd ≤ 6 then
    (if ¬ (1 ≤ vol ∧ vol ≤ 99) ∨ ((2 ≤ kd ∧ kd ≤ 4) ∧ ¬ (0 ≤ a ∧ a ≤ 15)) ∨ (kd = 1 ∧ ¬ (1 ≤ v ∧ v ≤ 16)) ∨ (kd = 2 ∧ ¬ (0 ≤ v ∧ v ≤ 255)) ∨ (kd = 5 ∧ ¬ (1 ≤ v ∧ v ≤ 99)) then 3
     else if (¬ (2 ≤ kd ∧ kd ≤ 4) ∧ a ≠ 0) ∨ ((kd = 3 ∨ kd = 4 ∨ kd = 6) ∧ v ≠ 0) then 1 else 0)
  else 1
theorem spec_l1In_eq (a lo hi : Int) : spec_l1In.f a lo hi = some (decide (lo ≤ a) && decide (a ≤ hi)) := by
  unfold spec_l1In.f
  by_cases h : lo ≤ a <;> simp [h]
theorem impl_within_eq (a lo hi : Int) : impl_within.f a lo hi = some (decide (lo ≤ a) && decide (a ≤ hi)) := by
  unfold impl_within.f
  by_cases h : lo ≤ a <;> simp [h]
theorem spec_OpFault_eq (k : Nat) (kd vol a v : Int) : spec_OpFault.f (k + 3) kd vol a v = some (opF kd vol a v) := by
  unfold spec_OpFault.f
  simp only [spec_l1In_eq, Option.bind_some]
  by_cases hk : 1 ≤ kd ∧ kd ≤ 6
  · obtain ⟨hk1, hk2⟩ := hk
    by_cases h1 : 1 ≤ vol ∧ vol ≤ 99
    · by_cases h2 : 0 ≤ a ∧ a ≤ 15
      · have : kd = 1 ∨ kd = 2 ∨ kd = 3 ∨ kd = 4 ∨ kd = 5 ∨ kd = 6 := by omega
        rcases this with rfl | rfl | rfl | rfl | rfl | rfl <;>
          simp [spec_OpFault.j0, spec_OpFault.j1, spec_OpFault.j2, spec_l5Id.f, spec_l4Place.f, spec_l3Data.f, spec_l1In_eq, opF, h1.1, h1.2, h2.1, h2.2] <;>
          (repeat' split) <;> first | rfl | omega | (exfalso; simp_all; omega) | simp_all
      · have : kd = 1 ∨ kd = 2 ∨ kd = 3 ∨ kd = 4 ∨ kd = 5 ∨ kd = 6 := by omega
        have h2' : (decide (0 ≤ a) && decide (a ≤ 15)) = false := by simpa using h2
        rcases this with rfl | rfl | rfl | rfl | rfl | rfl <;>
          simp [spec_OpFault.j0, spec_OpFault.j1, spec_OpFault.j2, spec_l5Id.f, spec_l4Place.f, spec_l3Data.f, spec_l1In_eq, opF, h1.1, h1.2, h2'] <;>
          (repeat' split) <;> first | rfl | omega | (exfalso; simp_all; omega) | simp_all
    · have h1' : (decide (1 ≤ vol) && decide (vol ≤ 99)) = false := by simpa using h1
      have : kd = 1 ∨ kd = 2 ∨ kd = 3 ∨ kd = 4 ∨ kd = 5 ∨ kd = 6 := by omega
      rcases this with rfl | rfl | rfl | rfl | rfl | rfl <;>
        simp [spec_OpFault.j0, spec_OpFault.j1, spec_OpFault.j2, spec_l5Id.f, spec_l4Place.f, spec_l3Data.f, spec_l1In_eq, opF, h1'] <;>
        (repeat' split) <;> first | rfl | omega | (exfalso; simp_all; omega) | simp_all
  · have : (decide (1 ≤ kd) && decide (kd ≤ 6)) = false := by simpa using hk
    simp [this, opF, hk]
theorem impl_OpFault_eq (k : Nat) (kd vol a v : Int) : impl_OpFault.f (k + 3) kd vol a v = some (opF kd vol a v) := by
  unfold impl_OpFault.f
  simp only [impl_within_eq, Option.bind_some]
  by_cases hk : 1 ≤ kd ∧ kd ≤ 6
  · obtain ⟨hk1, hk2⟩ := hk
    by_cases h1 : 1 ≤ vol ∧ vol ≤ 99
    · by_cases h2 : 0 ≤ a ∧ a ≤ 15
      · have : kd = 1 ∨ kd = 2 ∨ kd = 3 ∨ kd = 4 ∨ kd = 5 ∨ kd = 6 := by omega
        rcases this with rfl | rfl | rfl | rfl | rfl | rfl <;>
          simp [impl_OpFault.j0, impl_OpFault.j1, impl_isId.f, impl_isTreePlace.f, impl_isQuota.f, impl_isByte.f, impl_within_eq, opF, h1.1, h1.2, h2.1, h2.2] <;>
          (repeat' split) <;> first | rfl | omega | (exfalso; simp_all; omega) | simp_all
      · have : kd = 1 ∨ kd = 2 ∨ kd = 3 ∨ kd = 4 ∨ kd = 5 ∨ kd = 6 := by omega
        have h2' : (decide (0 ≤ a) && decide (a ≤ 15)) = false := by simpa using h2
        rcases this with rfl | rfl | rfl | rfl | rfl | rfl <;>
          simp [impl_OpFault.j0, impl_OpFault.j1, impl_isId.f, impl_isTreePlace.f, impl_isQuota.f, impl_isByte.f, impl_within_eq, opF, h1.1, h1.2, h2'] <;>
          (repeat' split) <;> first | rfl | omega | (exfalso; simp_all; omega) | simp_all
    · have h1' : (decide (1 ≤ vol) && decide (vol ≤ 99)) = false := by simpa using h1
      have : kd = 1 ∨ kd = 2 ∨ kd = 3 ∨ kd = 4 ∨ kd = 5 ∨ kd = 6 := by omega
      rcases this with rfl | rfl | rfl | rfl | rfl | rfl <;>
        simp [impl_OpFault.j0, impl_OpFault.j1, impl_isId.f, impl_isTreePlace.f, impl_isQuota.f, impl_isByte.f, impl_within_eq, opF, h1'] <;>
        (repeat' split) <;> first | rfl | omega | (exfalso; simp_all; omega) | simp_all
  · have : (decide (1 ≤ kd) && decide (kd ≤ 6)) = false := by simpa using hk
    simp [this, opF, hk]
/-- What an entry's fault is. -/
def entF (c s kd vol a v : Int) : Int := if (1 ≤ c ∧ c ≤ 99) ∧ 1 ≤ s ∧ s ≤ 999 then opF kd vol a v else 3
theorem spec_EntryFault_eq (k : Nat) (c s kd vol a v : Int) : spec_EntryFault.f (k + 3) c s kd vol a v = some (entF c s kd vol a v) := by
  unfold spec_EntryFault.f entF
  simp only [spec_l1In_eq, spec_OpFault_eq, Option.bind_some]
  by_cases h1 : 1 ≤ c ∧ c ≤ 99
  · by_cases h2 : 1 ≤ s ∧ s ≤ 999
    · simp [h1.1, h1.2, h2.1, h2.2]
    · have h2' : (decide (1 ≤ s) && decide (s ≤ 999)) = false := by simpa using h2
      simp [h1.1, h1.2, h2', h2]
  · have h1' : (decide (1 ≤ c) && decide (c ≤ 99)) = false := by simpa using h1
    simp [h1', h1]
theorem impl_EntryFault_eq (k : Nat) (c s kd vol a v : Int) : impl_EntryFault.f (k + 3) c s kd vol a v = some (entF c s kd vol a v) := by
  unfold impl_EntryFault.f entF impl_isId.f
  simp only [impl_within_eq, impl_OpFault_eq, Option.bind_some]
  by_cases h1 : 1 ≤ c ∧ c ≤ 99
  · by_cases h2 : 1 ≤ s ∧ s ≤ 999
    · simp [h1.1, h1.2, h2.1, h2.2]
    · have h2' : (decide (1 ≤ s) && decide (s ≤ 999)) = false := by simpa using h2
      simp [h1.1, h1.2, h2', h2]
  · have h1' : (decide (1 ≤ c) && decide (c ≤ 99)) = false := by simpa using h1
    simp [h1', h1]

/-- Is it a word? -/
def okV (n : Int) : Bool := decide (0 ≤ n) && decide (n ≤ 65535)
/-- The entry of words: a code, and its numbers. -/
def unpF (l : List Int) : Int × Int × Int × Int × Int × Int × Int :=
  if l.length = 5 ∧ l.all okV = true ∧ entF (rd l 0) (rd l 1) (wrap64 (Int.tdiv (rd l 2) 256)) (Int.tmod (rd l 2) 256) (rd l 3) (rd l 4) = 0 then (0, rd l 0, rd l 1, wrap64 (Int.tdiv (rd l 2) 256), Int.tmod (rd l 2) 256, rd l 3, rd l 4) else (5, 0, 0, 0, 0, 0, 0)
theorem spec_Unpack_ev (l : List Int) : Ev (fun k => spec_UnpackEntry.f k l) (unpF l) := by
  unfold spec_UnpackEntry.f unpF
  by_cases h5 : l.length = 5
  · simp only [if_pos (show (l.length : Int) = 5 by omega)]
    simp only [h5, true_and]
    have fin : Ev (fun k => spec_UnpackEntry.l0 k l 5 5 0 0 0 0 0 0) (if entF (rd l 0) (rd l 1) (wrap64 (Int.tdiv (rd l 2) 256)) (Int.tmod (rd l 2) 256) (rd l 3) (rd l 4) = 0 then (0, rd l 0, rd l 1, wrap64 (Int.tdiv (rd l 2) 256), Int.tmod (rd l 2) 256, rd l 3, rd l 4) else (5, 0, 0, 0, 0, 0, 0)) := by
      refine ev_add 4 fun k => ?_
      simp only [spec_UnpackEntry.l0]
      rw [if_neg (by decide), if_pos (by omega), if_pos (by omega), if_pos (by omega), if_pos (by omega), if_pos (by omega), spec_EntryFault_eq]
      simp only [Option.bind_some]
      split <;> rfl
    have key : ∀ (d : Nat) (i : Int), 0 ≤ i → i + d = 5 → Ev (fun k => spec_UnpackEntry.l0 k l i 5 0 0 0 0 0 0) (if (l.drop i.toNat).all okV = true ∧ entF (rd l 0) (rd l 1) (wrap64 (Int.tdiv (rd l 2) 256)) (Int.tmod (rd l 2) 256) (rd l 3) (rd l 4) = 0 then (0, rd l 0, rd l 1, wrap64 (Int.tdiv (rd l 2) 256), Int.tmod (rd l 2) 256, rd l 3, rd l 4) else (5, 0, 0, 0, 0, 0, 0)) := by
      intro d
      induction d with
      | zero =>
        intro i i0 i1
        have : i = 5 := by omega
        subst this
        rw [show l.drop (5 : Int).toNat = [] from List.drop_eq_nil_of_le (by simp; omega)]
        simp only [List.all_nil, true_and]
        exact fin
      | succ d ih =>
        intro i i0 i1
        have hlt : i.toNat < l.length := by omega
        have e1 : l.drop i.toNat = rd l i :: l.drop (i + 1).toNat := by
          rw [List.drop_eq_getElem_cons hlt, show (i + 1).toNat = i.toNat + 1 by omega]
          simp [rd, List.getD_eq_getElem?_getD, List.getElem?_eq_getElem hlt]
        have hw : spec_l1Word.f (rd l i) = some (okV (rd l i)) := by
          unfold spec_l1Word.f okV
          simp only [spec_l1In_eq, Option.bind_some]
        rw [e1, List.all_cons]
        by_cases hb : okV (rd l i) = true
        · rw [hb, Bool.true_and]
          refine Ev.step (fun k => ?_) (ih (i + 1) (by omega) (by omega))
          simp only [spec_UnpackEntry.l0]
          rw [if_pos (by omega), if_pos i0, if_pos (by omega), hw]
          simp only [Option.bind_some]
          rw [if_pos hb, wrap_id (by omega) (by omega)]
        · rw [Bool.not_eq_true] at hb
          rw [hb]
          simp only [Bool.false_and, Bool.false_eq_true, false_and, if_false]
          refine Ev.step (fun k => ?_) (Ev.now _)
          simp only [spec_UnpackEntry.l0]
          rw [if_pos (by omega), if_pos i0, if_pos (by omega), hw]
          simp only [Option.bind_some, hb, Bool.false_eq_true, if_false]
    exact key 5 0 (by omega) (by omega)
  · simp only [if_neg (show ¬ (l.length : Int) = 5 by omega), h5, false_and, if_false]
    exact Ev.now _
theorem impl_Unpack_ev (l : List Int) : Ev (fun k => impl_UnpackEntry.f k l) (unpF l) := by
  unfold impl_UnpackEntry.f unpF
  by_cases h5 : l.length = 5
  · simp only [if_pos (show (l.length : Int) = 5 by omega)]
    simp only [h5, true_and, impl_areWords.f, Option.bind_some]
    have e : l.all okW = l.all okV := rfl
    rw [e]
    refine ev_add 4 fun k => ?_
    have hl : (l.length : Int) = 5 := by omega
    cases hb : l.all okV with
    | true =>
      simp only [hl, impl_UnpackEntry.j0, Bool.not_true, Bool.false_eq_true, if_false, true_and, impl_EntryFault_eq, Option.bind_some, show (0 : Int) < 5 from by decide, show (1 : Int) < 5 from by decide, show (2 : Int) < 5 from by decide, show (3 : Int) < 5 from by decide, show (4 : Int) < 5 from by decide, if_true]
      split <;> rfl
    | false =>
      simp [hl, impl_UnpackEntry.j0]
  · simp only [if_neg (show ¬ (l.length : Int) = 5 by omega), h5, false_and, if_false]
    exact ev_add 1 fun k => by simp only [impl_UnpackEntry.j0, if_true]

theorem toInt64S_ev (xs : List Int) (hn : xs.length ≤ 1048576) : Ev (fun k => laws_toInt64S.f k xs) xs := by
  have h := ev_conv laws_toInt64S.l0 id 0 0 xs (by omega)
    (fun k out i h0 h1 h2 => by simp only [laws_toInt64S.l0, if_pos h0, if_pos h1, if_pos h2]; rfl)
    (fun k out i h1 => by simp only [laws_toInt64S.l0, if_neg h1])
  rw [List.map_id] at h
  refine Ev.congr (fun k => ?_) h
  unfold laws_toInt64S.f
  rw [if_pos (by omega), if_pos (by simp; omega)]
  simp
theorem eqInt64S_ev (xs : List Int) (hn : xs.length ≤ 1048576) : Ev (fun k => laws_eqInt64S.f k xs xs) true := by
  have h := ev_same laws_eqInt64S.l0 xs (by omega)
    (fun i h0 h1 => ⟨0, fun k _ => by simp [laws_eqInt64S.l0, if_pos h0, if_pos h1]⟩)
    (fun k i h1 => by simp only [laws_eqInt64S.l0, if_neg h1])
  refine Ev.congr (fun k => ?_) h
  unfold laws_eqInt64S.f
  rw [if_pos rfl]
theorem FnExactUnpackEntry : ∀ (x0 : List (Int)), good22 x0 → ∃ k, laws_FnExactUnpackEntry.f k x0 = some true := by
  intro x0 g0
  refine Ev.rounds ?_
  unfold laws_FnExactUnpackEntry.f
  by_cases h0 : (x0.length : Int) > 1048576
  · simp only [if_pos h0]
    exact Ev.now _
  simp only [if_neg h0]
  have e0 := toInt64S_ev x0 (by omega)
  refine Ev.bind e0 (Ev.bind (spec_Unpack_ev x0) (Ev.bind e0 (Ev.bind (impl_Unpack_ev x0) (Ev.bind (a := true) ?_ ?_))))
  · simp only [laws_eqEntryResult.f, laws_eqEntry.f, laws_eqOp.f, if_true, Option.bind_some]
    exact Ev.now _
  · simp only [if_true]
    refine Ev.bind e0 (Ev.bind (eqInt64S_ev _ (by omega)) ?_)
    simp only [if_true]
    exact Ev.now _

end Go.Proofs.Ytkibnkfmcmbhnab.Pure
