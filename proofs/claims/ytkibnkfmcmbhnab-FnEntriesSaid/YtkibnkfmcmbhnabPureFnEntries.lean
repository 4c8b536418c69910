/-
  Whatever is drawn, an entry is read back from its words, and words that are read are just those of their entry; no conditions beyond the row's own.
-/
import Derived.Test.YtkibnkfmcmbhnabPFnEntriesx8
import Derived.Test.YtkibnkfmcmbhnabPWFnEntries
import Derived.Test.YtkibnkfmcmbhnabGoodFnEntries
namespace Go.Proofs.Ytkibnkfmcmbhnab.Pure
open Go.RowKit Go.Proofs.Ytkibnkfmcmbhnab.PFnEntries Go.Proofs.YtkibnkfmcmbhnabW.PrintWords Go.Proofs.YtkibnkfmcmbhnabW.PrintLast Go.Proofs.YtkibnkfmcmbhnabW.PrintMore Go.Proofs.Ytkibnkfmcmbhnab.PW

set_option linter.unusedSimpArgs false
set_option linter.unusedVariables false
theorem spec_l1In_eq (a lo hi : Int) : spec_l1In.f a lo hi = some (decide (lo ≤ a) && decide (a ≤ hi)) := by
  unfold spec_l1In.f
  by_cases h : lo ≤ a <;> simp [h]
theorem impl_within_eq (a lo hi : Int) : impl_within.f a lo hi = some (decide (lo ≤ a) && decide (a ≤ hi)) := by
  unfold impl_within.f
  by_cases h : lo ≤ a <;> simp [h]
theorem spec_EntryFault_eq (c s kd vol a v : Int) : spec_EntryFault.f c s kd vol a v = some (entF c s kd vol a v) := by
  unfold spec_EntryFault.f entF spec_OpFault.f
  simp only [spec_l1In_eq, Option.bind_some]
  by_cases h1 : 1 ≤ c ∧ c ≤ 99
  · by_cases h2 : 1 ≤ s ∧ s ≤ 999
    · simp [h1.1, h1.2, h2.1, h2.2]
    · have h2' : (decide (1 ≤ s) && decide (s ≤ 999)) = false := by simpa using h2
      simp [h1.1, h1.2, h2', h2]
  · have h1' : (decide (1 ≤ c) && decide (c ≤ 99)) = false := by simpa using h1
    simp [h1', h1]
theorem impl_EntryFault_eq (c s kd vol a v : Int) : impl_EntryFault.f c s kd vol a v = some (entF c s kd vol a v) := by
  unfold impl_EntryFault.f entF impl_isId.f impl_OpFault.f
  simp only [impl_within_eq, Option.bind_some]
  by_cases h1 : 1 ≤ c ∧ c ≤ 99
  · by_cases h2 : 1 ≤ s ∧ s ≤ 999
    · simp [h1.1, h1.2, h2.1, h2.2]
    · have h2' : (decide (1 ≤ s) && decide (s ≤ 999)) = false := by simpa using h2
      simp [h1.1, h1.2, h2', h2]
  · have h1' : (decide (1 ≤ c) && decide (c ≤ 99)) = false := by simpa using h1
    simp [h1', h1]

/-- The entry of words: a code, and its numbers. -/
def unpF (l : List Int) : Int × Int × Int × Int × Int × Int × Int :=
  if l.length = 5 ∧ l.all okW = true ∧ entF (rd l 0) (rd l 1) (wrap64 (Int.tdiv (rd l 2) 256)) (Int.tmod (rd l 2) 256) (rd l 3) (rd l 4) = 0 then (0, rd l 0, rd l 1, wrap64 (Int.tdiv (rd l 2) 256), Int.tmod (rd l 2) 256, rd l 3, rd l 4) else (5, 0, 0, 0, 0, 0, 0)
theorem spec_Unpack_ev (l : List Int) : Ev (fun k => spec_UnpackEntry.f k l) (unpF l) := by
  unfold spec_UnpackEntry.f unpF
  by_cases h5 : l.length = 5
  · simp only [if_pos (show (l.length : Int) = 5 by omega)]
    simp only [h5, true_and]
    have fin : Ev (fun k => spec_UnpackEntry.l0 k l 5 5 0 0 0 0 0 0) (if entF (rd l 0) (rd l 1) (wrap64 (Int.tdiv (rd l 2) 256)) (Int.tmod (rd l 2) 256) (rd l 3) (rd l 4) = 0 then (0, rd l 0, rd l 1, wrap64 (Int.tdiv (rd l 2) 256), Int.tmod (rd l 2) 256, rd l 3, rd l 4) else (5, 0, 0, 0, 0, 0, 0)) := by
      refine ev_add 4 fun k => ?_
      simp only [spec_UnpackEntry.l0]
      rw [if_neg (by decide), if_pos (by omega), if_pos (by omega), if_pos (by omega), if_pos (by omega), if_pos (by omega), spec_EntryFault_eq]
      simp only [Option.bind_some]
      split <;> rfl
    have key : ∀ (d : Nat) (i : Int), 0 ≤ i → i + d = 5 → Ev (fun k => spec_UnpackEntry.l0 k l i 5 0 0 0 0 0 0) (if (l.drop i.toNat).all okW = true ∧ entF (rd l 0) (rd l 1) (wrap64 (Int.tdiv (rd l 2) 256)) (Int.tmod (rd l 2) 256) (rd l 3) (rd l 4) = 0 then (0, rd l 0, rd l 1, wrap64 (Int.tdiv (rd l 2) 256), Int.tmod (rd l 2) 256, rd l 3, rd l 4) else (5, 0, 0, 0, 0, 0, 0)) := by
      intro d
      induction d with
      | zero =>
        intro i i0 i1
        have : i = 5 := by omega
        subst this
        rw [show l.drop (5 : Int).toNat = [] from List.drop_eq_nil_of_le (by simp; omega)]
        simp only [List.all_nil, true_and]
        exact fin
      | succ d ih =>
        intro i i0 i1
        have hlt : i.toNat < l.length := by omega
        have e1 : l.drop i.toNat = rd l i :: l.drop (i + 1).toNat := by
          rw [List.drop_eq_getElem_cons hlt, show (i + 1).toNat = i.toNat + 1 by omega]
          simp [rd, List.getD_eq_getElem?_getD, List.getElem?_eq_getElem hlt]
        have hw : spec_l1Word.f (rd l i) = some (okW (rd l i)) := by
          unfold spec_l1Word.f okW
          simp only [spec_l1In_eq, Option.bind_some]
        rw [e1, List.all_cons]
        by_cases hb : okW (rd l i) = true
        · rw [hb, Bool.true_and]
          refine Ev.step (fun k => ?_) (ih (i + 1) (by omega) (by omega))
          simp only [spec_UnpackEntry.l0]
          rw [if_pos (by omega), if_pos i0, if_pos (by omega), hw]
          simp only [Option.bind_some]
          rw [if_pos hb, wrap_id (by omega) (by omega)]
        · rw [Bool.not_eq_true] at hb
          rw [hb]
          simp only [Bool.false_and, Bool.false_eq_true, false_and, if_false]
          refine Ev.step (fun k => ?_) (Ev.now _)
          simp only [spec_UnpackEntry.l0]
          rw [if_pos (by omega), if_pos i0, if_pos (by omega), hw]
          simp only [Option.bind_some, hb, Bool.false_eq_true, if_false]
    exact key 5 0 (by omega) (by omega)
  · simp only [if_neg (show ¬ (l.length : Int) = 5 by omega), h5, false_and, if_false]
    exact Ev.now _
theorem impl_Unpack_ev (l : List Int) : Ev (fun k => impl_UnpackEntry.f k l) (unpF l) := by
  unfold impl_UnpackEntry.f unpF
  by_cases h5 : l.length = 5
  · simp only [if_pos (show (l.length : Int) = 5 by omega)]
    simp only [h5, true_and, impl_areWords.f, Option.bind_some]
    refine ev_add 4 fun k => ?_
    have hl : (l.length : Int) = 5 := by omega
    cases hb : l.all okW with
    | true =>
      simp only [hl, impl_UnpackEntry.j0, Bool.not_true, Bool.false_eq_true, if_false, true_and, impl_EntryFault_eq, Option.bind_some, show (0 : Int) < 5 from by decide, show (1 : Int) < 5 from by decide, show (2 : Int) < 5 from by decide, show (3 : Int) < 5 from by decide, show (4 : Int) < 5 from by decide, if_true]
      split <;> rfl
    | false =>
      simp [hl, impl_UnpackEntry.j0]
  · simp only [if_neg (show ¬ (l.length : Int) = 5 by omega), h5, false_and, if_false]
    exact ev_add 1 fun k => by simp only [impl_UnpackEntry.j0, if_true]

/-- A source of draws: its bytes are bytes, and it isn't long. -/
def Src (c : List Int) : Prop := c.length ≤ 1048576 ∧ ∀ x ∈ c, 0 ≤ x ∧ x ≤ 255
theorem src_rd {c : List Int} (h : Src c) (i : Int) : 0 ≤ rd c i ∧ rd c i ≤ 255 := by
  unfold rd
  rw [List.getD_eq_getElem?_getD]
  cases e : c[i.toNat]? with
  | none => simp
  | some x => exact h.2 x (List.mem_of_getElem? e)
theorem next_ev {c : List Int} (hc : Src c) (s n : Int) (h0 : 0 ≤ s) (h1 : s ≤ 1000000) : ∃ r, spec_l1Next.f c s n = some (r, s + 1) ∧ 0 ≤ r ∧ (1 ≤ n → r < n) ∧ (n < 1 → r = 0) := by
  unfold spec_l1Next.f
  rw [wrap_id (n := s + 1) (by omega) (by omega)]
  by_cases hn : n < 1
  · rw [if_pos hn]
    exact ⟨0, rfl, by omega, fun h => by omega, fun _ => rfl⟩
  rw [if_neg hn, wrap_id (n := s + 1 - 1) (by omega) (by omega)]
  have e1 : s + 1 - 1 = s := by omega
  rw [e1]
  have tm : ∀ v : Int, 0 ≤ v → 0 ≤ Int.tmod v n ∧ Int.tmod v n < n := fun v hv => ⟨Int.tmod_nonneg _ hv, Int.tmod_lt_of_pos _ (by omega)⟩
  by_cases hz : (c.length : Int) = 0
  · rw [if_pos hz, if_neg (by omega), wrap_id (by omega) (by omega)]
    exact ⟨_, rfl, (tm _ (by omega)).1, fun _ => (tm _ (by omega)).2, fun h => absurd h hn⟩
  rw [if_neg hz]
  have hk : (0 : Int) < c.length := by omega
  have hl := hc.1
  rw [if_pos (Int.tmod_nonneg _ h0), if_pos (Int.tmod_lt_of_pos _ hk)]
  have hd0 : 0 ≤ Int.tdiv s c.length := Int.tdiv_nonneg h0 (by omega)
  have hd1 : Int.tdiv s c.length ≤ s := by rw [Int.tdiv_eq_ediv_of_nonneg h0]; exact Int.ediv_le_self _ h0
  have hr := src_rd hc (Int.tmod s c.length)
  rw [wrap_id (n := rd c (Int.tmod s c.length)) (by omega) (by omega), wrap_id (n := Int.tdiv s c.length) (by omega) (by omega), wrap_id (n := Int.tdiv s c.length * 37) (by omega) (by omega), wrap_id (n := rd c (Int.tmod s c.length) + Int.tdiv s c.length * 37) (by omega) (by omega)]
  by_cases hb : n > 200
  · rw [if_pos hb, wrap_id (n := s + 1) (by omega) (by omega), if_pos (Int.tmod_nonneg _ (by omega)), if_pos (Int.tmod_lt_of_pos _ hk), if_neg (by omega)]
    have hr2 := src_rd hc (Int.tmod (s + 1) c.length)
    rw [wrap_id (n := (rd c (Int.tmod s c.length) + Int.tdiv s c.length * 37) * 251) (by omega) (by omega), wrap_id (n := rd c (Int.tmod (s + 1) c.length)) (by omega) (by omega), wrap_id (n := rd c (Int.tmod (s + 1) c.length) * 13) (by omega) (by omega), wrap_id (n := (rd c (Int.tmod s c.length) + Int.tdiv s c.length * 37) * 251 + rd c (Int.tmod (s + 1) c.length) * 13) (by omega) (by omega), wrap_id (n := (rd c (Int.tmod s c.length) + Int.tdiv s c.length * 37) * 251 + rd c (Int.tmod (s + 1) c.length) * 13 + s) (by omega) (by omega)]
    exact ⟨_, rfl, (tm _ (by omega)).1, fun _ => (tm _ (by omega)).2, fun h => absurd h hn⟩
  · rw [if_neg hb, if_neg (by omega)]
    exact ⟨_, rfl, (tm _ (by omega)).1, fun _ => (tm _ (by omega)).2, fun h => absurd h hn⟩

theorem chance_ev {c : List Int} (hc : Src c) (s n : Int) (h0 : 0 ≤ s) (h1 : s ≤ 1000000) : ∃ b, spec_l1Chance.f c s n = some (b, s + 1) := by
  obtain ⟨r, hr, _⟩ := next_ev hc s n h0 h1
  exact ⟨_, by unfold spec_l1Chance.f; rw [hr]; rfl⟩
/-- An operation that is drawn: what is known of it. -/
theorem op_ev {c : List Int} (hc : Src c) (s : Int) (h0 : 0 ≤ s) (h1 : s ≤ 900000) : ∃ a b d e s', spec_l5Op.f c s = some (a, b, d, e, s') ∧ s ≤ s' ∧ s' ≤ s + 6 ∧ opF a b d e = 0 := by
  unfold spec_l5Op.f
  obtain ⟨v, e1, v0, v1, _⟩ := next_ev hc s 4 h0 (by omega)
  obtain ⟨q, e2, q0, q1, _⟩ := next_ev hc (s + 1) 10 (by omega) (by omega)
  have hv := v1 (by omega)
  rw [e1]; simp only [Option.bind_some]
  rw [e2]; simp only [Option.bind_some]
  rw [wrap_id (n := 1 + v) (by omega) (by omega)]
  by_cases c0 : q = 0
  · rw [if_pos c0]
    obtain ⟨r, er, r0, r1, _⟩ := next_ev hc (s + 1 + 1) 9 (by omega) (by omega)
    have := r1 (by omega)
    rw [er]; simp only [Option.bind_some]
    rw [wrap_id (n := 1 + r) (by omega) (by omega)]
    exact ⟨_, _, _, _, _, rfl, by omega, by omega, by unfold opF; simp; omega⟩
  rw [if_neg c0]
  by_cases c1 : q = 1
  · rw [if_pos c1]
    obtain ⟨r, er, r0, r1, _⟩ := next_ev hc (s + 1 + 1) 6 (by omega) (by omega)
    have := r1 (by omega)
    rw [er]; simp only [Option.bind_some]
    rw [wrap_id (n := 1 + r) (by omega) (by omega)]
    exact ⟨_, _, _, _, _, rfl, by omega, by omega, by unfold opF; simp; omega⟩
  rw [if_neg c1]
  by_cases c2 : q = 2
  · rw [if_pos c2]
    obtain ⟨r, er, r0, r1, _⟩ := next_ev hc (s + 1 + 1) 8 (by omega) (by omega)
    have := r1 (by omega)
    rw [er]; simp only [Option.bind_some]
    exact ⟨_, _, _, _, _, rfl, by omega, by omega, by unfold opF; simp; omega⟩
  rw [if_neg c2]
  by_cases c3 : q = 3
  · rw [if_pos c3]
    obtain ⟨r, er, r0, r1, _⟩ := next_ev hc (s + 1 + 1) 8 (by omega) (by omega)
    have := r1 (by omega)
    rw [er]; simp only [Option.bind_some]
    exact ⟨_, _, _, _, _, rfl, by omega, by omega, by unfold opF; simp; omega⟩
  rw [if_neg c3]
  by_cases c4 : q = 4
  · rw [if_pos c4]
    obtain ⟨b, eb⟩ := chance_ev hc (s + 1 + 1) 3 (by omega) (by omega)
    rw [eb]; simp only [Option.bind_some]
    cases b with
    | true =>
      rw [if_pos rfl]
      exact ⟨_, _, _, _, _, rfl, by omega, by omega, by unfold opF; simp; omega⟩
    | false =>
      rw [if_neg (by decide)]
      obtain ⟨r, er, r0, r1, _⟩ := next_ev hc (s + 1 + 1 + 1) 8 (by omega) (by omega)
      have := r1 (by omega)
      obtain ⟨u, eu, u0, u1, _⟩ := next_ev hc (s + 1 + 1 + 1 + 1) 99 (by omega) (by omega)
      have := u1 (by omega)
      rw [er]; simp only [Option.bind_some]
      rw [eu]; simp only [Option.bind_some]
      exact ⟨_, _, _, _, _, rfl, by omega, by omega, by unfold opF; simp; omega⟩
  rw [if_neg c4]
  obtain ⟨r, er, r0, r1, _⟩ := next_ev hc (s + 1 + 1) 8 (by omega) (by omega)
  have := r1 (by omega)
  obtain ⟨u, eu, u0, u1, _⟩ := next_ev hc (s + 1 + 1 + 1) 99 (by omega) (by omega)
  have := u1 (by omega)
  rw [er]; simp only [Option.bind_some]
  rw [eu]; simp only [Option.bind_some]
  exact ⟨_, _, _, _, _, rfl, by omega, by omega, by unfold opF; simp; omega⟩
theorem entry_ev {c : List Int} (hc : Src c) (s : Int) (h0 : 0 ≤ s) (h1 : s ≤ 800000) : ∃ x1 x2 a b d e s', spec_l8Entry.f c s = some (x1, x2, a, b, d, e, s') ∧ s ≤ s' ∧ s' ≤ s + 8 ∧ entF x1 x2 a b d e = 0 := by
  unfold spec_l8Entry.f
  obtain ⟨v, e1, v0, v1, _⟩ := next_ev hc s 3 h0 (by omega)
  obtain ⟨q, e2, q0, q1, _⟩ := next_ev hc (s + 1) 9 (by omega) (by omega)
  have hv := v1 (by omega)
  have hq := q1 (by omega)
  obtain ⟨a, b, d, e, s', eo, o0, o1, ho⟩ := op_ev hc (s + 1 + 1) (by omega) (by omega)
  rw [e1]; simp only [Option.bind_some]
  rw [e2]; simp only [Option.bind_some]
  rw [eo]; simp only [Option.bind_some]
  rw [wrap_id (n := 1 + v) (by omega) (by omega), wrap_id (n := 1 + q) (by omega) (by omega)]
  exact ⟨_, _, _, _, _, _, _, rfl, by omega, by omega, by unfold entF; rw [if_pos (by omega)]; exact ho⟩

theorem pick_ev {c : List Int} (hc : Src c) (s : Int) (h0 : 0 ≤ s) (h1 : s ≤ 900000) (l : List Int) (hl : 0 < l.length) : ∃ r, spec_l1Pick.f c s l = some (r, s + 1) := by
  obtain ⟨i, e, i0, i1, _⟩ := next_ev hc s (l.length : Int) h0 (by omega)
  have := i1 (by omega)
  exact ⟨_, by unfold spec_l1Pick.f; rw [e]; simp only [Option.bind_some]; rw [if_pos i0, if_pos (by omega)]⟩
theorem bentOp_ev {c : List Int} (hc : Src c) (s : Int) (h0 : 0 ≤ s) (h1 : s ≤ 700000) : ∃ r, spec_l5BentOp.f c s = some r := by
  unfold spec_l5BentOp.f
  obtain ⟨a, b, d, e, s', eo, o0, o1, _⟩ := op_ev hc s h0 (by omega)
  obtain ⟨q, e2, q0, q1, _⟩ := next_ev hc s' 12 (by omega) (by omega)
  rw [eo]; simp only [Option.bind_some]
  rw [e2]; simp only [Option.bind_some]
  obtain ⟨p0, ep0⟩ := pick_ev hc (s' + 1) (by omega) (by omega) [0, 7, 1, 4] (by decide)
  obtain ⟨p1, ep1⟩ := pick_ev hc (s' + 1) (by omega) (by omega) [0, 100, 9] (by decide)
  obtain ⟨p2, ep2⟩ := pick_ev hc (s' + 1) (by omega) (by omega) [(-1), 16, 3] (by decide)
  obtain ⟨p3, ep3⟩ := pick_ev hc (s' + 1) (by omega) (by omega) [(-1), 256, 17, 0] (by decide)
  rw [ep0, ep1, ep2, ep3]
  simp only [Option.bind_some]
  (repeat' split) <;> exact ⟨_, rfl⟩
theorem bent_ev {c : List Int} (hc : Src c) (s : Int) (h0 : 0 ≤ s) (h1 : s ≤ 600000) : ∃ r, spec_l8Bent.f c s = some r := by
  unfold spec_l8Bent.f
  obtain ⟨x1, x2, a, b, d, e, s', ee, o0, o1, _⟩ := entry_ev hc s h0 (by omega)
  obtain ⟨q, e2, q0, q1, _⟩ := next_ev hc s' 8 (by omega) (by omega)
  rw [ee]; simp only [Option.bind_some]
  rw [e2]; simp only [Option.bind_some]
  obtain ⟨p0, ep0⟩ := pick_ev hc (s' + 1) (by omega) (by omega) [0, 99, 100] (by decide)
  obtain ⟨p1, ep1⟩ := pick_ev hc (s' + 1) (by omega) (by omega) [0, 999, 1000] (by decide)
  obtain ⟨p2, ep2⟩ := bentOp_ev hc (s' + 1) (by omega) (by omega)
  rw [ep0, ep1, ep2]
  simp only [Option.bind_some]
  (repeat' split) <;> exact ⟨_, rfl⟩
theorem drawPack_ev {c : List Int} (hc : Src c) : ∃ r, spec_DrawPackEntry.f c = some r := by
  unfold spec_DrawPackEntry.f spec_l1Source.f
  obtain ⟨r, er⟩ := bent_ev hc 0 (by omega) (by omega)
  simp only [Option.bind_some, er]
  exact ⟨_, rfl⟩
theorem drawUnpack_ev {c : List Int} (hc : Src c) : ∃ r, spec_DrawUnpackEntry.f c = some r := by
  unfold spec_DrawUnpackEntry.f spec_l1Source.f
  obtain ⟨x1, x2, a, b, d, e, s', ee, o0, o1, _⟩ := entry_ev hc 0 (by omega) (by omega)
  obtain ⟨q, e2, q0, q1, _⟩ := next_ev hc s' 6 (by omega) (by omega)
  simp only [Option.bind_some, ee, spec_l8Pack.f, e2]
  obtain ⟨i, ei, i0, i1, _⟩ := next_ev hc (s' + 1) 5 (by omega) (by omega)
  have := i1 (by omega)
  obtain ⟨p0, ep0⟩ := pick_ev hc (s' + 1 + 1) (by omega) (by omega) [(-1), 65536, 300, 0] (by decide)
  simp only [ei, Option.bind_some, ep0, List.length_cons, List.length_nil]
  have h5 : i < ((0 + 1 + 1 + 1 + 1 + 1 : Nat) : Int) := by omega
  have h6 : i ≤ ((0 + 1 + 1 + 1 + 1 + 1 : Nat) : Int) := by omega
  simp only [if_pos i0, if_pos h5, if_pos h6]
  (repeat' split) <;> exact ⟨_, rfl⟩
/-- What an entry's words are: a code, and a list. -/
def packE (c s kd vol a v : Int) : Int × List Int := if entF c s kd vol a v = 0 then (0, [c, s, wrap64 (wrap64 (kd * 256) + vol), a, v]) else (entF c s kd vol a v, [])
theorem impl_Pack_eq (c s kd vol a v : Int) : impl_PackEntry.f c s kd vol a v = some (packE c s kd vol a v) := by
  simp only [impl_PackEntry.f, impl_EntryFault_eq, Option.bind_some, packE]
  split <;> rfl
theorem nums_ev (xs : List Int) (hn : xs.length ≤ 9223372036854775806) : Ev (fun k => laws_lwNums.f k xs xs) true := by
  have h := ev_same laws_lwNums.l0 xs hn
    (fun i h0 h1 => ⟨0, fun k _ => by simp [laws_lwNums.l0, if_pos h0, if_pos h1]⟩)
    (fun k i h1 => by simp only [laws_lwNums.l0, if_neg h1])
  refine Ev.congr (fun k => ?_) h
  unfold laws_lwNums.f
  rw [if_pos rfl]
theorem five (l : List Int) (h : l.length = 5) : l = [rd l 0, rd l 1, rd l 2, rd l 3, rd l 4] := by
  match l, h with
  | [a, b, c, d, e], _ => rfl
theorem pack_of_unp (l : List Int) (h : (unpF l).1 = 0) : (packE (unpF l).2.1 (unpF l).2.2.1 (unpF l).2.2.2.1 (unpF l).2.2.2.2.1 (unpF l).2.2.2.2.2.1 (unpF l).2.2.2.2.2.2).2 = l ∧ l.length = 5 := by
  unfold unpF at h ⊢
  by_cases hc : l.length = 5 ∧ l.all okW = true ∧ entF (rd l 0) (rd l 1) (wrap64 (Int.tdiv (rd l 2) 256)) (Int.tmod (rd l 2) 256) (rd l 3) (rd l 4) = 0
  · rw [if_pos hc] at h ⊢
    obtain ⟨h5, hw, he⟩ := hc
    refine ⟨?_, h5⟩
    simp only [packE, if_pos he]
    have h2 : okW (rd l 2) = true := by
      have hm : rd l 2 ∈ l := by
        rw [five l h5]; simp [rd]
      exact List.all_eq_true.1 hw _ hm
    simp only [okW, Bool.and_eq_true, decide_eq_true_eq] at h2
    have hq : Int.tdiv (rd l 2) 256 = rd l 2 / 256 := Int.tdiv_eq_ediv_of_nonneg h2.1
    have hr : Int.tmod (rd l 2) 256 = rd l 2 % 256 := Int.tmod_eq_emod_of_nonneg h2.1
    rw [hq, hr]
    rw [wrap_id (n := rd l 2 / 256) (by omega) (by omega), wrap_id (n := rd l 2 / 256 * 256) (by omega) (by omega), wrap_id (by omega) (by omega), show rd l 2 / 256 * 256 + rd l 2 % 256 = rd l 2 by omega]
    exact (five l h5).symm
  · rw [if_neg hc] at h
    exact absurd h (by decide)
theorem entF_in (c s kd vol a v : Int) (h : entF c s kd vol a v = 0) : (1 ≤ c ∧ c ≤ 99) ∧ (1 ≤ s ∧ s ≤ 999) ∧ (1 ≤ kd ∧ kd ≤ 6) ∧ (1 ≤ vol ∧ vol ≤ 99) ∧ (0 ≤ a ∧ a ≤ 15) ∧ (0 ≤ v ∧ v ≤ 255) ∧ opF kd vol a v = 0 := by
  unfold entF at h
  by_cases h1 : (1 ≤ c ∧ c ≤ 99) ∧ 1 ≤ s ∧ s ≤ 999
  · rw [if_pos h1] at h
    refine ⟨h1.1, h1.2, ?_⟩
    have ho := h
    unfold opF at h
    suffices hx : (1 ≤ kd ∧ kd ≤ 6) ∧ (1 ≤ vol ∧ vol ≤ 99) ∧ (0 ≤ a ∧ a ≤ 15) ∧ (0 ≤ v ∧ v ≤ 255) from ⟨hx.1, hx.2.1, hx.2.2.1, hx.2.2.2, ho⟩
    split at h
    · split at h
      · exact absurd h (by decide)
      · split at h
        · exact absurd h (by decide)
        · omega
    · exact absurd h (by decide)
  · rw [if_neg h1] at h
    exact absurd h (by decide)
theorem unp_of_pack (c s kd vol a v : Int) (h : entF c s kd vol a v = 0) : unpF [c, s, wrap64 (wrap64 (kd * 256) + vol), a, v] = (0, c, s, kd, vol, a, v) := by
  obtain ⟨⟨c0, c1⟩, ⟨s0, s1⟩, ⟨k0, k1⟩, ⟨v0, v1⟩, ⟨a0, a1⟩, ⟨w0, w1⟩, _⟩ := entF_in _ _ _ _ _ _ h
  rw [wrap_id (n := kd * 256) (by omega) (by omega), wrap_id (by omega) (by omega)]
  have hq : Int.tdiv (kd * 256 + vol) 256 = kd := by rw [Int.tdiv_eq_ediv_of_nonneg (by omega)]; omega
  have hr : Int.tmod (kd * 256 + vol) 256 = vol := by rw [Int.tmod_eq_emod_of_nonneg (by omega)]; omega
  unfold unpF
  have hall : [c, s, kd * 256 + vol, a, v].all okW = true := by
    simp only [List.all_cons, List.all_nil, okW, Bool.and_true, Bool.and_eq_true, decide_eq_true_eq]
    omega
  have r0 : rd [c, s, kd * 256 + vol, a, v] 0 = c := rfl
  have r1 : rd [c, s, kd * 256 + vol, a, v] 1 = s := rfl
  have r2 : rd [c, s, kd * 256 + vol, a, v] 2 = kd * 256 + vol := rfl
  have r3 : rd [c, s, kd * 256 + vol, a, v] 3 = a := rfl
  have r4 : rd [c, s, kd * 256 + vol, a, v] 4 = v := rfl
  rw [r0, r1, r2, r3, r4, hq, hr, wrap_id (by omega) (by omega), if_pos ⟨rfl, hall, h⟩]
theorem FnEntries : ∀ (x0 : List (Int)), good44 x0 → ∃ k, laws_FnEntries.f k x0 = some true := by
  intro c ⟨h0, h2⟩
  refine Ev.rounds ?_
  unfold laws_FnEntries.f laws_lwBig.f
  simp only [Option.bind_some]
  by_cases hbig : (c.length : Int) > 1048576
  · simp only [decide_eq_true hbig, if_true]
    exact Ev.now _
  simp only [decide_eq_false hbig, Bool.false_eq_true, if_false]
  have hc : Src c := ⟨by omega, fun x hx => by
    have := h2 x hx
    simp only [Lit.wf] at this
    rw [Bool.and_eq_true] at this
    exact ⟨of_decide_eq_true this.1, of_decide_eq_true this.2⟩⟩
  obtain ⟨w, hw⟩ := drawUnpack_ev hc
  simp only [hw, Option.bind_some]
  have hj : Ev (fun k => laws_FnEntries.j0 k c false) true := by
    obtain ⟨⟨c1, s1, kd, vol, a, v⟩, hx⟩ := drawPack_ev hc
    by_cases he : entF c1 s1 kd vol a v = 0
    · obtain ⟨K, hK⟩ := impl_Unpack_ev [c1, s1, wrap64 (wrap64 (kd * 256) + vol), a, v]
      refine ⟨K + 1, fun k hk => ?_⟩
      obtain ⟨m, rfl⟩ : ∃ m, k = m + 1 := ⟨k - 1, by omega⟩
      simp only [laws_FnEntries.j0, Bool.false_eq_true, if_false, hx, Option.bind_some, impl_Pack_eq, packE, if_pos he, if_true]
      rw [show impl_UnpackEntry.f m _ = _ from hK m (by omega), unp_of_pack _ _ _ _ _ _ he]
      simp [impl_OpFault.f, (entF_in _ _ _ _ _ _ he).2.2.2.2.2.2]
    · refine ev_add 1 fun k => ?_
      simp only [laws_FnEntries.j0, Bool.false_eq_true, if_false, hx, Option.bind_some, impl_Pack_eq, packE, if_neg he, spec_EntryFault_eq, impl_EntryFault_eq]
      simp
  refine Ev.bind (impl_Unpack_ev w) ?_
  by_cases hu : (unpF w).1 = 0
  · obtain ⟨hp, h5⟩ := pack_of_unp w hu
    simp only [if_pos hu, impl_Pack_eq, Option.bind_some, hp]
    refine Ev.bind (nums_ev w (by omega)) ?_
    simp only [if_true]
    exact hj
  · simp only [if_neg hu]
    refine Ev.bind (spec_Unpack_ev w) ?_
    simp only [bne_self_eq_false]
    exact hj

end Go.Proofs.Ytkibnkfmcmbhnab.Pure
