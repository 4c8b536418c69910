/-
  For all arguments the program's PackEntry returns what the reference's returns; no conditions.
-/
import Derived.Test.YtkibnkfmcmbhnaaPFnExactPackEntryx5
import Derived.Test.YtkibnkfmcmbhnaaPW
import Derived.Test.YtkibnkfmcmbhnaaGoodFnExactPackEntry
namespace Go.Proofs.Ytkibnkfmcmbhnaa.Pure
open Go.RowKit Go.Proofs.Ytkibnkfmcmbhnaa.PFnExactPackEntry Go.Proofs.YtkibnkfmcmbhnaaW.PrintWords Go.Proofs.YtkibnkfmcmbhnaaW.PrintLast Go.Proofs.YtkibnkfmcmbhnaaW.PrintMore Go.Proofs.Ytkibnkfmcmbhnaa.PW

set_option linter.unusedSimpArgs false
set_option linter.unusedVariables false
/-- What an operation's fault is. -/
def opF (kd vol a v : Int) : Int :=
  if 1 ≤ kd ∧ kd ≤ 6 then
    (if ¬ (1 ≤ vol ∧ vol ≤ 99) ∨ ((2 ≤ kd ∧ kd ≤ 4) ∧ ¬ (0 ≤ a ∧ a ≤ 15)) ∨ (kd = 1 ∧ ¬ (1 ≤ v ∧ v ≤ 16)) ∨ (kd = 2 ∧ ¬ (0 ≤ v ∧ v ≤ 255)) ∨ (kd = 5 ∧ ¬ (1 ≤ v ∧ v ≤ 99)) then 3
     else if (¬ (2 ≤ kd ∧ kd ≤ 4) ∧ a ≠ 0) ∨ ((kd = 3 ∨ kd = 4 ∨ kd = 6) ∧ v ≠ 0) then 1 else 0)
  else 1
theorem spec_l1In_eq (a lo hi : Int) : spec_l1In.f a lo hi = some (decide (lo ≤ a) && decide (a ≤ hi)) := by
  unfold spec_l1In.f
  by_cases h : lo ≤ a <;> simp [h]
theorem impl_within_eq (a lo hi : Int) : impl_within.f a lo hi = some (decide (lo ≤ a) && decide (a ≤ hi)) := by
  unfold impl_within.f
  by_cases h : lo ≤ a <;> simp [h]
theorem spec_OpFault_eq (k : Nat) (kd vol a v : Int) : spec_OpFault.f (k + 3) kd vol a v = some (opF kd vol a v) := by
  unfold spec_OpFault.f
  simp only [spec_l1In_eq, Option.bind_some]
  by_cases hk : 1 ≤ kd ∧ kd ≤ 6
  · obtain ⟨hk1, hk2⟩ := hk
    by_cases h1 : 1 ≤ vol ∧ vol ≤ 99
    · by_cases h2 : 0 ≤ a ∧ a ≤ 15
      · have : kd = 1 ∨ kd = 2 ∨ kd = 3 ∨ kd = 4 ∨ kd = 5 ∨ kd = 6 := by omega
        rcases this with rfl | rfl | rfl | rfl | rfl | rfl <;>
          simp [spec_OpFault.j0, spec_OpFault.j1, spec_OpFault.j2, spec_l5Id.f, spec_l4Place.f, spec_l3Data.f, spec_l1In_eq, opF, h1.1, h1.2, h2.1, h2.2] <;>
          (repeat' split) <;> first | rfl | omega | (exfalso; simp_all; omega) | simp_all
      · have : kd = 1 ∨ kd = 2 ∨ kd = 3 ∨ kd = 4 ∨ kd = 5 ∨ kd = 6 := by omega
        have h2' : (decide (0 ≤ a) && decide (a ≤ 15)) = false := by simpa using h2
        rcases this with rfl | rfl | rfl | rfl | rfl | rfl <;>
          simp [spec_OpFault.j0, spec_OpFault.j1, spec_OpFault.j2, spec_l5Id.f, spec_l4Place.f, spec_l3Data.f, spec_l1In_eq, opF, h1.1, h1.2, h2'] <;>
          (repeat' split) <;> first | rfl | omega | (exfalso; simp_all; omega) | simp_all
    · have h1' : (decide (1 ≤ vol) && decide (vol ≤ 99)) = false := by simpa using h1
      have : kd = 1 ∨ kd = 2 ∨ kd = 3 ∨ kd = 4 ∨ kd = 5 ∨ kd = 6 := by omega
      rcases this with rfl | rfl | rfl | rfl | rfl | rfl <;>
        simp [spec_OpFault.j0, spec_OpFault.j1, spec_OpFault.j2, spec_l5Id.f, spec_l4Place.f, spec_l3Data.f, spec_l1In_eq, opF, h1'] <;>
        (repeat' split) <;> first | rfl | omega | (exfalso; simp_all; omega) | simp_all
  · have : (decide (1 ≤ kd) && decide (kd ≤ 6)) = false := by simpa using hk
    simp [this, opF, hk]
theorem impl_OpFault_eq (k : Nat) (kd vol a v : Int) : impl_OpFault.f (k + 3) kd vol a v = some (opF kd vol a v) := by
  unfold impl_OpFault.f
  simp only [impl_within_eq, Option.bind_some]
  by_cases hk : 1 ≤ kd ∧ kd ≤ 6
  · obtain ⟨hk1, hk2⟩ := hk
    by_cases h1 : 1 ≤ vol ∧ vol ≤ 99
    · by_cases h2 : 0 ≤ a ∧ a ≤ 15
      · have : kd = 1 ∨ kd = 2 ∨ kd = 3 ∨ kd = 4 ∨ kd = 5 ∨ kd = 6 := by omega
        rcases this with rfl | rfl | rfl | rfl | rfl | rfl <;>
          simp [impl_OpFault.j0, impl_OpFault.j1, impl_isId.f, impl_isTreePlace.f, impl_isQuota.f, impl_isByte.f, impl_within_eq, opF, h1.1, h1.2, h2.1, h2.2] <;>
          (repeat' split) <;> first | rfl | omega | (exfalso; simp_all; omega) | simp_all
      · have : kd = 1 ∨ kd = 2 ∨ kd = 3 ∨ kd = 4 ∨ kd = 5 ∨ kd = 6 := by omega
        have h2' : (decide (0 ≤ a) && decide (a ≤ 15)) = false := by simpa using h2
        rcases this with rfl | rfl | rfl | rfl | rfl | rfl <;>
          simp [impl_OpFault.j0, impl_OpFault.j1, impl_isId.f, impl_isTreePlace.f, impl_isQuota.f, impl_isByte.f, impl_within_eq, opF, h1.1, h1.2, h2'] <;>
          (repeat' split) <;> first | rfl | omega | (exfalso; simp_all; omega) | simp_all
    · have h1' : (decide (1 ≤ vol) && decide (vol ≤ 99)) = false := by simpa using h1
      have : kd = 1 ∨ kd = 2 ∨ kd = 3 ∨ kd = 4 ∨ kd = 5 ∨ kd = 6 := by omega
      rcases this with rfl | rfl | rfl | rfl | rfl | rfl <;>
        simp [impl_OpFault.j0, impl_OpFault.j1, impl_isId.f, impl_isTreePlace.f, impl_isQuota.f, impl_isByte.f, impl_within_eq, opF, h1'] <;>
        (repeat' split) <;> first | rfl | omega | (exfalso; simp_all; omega) | simp_all
  · have : (decide (1 ≤ kd) && decide (kd ≤ 6)) = false := by simpa using hk
    simp [this, opF, hk]
/-- What an entry's fault is. -/
def entF (c s kd vol a v : Int) : Int := if (1 ≤ c ∧ c ≤ 99) ∧ 1 ≤ s ∧ s ≤ 999 then opF kd vol a v else 3
theorem spec_EntryFault_eq (k : Nat) (c s kd vol a v : Int) : spec_EntryFault.f (k + 3) c s kd vol a v = some (entF c s kd vol a v) := by
  unfold spec_EntryFault.f entF
  simp only [spec_l1In_eq, spec_OpFault_eq, Option.bind_some]
  by_cases h1 : 1 ≤ c ∧ c ≤ 99
  · by_cases h2 : 1 ≤ s ∧ s ≤ 999
    · simp [h1.1, h1.2, h2.1, h2.2]
    · have h2' : (decide (1 ≤ s) && decide (s ≤ 999)) = false := by simpa using h2
      simp [h1.1, h1.2, h2', h2]
  · have h1' : (decide (1 ≤ c) && decide (c ≤ 99)) = false := by simpa using h1
    simp [h1', h1]
theorem impl_EntryFault_eq (k : Nat) (c s kd vol a v : Int) : impl_EntryFault.f (k + 3) c s kd vol a v = some (entF c s kd vol a v) := by
  unfold impl_EntryFault.f entF impl_isId.f
  simp only [impl_within_eq, impl_OpFault_eq, Option.bind_some]
  by_cases h1 : 1 ≤ c ∧ c ≤ 99
  · by_cases h2 : 1 ≤ s ∧ s ≤ 999
    · simp [h1.1, h1.2, h2.1, h2.2]
    · have h2' : (decide (1 ≤ s) && decide (s ≤ 999)) = false := by simpa using h2
      simp [h1.1, h1.2, h2', h2]
  · have h1' : (decide (1 ≤ c) && decide (c ≤ 99)) = false := by simpa using h1
    simp [h1', h1]

theorem eqInt64S_ev (xs : List Int) (hn : xs.length ≤ 9223372036854775806) : Ev (fun k => laws_eqInt64S.f k xs xs) true := by
  have h := ev_same laws_eqInt64S.l0 xs hn
    (fun i h0 h1 => ⟨0, fun k _ => by simp [laws_eqInt64S.l0, if_pos h0, if_pos h1]⟩)
    (fun k i h1 => by simp only [laws_eqInt64S.l0, if_neg h1])
  refine Ev.congr (fun k => ?_) h
  unfold laws_eqInt64S.f
  rw [if_pos rfl]
/-- Numbers from m on, one behind the other. -/
def upFrom (m : Int) (n : Nat) : List Int := (List.range n).map fun i => m + (i : Nat)
theorem upFrom_len (m : Int) (n : Nat) : (upFrom m n).length = n := by simp [upFrom]
theorem upFrom_get (m : Int) (n i : Nat) (h : i < n) : (upFrom m n).getD i 0 = m + i := by simp [upFrom, List.getD_eq_getElem?_getD, h]
theorem markInt64S_ev (xs : List Int) (m : Int) (h0 : 0 ≤ m) (h1 : m + xs.length ≤ 9223372036854775806) : Ev (fun k => laws_markInt64S.f k xs m) (m + xs.length, upFrom m xs.length) := by
  obtain ⟨r, hr0, hr⟩ := ev_loop (fun k (s : List Int × Int × Int) => laws_markInt64S.l0 k s.1 s.2.1 s.2.2)
    (fun s => ∃ i : Nat, i ≤ xs.length ∧ s.2.2 = i ∧ s.2.1 = m + i ∧ s.1 = upFrom m i ++ xs.drop i) (fun s => xs.length - s.2.2.toNat) (fun _ r => r = (m + xs.length, upFrom m xs.length))
    (fun s ⟨i, hi, e3, e2, e1⟩ => by
      obtain ⟨a, b, c⟩ := s
      simp only at e1 e2 e3
      subst e1; subst e2; subst e3
      have hl : (upFrom m i ++ xs.drop i).length = xs.length := by rw [List.length_append, upFrom_len, List.length_drop]; omega
      by_cases hlt : i < xs.length
      · right
        refine ⟨(upFrom m (i + 1) ++ xs.drop (i + 1), m + ((i + 1 : Nat) : Int), ((i + 1 : Nat) : Int)), ⟨i + 1, by omega, rfl, rfl, rfl⟩, by simp; omega, fun r hr => hr, 0, fun k _ => ?_⟩
        simp only [laws_markInt64S.l0]
        rw [if_pos (by rw [hl]; omega), if_pos (by omega), wrap_id (by omega) (by omega), wrap_id (by omega) (by omega)]
        congr 1
        · rw [Int.toNat_natCast, List.set_append_right _ _ (by rw [upFrom_len]; exact Nat.le_refl _), upFrom_len, Nat.sub_self, List.drop_eq_getElem_cons hlt, List.set_cons_zero]
          simp [upFrom, List.range_succ]
        · omega
      · left
        refine ⟨_, ?_, 0, fun k _ => by simp only [laws_markInt64S.l0]; rw [if_neg (by rw [hl]; omega)]⟩
        have : i = xs.length := by omega
        subst this
        simp) (xs, m, 0) ⟨0, by omega, rfl, by simp, by simp [upFrom]⟩
  rw [hr0] at hr
  exact hr
theorem heldInt64S_ev (n : Nat) (m : Int) (h0 : 0 ≤ m) (h1 : m + n ≤ 9223372036854775806) : Ev (fun k => laws_heldInt64S.f k (upFrom m n) m) (m + n) := by
  obtain ⟨r, hr0, hr⟩ := ev_loop (fun k (s : Int × Int) => laws_heldInt64S.l0 k (upFrom m n) s.1 s.2)
    (fun s => ∃ i : Nat, i ≤ n ∧ s.2 = i ∧ s.1 = m + i) (fun s => n - s.2.toNat) (fun _ r => r = m + n)
    (fun s ⟨i, hi, e2, e1⟩ => by
      obtain ⟨a, b⟩ := s
      simp only at e1 e2
      subst e1; subst e2
      by_cases hlt : i < n
      · right
        refine ⟨(m + ((i + 1 : Nat) : Int), ((i + 1 : Nat) : Int)), ⟨i + 1, by omega, rfl, rfl⟩, by simp; omega, fun r hr => hr, 0, fun k _ => ?_⟩
        simp only [laws_heldInt64S.l0]
        rw [if_pos (by rw [upFrom_len]; omega), if_pos (by omega), if_pos (by unfold rd; rw [Int.toNat_natCast, upFrom_get m n i hlt]), wrap_id (by omega) (by omega), wrap_id (by omega) (by omega)]
        congr 1
        omega
      · left
        refine ⟨_, ?_, 0, fun k _ => by simp only [laws_heldInt64S.l0]; rw [if_neg (by rw [upFrom_len]; omega)]⟩
        omega) (m, 0) ⟨0, by omega, rfl, by simp⟩
  rw [hr0] at hr
  exact hr

/-- What an entry's words are: a code, and a list. -/
def packE (c s kd vol a v : Int) : Int × List Int := if entF c s kd vol a v = 0 then (0, [c, s, wrap64 (wrap64 (kd * 256) + vol), a, v]) else (entF c s kd vol a v, [])
theorem spec_PackEntry_ev (c s kd vol a v : Int) : Ev (fun k => spec_PackEntry.f k c s kd vol a v) (packE c s kd vol a v) :=
  ev_add 3 fun k => by
    simp only [spec_PackEntry.f, spec_EntryFault_eq, spec_l8Pack.f, Option.bind_some, packE]
    split <;> rfl
theorem impl_PackEntry_ev (c s kd vol a v : Int) : Ev (fun k => impl_PackEntry.f k c s kd vol a v) (packE c s kd vol a v) :=
  ev_add 3 fun k => by
    simp only [impl_PackEntry.f, impl_EntryFault_eq, Option.bind_some, packE]
    split <;> rfl
theorem packE_len (c s kd vol a v : Int) : (packE c s kd vol a v).2.length ≤ 5 := by
  unfold packE
  split <;> simp
theorem FnExactPackEntry : ∀ (x0 : S30), good30 x0 → ∃ k, laws_FnExactPackEntry.f k x0.f0 x0.f1 x0.f2.f0 x0.f2.f1 x0.f2.f2 x0.f2.f3 = some true := by
  intro x0 _
  refine Ev.rounds ?_
  unfold laws_FnExactPackEntry.f
  have hto : ∀ a b c d e f, laws_toEntry.f a b c d e f = some (a, b, c, d, e, f) := fun a b c d e f => by simp [laws_toEntry.f, laws_toOp.f]
  simp only [hto, Option.bind_some]
  have hlen := packE_len x0.f0 x0.f1 x0.f2.f0 x0.f2.f1 x0.f2.f2 x0.f2.f3
  have hs := spec_PackEntry_ev x0.f0 x0.f1 x0.f2.f0 x0.f2.f1 x0.f2.f2 x0.f2.f3
  have hi := impl_PackEntry_ev x0.f0 x0.f1 x0.f2.f0 x0.f2.f1 x0.f2.f2 x0.f2.f3
  generalize packE x0.f0 x0.f1 x0.f2.f0 x0.f2.f1 x0.f2.f2 x0.f2.f3 = p at hs hi hlen
  have heq : Ev (fun k => laws_eqIntsResult.f k p.1 p.2 p.1 p.2) true := by
    unfold laws_eqIntsResult.f
    simp only [if_true]
    refine Ev.bind (eqInt64S_ev _ (by omega)) ?_
    simp only [if_true]
    exact Ev.now _
  have hm : Ev (fun k => laws_markIntsResult.f k p.1 p.2 1) (1 + (p.2.length : Int), upFrom 1 p.2.length) := by
    unfold laws_markIntsResult.f
    exact Ev.bind (markInt64S_ev _ 1 (by omega) (by omega)) (Ev.now _)
  have hh : Ev (fun k => laws_heldIntsResult.f k p.1 (upFrom 1 p.2.length) 1) (1 + (p.2.length : Int)) := by
    unfold laws_heldIntsResult.f
    refine Ev.bind (heldInt64S_ev _ 1 (by omega) (by omega)) ?_
    rw [if_neg (by omega)]
    exact Ev.now _
  have hneg : ¬ (1 + (p.2.length : Int) < 0) := by omega
  refine Ev.bind hs (Ev.bind hi (Ev.bind heq ?_))
  simp only [if_true]
  refine Ev.bind hm (Ev.bind hh ?_)
  simp only [if_true]
  simp only [if_neg hneg]
  refine Ev.bind hi (Ev.bind heq ?_)
  simp only [if_true]
  refine Ev.bind hh ?_
  simp only [if_true]
  simp only [if_neg hneg]
  exact Ev.now _

end Go.Proofs.Ytkibnkfmcmbhnaa.Pure
