/-
  For all arguments the program's LogFault returns what the reference's returns; no conditions.
-/
import Derived.Test.YtkibnkfmcmbhnaaPFnExactLogFaultx5
import Derived.Test.YtkibnkfmcmbhnaaPW
import Derived.Test.YtkibnkfmcmbhnaaGoodFnExactLogFault
namespace Go.Proofs.Ytkibnkfmcmbhnaa.Pure
open Go.RowKit Go.Proofs.Ytkibnkfmcmbhnaa.PFnExactLogFault Go.Proofs.YtkibnkfmcmbhnaaW.PrintWords Go.Proofs.YtkibnkfmcmbhnaaW.PrintLast Go.Proofs.YtkibnkfmcmbhnaaW.PrintMore Go.Proofs.Ytkibnkfmcmbhnaa.PW

set_option linter.unusedSimpArgs false
set_option linter.unusedVariables false
/-- What an operation's fault is. -/
def opF (kd vol a v : Int) : Int :=
  if 1 ≤ kd ∧ kd ≤ 6 then
    (if ¬ (1 ≤ vol ∧ vol ≤ 99) ∨ ((2 ≤ kd ∧ kd ≤ 4) ∧ ¬ (0 ≤ a ∧ a ≤ 15)) ∨ (kd = 1 ∧ ¬ (1 ≤ v ∧ v ≤ 16)) ∨ (kd = 2 ∧ ¬ (0 ≤ v ∧ v ≤ 255)) ∨ (kd = 5 ∧ ¬ (1 ≤ v ∧ v ≤ 99)) then 3
     else if (¬ (2 ≤ kd ∧ kd ≤ 4) ∧ a ≠ 0) ∨ ((kd = 3 ∨ kd = 4 ∨ kd = 6) ∧ v ≠ 0) then 1 else 0)
  else 1
theorem spec_l1In_eq (a lo hi : Int) : spec_l1In.f a lo hi = some (decide (lo ≤ a) && decide (a ≤ hi)) := by
  unfold spec_l1In.f
  by_cases h : lo ≤ a <;> simp [h]
theorem impl_within_eq (a lo hi : Int) : impl_within.f a lo hi = some (decide (lo ≤ a) && decide (a ≤ hi)) := by
  unfold impl_within.f
  by_cases h : lo ≤ a <;> simp [h]
theorem spec_OpFault_eq (k : Nat) (kd vol a v : Int) : spec_OpFault.f (k + 3) kd vol a v = some (opF kd vol a v) := by
  unfold spec_OpFault.f
  simp only [spec_l1In_eq, Option.bind_some]
  by_cases hk : 1 ≤ kd ∧ kd ≤ 6
  · obtain ⟨hk1, hk2⟩ := hk
    by_cases h1 : 1 ≤ vol ∧ vol ≤ 99
    · by_cases h2 : 0 ≤ a ∧ a ≤ 15
      · have : kd = 1 ∨ kd = 2 ∨ kd = 3 ∨ kd = 4 ∨ kd = 5 ∨ kd = 6 := by omega
        rcases this with rfl | rfl | rfl | rfl | rfl | rfl <;>
          simp [spec_OpFault.j0, spec_OpFault.j1, spec_OpFault.j2, spec_l5Id.f, spec_l4Place.f, spec_l3Data.f, spec_l1In_eq, opF, h1.1, h1.2, h2.1, h2.2] <;>
          (repeat' split) <;> first | rfl | omega | (exfalso; simp_all; omega) | simp_all
      · have : kd = 1 ∨ kd = 2 ∨ kd = 3 ∨ kd = 4 ∨ kd = 5 ∨ kd = 6 := by omega
        have h2' : (decide (0 ≤ a) && decide (a ≤ 15)) = false := by simpa using h2
        rcases this with rfl | rfl | rfl | rfl | rfl | rfl <;>
          simp [spec_OpFault.j0, spec_OpFault.j1, spec_OpFault.j2, spec_l5Id.f, spec_l4Place.f, spec_l3Data.f, spec_l1In_eq, opF, h1.1, h1.2, h2'] <;>
          (repeat' split) <;> first | rfl | omega | (exfalso; simp_all; omega) | simp_all
    · have h1' : (decide (1 ≤ vol) && decide (vol ≤ 99)) = false := by simpa using h1
      have : kd = 1 ∨ kd = 2 ∨ kd = 3 ∨ kd = 4 ∨ kd = 5 ∨ kd = 6 := by omega
      rcases this with rfl | rfl | rfl | rfl | rfl | rfl <;>
        simp [spec_OpFault.j0, spec_OpFault.j1, spec_OpFault.j2, spec_l5Id.f, spec_l4Place.f, spec_l3Data.f, spec_l1In_eq, opF, h1'] <;>
        (repeat' split) <;> first | rfl | omega | (exfalso; simp_all; omega) | simp_all
  · have : (decide (1 ≤ kd) && decide (kd ≤ 6)) = false := by simpa using hk
    simp [this, opF, hk]
theorem impl_OpFault_eq (k : Nat) (kd vol a v : Int) : impl_OpFault.f (k + 3) kd vol a v = some (opF kd vol a v) := by
  unfold impl_OpFault.f
  simp only [impl_within_eq, Option.bind_some]
  by_cases hk : 1 ≤ kd ∧ kd ≤ 6
  · obtain ⟨hk1, hk2⟩ := hk
    by_cases h1 : 1 ≤ vol ∧ vol ≤ 99
    · by_cases h2 : 0 ≤ a ∧ a ≤ 15
      · have : kd = 1 ∨ kd = 2 ∨ kd = 3 ∨ kd = 4 ∨ kd = 5 ∨ kd = 6 := by omega
        rcases this with rfl | rfl | rfl | rfl | rfl | rfl <;>
          simp [impl_OpFault.j0, impl_OpFault.j1, impl_isId.f, impl_isTreePlace.f, impl_isQuota.f, impl_isByte.f, impl_within_eq, opF, h1.1, h1.2, h2.1, h2.2] <;>
          (repeat' split) <;> first | rfl | omega | (exfalso; simp_all; omega) | simp_all
      · have : kd = 1 ∨ kd = 2 ∨ kd = 3 ∨ kd = 4 ∨ kd = 5 ∨ kd = 6 := by omega
        have h2' : (decide (0 ≤ a) && decide (a ≤ 15)) = false := by simpa using h2
        rcases this with rfl | rfl | rfl | rfl | rfl | rfl <;>
          simp [impl_OpFault.j0, impl_OpFault.j1, impl_isId.f, impl_isTreePlace.f, impl_isQuota.f, impl_isByte.f, impl_within_eq, opF, h1.1, h1.2, h2'] <;>
          (repeat' split) <;> first | rfl | omega | (exfalso; simp_all; omega) | simp_all
    · have h1' : (decide (1 ≤ vol) && decide (vol ≤ 99)) = false := by simpa using h1
      have : kd = 1 ∨ kd = 2 ∨ kd = 3 ∨ kd = 4 ∨ kd = 5 ∨ kd = 6 := by omega
      rcases this with rfl | rfl | rfl | rfl | rfl | rfl <;>
        simp [impl_OpFault.j0, impl_OpFault.j1, impl_isId.f, impl_isTreePlace.f, impl_isQuota.f, impl_isByte.f, impl_within_eq, opF, h1'] <;>
        (repeat' split) <;> first | rfl | omega | (exfalso; simp_all; omega) | simp_all
  · have : (decide (1 ≤ kd) && decide (kd ≤ 6)) = false := by simpa using hk
    simp [this, opF, hk]
/-- What an entry's fault is. -/
def entF (c s kd vol a v : Int) : Int := if (1 ≤ c ∧ c ≤ 99) ∧ 1 ≤ s ∧ s ≤ 999 then opF kd vol a v else 3
theorem spec_EntryFault_eq (k : Nat) (c s kd vol a v : Int) : spec_EntryFault.f (k + 3) c s kd vol a v = some (entF c s kd vol a v) := by
  unfold spec_EntryFault.f entF
  simp only [spec_l1In_eq, spec_OpFault_eq, Option.bind_some]
  by_cases h1 : 1 ≤ c ∧ c ≤ 99
  · by_cases h2 : 1 ≤ s ∧ s ≤ 999
    · simp [h1.1, h1.2, h2.1, h2.2]
    · have h2' : (decide (1 ≤ s) && decide (s ≤ 999)) = false := by simpa using h2
      simp [h1.1, h1.2, h2', h2]
  · have h1' : (decide (1 ≤ c) && decide (c ≤ 99)) = false := by simpa using h1
    simp [h1', h1]
theorem impl_EntryFault_eq (k : Nat) (c s kd vol a v : Int) : impl_EntryFault.f (k + 3) c s kd vol a v = some (entF c s kd vol a v) := by
  unfold impl_EntryFault.f entF impl_isId.f
  simp only [impl_within_eq, impl_OpFault_eq, Option.bind_some]
  by_cases h1 : 1 ≤ c ∧ c ≤ 99
  · by_cases h2 : 1 ≤ s ∧ s ≤ 999
    · simp [h1.1, h1.2, h2.1, h2.2]
    · have h2' : (decide (1 ≤ s) && decide (s ≤ 999)) = false := by simpa using h2
      simp [h1.1, h1.2, h2', h2]
  · have h1' : (decide (1 ≤ c) && decide (c ≤ 99)) = false := by simpa using h1
    simp [h1', h1]

/-- What a log's fault is. -/
def lg1 : List S34 → Int
  | [] => 0
  | x :: xs => if entF x.f0 x.f1 x.f2.f0 x.f2.f1 x.f2.f2 x.f2.f3 = 0 then lg1 xs else entF x.f0 x.f1 x.f2.f0 x.f2.f1 x.f2.f2 x.f2.f3
def logF (l : List S34) : Int := if (l.length : Int) > 40 then 2 else lg1 l
theorem lg_loop (xs : List S34) (L : Nat → Int → Option Int) (hn : xs.length ≤ 9223372036854775806)
    (h1 : ∀ (i : Nat) (x : S34), xs[i]? = some x → ∃ K, ∀ k, K ≤ k → L (k + 1) i = if entF x.f0 x.f1 x.f2.f0 x.f2.f1 x.f2.f2 x.f2.f3 = 0 then L k (wrap64 (i + 1)) else some (entF x.f0 x.f1 x.f2.f0 x.f2.f1 x.f2.f2 x.f2.f3))
    (h2 : ∀ k (i : Nat), xs.length ≤ i → L (k + 1) i = some 0) : Ev (fun k => L k 0) (lg1 xs) := by
  obtain ⟨r, hr0, hr⟩ := ev_loop (fun k (s : Int) => L k s) (fun s => 0 ≤ s ∧ s ≤ xs.length) (fun s => xs.length - s.toNat) (fun s r => r = lg1 (xs.drop s.toNat))
    (fun s hs => by
      obtain ⟨i, rfl⟩ := Int.eq_ofNat_of_zero_le hs.1
      by_cases hlt : i < xs.length
      · obtain ⟨K, hK⟩ := h1 i xs[i] (List.getElem?_eq_getElem hlt)
        have e1 : xs.drop i = xs[i] :: xs.drop (i + 1) := List.drop_eq_getElem_cons hlt
        rw [wrap_id (by omega) (by omega)] at hK
        by_cases hq : entF xs[i].f0 xs[i].f1 xs[i].f2.f0 xs[i].f2.f1 xs[i].f2.f2 xs[i].f2.f3 = 0
        · right
          simp only [if_pos hq] at hK
          refine ⟨((i + 1 : Nat) : Int), ⟨by omega, by omega⟩, by simp; omega, fun r hr => ?_, K, hK⟩
          simp only [Int.toNat_natCast] at hr ⊢
          rw [hr, e1]
          simp only [lg1, if_pos hq]
        · left
          simp only [if_neg hq] at hK
          refine ⟨_, ?_, K, hK⟩
          simp only [Int.toNat_natCast]
          rw [e1]
          simp only [lg1, if_neg hq]
      · left
        refine ⟨_, ?_, 0, fun k _ => h2 k i (by omega)⟩
        simp only [Int.toNat_natCast]
        rw [List.drop_eq_nil_of_le (by omega)]
        rfl) 0 ⟨by omega, by omega⟩
  simp at hr0
  rw [hr0] at hr
  exact hr
theorem spec_LogFault_ev (xs : List S34) : Ev (fun k => spec_LogFault.f k xs) (logF xs) := by
  unfold spec_LogFault.f logF
  by_cases h : (xs.length : Int) > 40
  · simp only [if_pos h]
    exact Ev.now _
  simp only [if_neg h]
  refine lg_loop xs (fun k i => spec_LogFault.l0 k xs i) (by omega) (fun i x hx => ⟨3, fun k hk => ?_⟩) (fun k i hi => by simp only [spec_LogFault.l0]; rw [if_neg (by omega)])
  obtain ⟨j, rfl⟩ : ∃ j, k = j + 3 := ⟨k - 3, by omega⟩
  have hl := (List.getElem?_eq_some_iff.1 hx).1
  have e : rd_T34 xs i = x := by simp [rd_T34, List.getD_eq_getElem?_getD, hx]
  simp only [spec_LogFault.l0, e, spec_EntryFault_eq, Option.bind_some]
  rw [if_pos (by omega), if_pos (by omega)]
theorem impl_LogFault_ev (xs : List S34) : Ev (fun k => impl_LogFault.f k xs) (logF xs) := by
  unfold impl_LogFault.f logF
  by_cases h : (xs.length : Int) > 40
  · simp only [if_pos h]
    exact Ev.now _
  simp only [if_neg h]
  refine lg_loop xs (fun k i => impl_LogFault.l0 k xs (xs.length : Int) i) (by omega) (fun i x hx => ⟨3, fun k hk => ?_⟩) (fun k i hi => by simp only [impl_LogFault.l0]; rw [if_neg (by omega)])
  obtain ⟨j, rfl⟩ : ∃ j, k = j + 3 := ⟨k - 3, by omega⟩
  have hl := (List.getElem?_eq_some_iff.1 hx).1
  have e : rd_T34 xs i = x := by simp [rd_T34, List.getD_eq_getElem?_getD, hx]
  simp only [impl_LogFault.l0, e, impl_EntryFault_eq, Option.bind_some]
  rw [if_pos (by omega), if_pos (by omega), if_pos (by omega)]

def toE (x : S30) : S34 := ⟨x.f0, x.f1, ⟨x.f2.f0, x.f2.f1, x.f2.f2, x.f2.f3⟩⟩
theorem toEntryS_ev (xs : List S30) (hn : xs.length ≤ 1048576) : Ev (fun k => laws_toEntryS.f k xs) (xs.map toE) := by
  have h := ev_conv laws_toEntryS.l0 toE z30 z34 xs (by omega)
    (fun k out i h0 h1 h2 => by simp only [laws_toEntryS.l0, laws_toEntry.f, laws_toOp.f, Option.bind_some, if_pos h0, if_pos h1, if_pos h2]; rfl)
    (fun k out i h1 => by simp only [laws_toEntryS.l0, if_neg h1])
  refine Ev.congr (fun k => ?_) h
  unfold laws_toEntryS.f
  rw [if_pos (by omega), if_pos (by simp; omega)]
  simp
theorem eqEntryS_ev (xs : List S34) (hn : xs.length ≤ 1048576) : Ev (fun k => laws_eqEntryS.f k xs xs) true := by
  have h := ev_same laws_eqEntryS.l0 xs (by omega)
    (fun i h0 h1 => ⟨0, fun k _ => by simp [laws_eqEntryS.l0, laws_eqEntry.f, laws_eqOp.f, if_pos h0, if_pos h1]⟩)
    (fun k i h1 => by simp only [laws_eqEntryS.l0, if_neg h1])
  refine Ev.congr (fun k => ?_) h
  unfold laws_eqEntryS.f
  rw [if_pos rfl]

theorem sz_eq (l : List S30) (n : Int) (h0 : 0 ≤ n) (h1 : n ≤ 1048576) (hl : l.length ≤ 9223372036854775807) : laws_szEntryS.f l n = some (if n - l.length < 0 then -1 else n - l.length) := by
  unfold laws_szEntryS.f
  rw [wrap_id (by omega) (by omega)]
  split <;> simp_all

theorem FnExactLogFault : ∀ (x0 : List (S30)), good37 x0 → ∃ k, laws_FnExactLogFault.f k x0 = some true := by
  intro x0 g0
  refine Ev.rounds ?_
  unfold laws_FnExactLogFault.f
  refine Ev.bind (ev_eq 0 fun _ _ => sz_eq x0 1048576 (by omega) (by omega) g0.1) ?_
  by_cases h0 : (1048576 : Int) - x0.length < 0
  · simp only [if_pos h0]
    simp only [show (-1 : Int) < 0 from by decide, if_true]
    exact Ev.now true
  simp only [if_neg h0]
  have e0 := toEntryS_ev x0 (by omega)
  refine Ev.bind e0 (Ev.bind (spec_LogFault_ev _) (Ev.bind e0 (Ev.bind (impl_LogFault_ev _) ?_)))
  simp only [if_true]
  refine Ev.bind e0 (Ev.bind (eqEntryS_ev _ (by simp; omega)) ?_)
  simp only [if_true]
  exact Ev.now _

end Go.Proofs.Ytkibnkfmcmbhnaa.Pure
