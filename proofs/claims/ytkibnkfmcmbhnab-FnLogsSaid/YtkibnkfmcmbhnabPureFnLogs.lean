/-
  Whatever is drawn, what two logs have in common is a beginning of both, and the best log is of the greatest view; no conditions beyond the row's own.
-/
import Derived.Test.YtkibnkfmcmbhnabPFnLogsx9
import Derived.Test.YtkibnkfmcmbhnabPW
import Derived.Test.YtkibnkfmcmbhnabGoodFnLogs
namespace Go.Proofs.Ytkibnkfmcmbhnab.Pure
open Go.RowKit Go.Proofs.Ytkibnkfmcmbhnab.PFnLogs Go.Proofs.YtkibnkfmcmbhnabW.PrintWords Go.Proofs.YtkibnkfmcmbhnabW.PrintLast Go.Proofs.YtkibnkfmcmbhnabW.PrintMore Go.Proofs.Ytkibnkfmcmbhnab.PW

set_option linter.unusedSimpArgs false
set_option linter.unusedVariables false
/-- '==' of entries, as a Bool. -/
def eqE (x y : S26) : Bool := ((x.f0) == (y.f0) && ((x.f1) == (y.f1) && (((x.f2.f0) == (y.f2.f0) && ((x.f2.f1) == (y.f2.f1) && ((x.f2.f2) == (y.f2.f2) && ((x.f2.f3) == (y.f2.f3))))))))

/-- What an operation's fault is. -/
def opF (kd vol a v : Int) : Int :=
  if 1 ≤ kd ∧ kd ≤ 6 then
    (if ¬ (1 ≤ vol ∧ vol ≤ 99) ∨ ((2 ≤ kd ∧ kd ≤ 4) ∧ ¬ (0 ≤ a ∧ a ≤ 15)) ∨ (kd = 1 ∧ ¬ (1 ≤ v ∧ v ≤ 16)) ∨ (kd = 2 ∧ ¬ (0 ≤ v ∧ v ≤ 255)) ∨ (kd = 5 ∧ ¬ (1 ≤ v ∧ v ≤ 99)) then 3
     else if (¬ (2 ≤ kd ∧ kd ≤ 4) ∧ a ≠ 0) ∨ ((kd = 3 ∨ kd = 4 ∨ kd = 6) ∧ v ≠ 0) then 1 else 0)
  else 1
theorem spec_l1In_eq (a lo hi : Int) : spec_l1In.f a lo hi = some (decide (lo ≤ a) && decide (a ≤ hi)) := by
  unfold spec_l1In.f
  by_cases h : lo ≤ a <;> simp [h]
theorem impl_within_eq (a lo hi : Int) : impl_within.f a lo hi = some (decide (lo ≤ a) && decide (a ≤ hi)) := by
  unfold impl_within.f
  by_cases h : lo ≤ a <;> simp [h]
theorem spec_OpFault_eq (k : Nat) (kd vol a v : Int) : spec_OpFault.f (k + 3) kd vol a v = some (opF kd vol a v) := by
  unfold spec_OpFault.f
  simp only [spec_l1In_eq, Option.bind_some]
  by_cases hk : 1 ≤ kd ∧ kd ≤ 6
  · obtain ⟨hk1, hk2⟩ := hk
    by_cases h1 : 1 ≤ vol ∧ vol ≤ 99
    · by_cases h2 : 0 ≤ a ∧ a ≤ 15
      · have : kd = 1 ∨ kd = 2 ∨ kd = 3 ∨ kd = 4 ∨ kd = 5 ∨ kd = 6 := by omega
        rcases this with rfl | rfl | rfl | rfl | rfl | rfl <;>
          simp [spec_OpFault.j0, spec_OpFault.j1, spec_OpFault.j2, spec_l5Id.f, spec_l4Place.f, spec_l3Data.f, spec_l1In_eq, opF, h1.1, h1.2, h2.1, h2.2] <;>
          (repeat' split) <;> first | rfl | omega | (exfalso; simp_all; omega) | simp_all
      · have : kd = 1 ∨ kd = 2 ∨ kd = 3 ∨ kd = 4 ∨ kd = 5 ∨ kd = 6 := by omega
        have h2' : (decide (0 ≤ a) && decide (a ≤ 15)) = false := by simpa using h2
        rcases this with rfl | rfl | rfl | rfl | rfl | rfl <;>
          simp [spec_OpFault.j0, spec_OpFault.j1, spec_OpFault.j2, spec_l5Id.f, spec_l4Place.f, spec_l3Data.f, spec_l1In_eq, opF, h1.1, h1.2, h2'] <;>
          (repeat' split) <;> first | rfl | omega | (exfalso; simp_all; omega) | simp_all
    · have h1' : (decide (1 ≤ vol) && decide (vol ≤ 99)) = false := by simpa using h1
      have : kd = 1 ∨ kd = 2 ∨ kd = 3 ∨ kd = 4 ∨ kd = 5 ∨ kd = 6 := by omega
      rcases this with rfl | rfl | rfl | rfl | rfl | rfl <;>
        simp [spec_OpFault.j0, spec_OpFault.j1, spec_OpFault.j2, spec_l5Id.f, spec_l4Place.f, spec_l3Data.f, spec_l1In_eq, opF, h1'] <;>
        (repeat' split) <;> first | rfl | omega | (exfalso; simp_all; omega) | simp_all
  · have : (decide (1 ≤ kd) && decide (kd ≤ 6)) = false := by simpa using hk
    simp [this, opF, hk]
theorem impl_OpFault_eq (k : Nat) (kd vol a v : Int) : impl_OpFault.f (k + 3) kd vol a v = some (opF kd vol a v) := by
  unfold impl_OpFault.f
  simp only [impl_within_eq, Option.bind_some]
  by_cases hk : 1 ≤ kd ∧ kd ≤ 6
  · obtain ⟨hk1, hk2⟩ := hk
    by_cases h1 : 1 ≤ vol ∧ vol ≤ 99
    · by_cases h2 : 0 ≤ a ∧ a ≤ 15
      · have : kd = 1 ∨ kd = 2 ∨ kd = 3 ∨ kd = 4 ∨ kd = 5 ∨ kd = 6 := by omega
        rcases this with rfl | rfl | rfl | rfl | rfl | rfl <;>
          simp [impl_OpFault.j0, impl_OpFault.j1, impl_isId.f, impl_isTreePlace.f, impl_isQuota.f, impl_isByte.f, impl_within_eq, opF, h1.1, h1.2, h2.1, h2.2] <;>
          (repeat' split) <;> first | rfl | omega | (exfalso; simp_all; omega) | simp_all
      · have : kd = 1 ∨ kd = 2 ∨ kd = 3 ∨ kd = 4 ∨ kd = 5 ∨ kd = 6 := by omega
        have h2' : (decide (0 ≤ a) && decide (a ≤ 15)) = false := by simpa using h2
        rcases this with rfl | rfl | rfl | rfl | rfl | rfl <;>
          simp [impl_OpFault.j0, impl_OpFault.j1, impl_isId.f, impl_isTreePlace.f, impl_isQuota.f, impl_isByte.f, impl_within_eq, opF, h1.1, h1.2, h2'] <;>
          (repeat' split) <;> first | rfl | omega | (exfalso; simp_all; omega) | simp_all
    · have h1' : (decide (1 ≤ vol) && decide (vol ≤ 99)) = false := by simpa using h1
      have : kd = 1 ∨ kd = 2 ∨ kd = 3 ∨ kd = 4 ∨ kd = 5 ∨ kd = 6 := by omega
      rcases this with rfl | rfl | rfl | rfl | rfl | rfl <;>
        simp [impl_OpFault.j0, impl_OpFault.j1, impl_isId.f, impl_isTreePlace.f, impl_isQuota.f, impl_isByte.f, impl_within_eq, opF, h1'] <;>
        (repeat' split) <;> first | rfl | omega | (exfalso; simp_all; omega) | simp_all
  · have : (decide (1 ≤ kd) && decide (kd ≤ 6)) = false := by simpa using hk
    simp [this, opF, hk]
/-- What an entry's fault is. -/
def entF (c s kd vol a v : Int) : Int := if (1 ≤ c ∧ c ≤ 99) ∧ 1 ≤ s ∧ s ≤ 999 then opF kd vol a v else 3
theorem spec_EntryFault_eq (k : Nat) (c s kd vol a v : Int) : spec_EntryFault.f (k + 3) c s kd vol a v = some (entF c s kd vol a v) := by
  unfold spec_EntryFault.f entF
  simp only [spec_l1In_eq, spec_OpFault_eq, Option.bind_some]
  by_cases h1 : 1 ≤ c ∧ c ≤ 99
  · by_cases h2 : 1 ≤ s ∧ s ≤ 999
    · simp [h1.1, h1.2, h2.1, h2.2]
    · have h2' : (decide (1 ≤ s) && decide (s ≤ 999)) = false := by simpa using h2
      simp [h1.1, h1.2, h2', h2]
  · have h1' : (decide (1 ≤ c) && decide (c ≤ 99)) = false := by simpa using h1
    simp [h1', h1]
theorem impl_EntryFault_eq (k : Nat) (c s kd vol a v : Int) : impl_EntryFault.f (k + 3) c s kd vol a v = some (entF c s kd vol a v) := by
  unfold impl_EntryFault.f entF impl_isId.f
  simp only [impl_within_eq, impl_OpFault_eq, Option.bind_some]
  by_cases h1 : 1 ≤ c ∧ c ≤ 99
  · by_cases h2 : 1 ≤ s ∧ s ≤ 999
    · simp [h1.1, h1.2, h2.1, h2.2]
    · have h2' : (decide (1 ≤ s) && decide (s ≤ 999)) = false := by simpa using h2
      simp [h1.1, h1.2, h2', h2]
  · have h1' : (decide (1 ≤ c) && decide (c ≤ 99)) = false := by simpa using h1
    simp [h1', h1]

/-- What a log's fault is. -/
def lg1 : List S26 → Int
  | [] => 0
  | x :: xs => if entF x.f0 x.f1 x.f2.f0 x.f2.f1 x.f2.f2 x.f2.f3 = 0 then lg1 xs else entF x.f0 x.f1 x.f2.f0 x.f2.f1 x.f2.f2 x.f2.f3
def logF (l : List S26) : Int := if (l.length : Int) > 40 then 2 else lg1 l
theorem lg_loop (xs : List S26) (L : Nat → Int → Option Int) (hn : xs.length ≤ 9223372036854775806)
    (h1 : ∀ (i : Nat) (x : S26), xs[i]? = some x → ∃ K, ∀ k, K ≤ k → L (k + 1) i = if entF x.f0 x.f1 x.f2.f0 x.f2.f1 x.f2.f2 x.f2.f3 = 0 then L k (wrap64 (i + 1)) else some (entF x.f0 x.f1 x.f2.f0 x.f2.f1 x.f2.f2 x.f2.f3))
    (h2 : ∀ k (i : Nat), xs.length ≤ i → L (k + 1) i = some 0) : Ev (fun k => L k 0) (lg1 xs) := by
  obtain ⟨r, hr0, hr⟩ := ev_loop (fun k (s : Int) => L k s) (fun s => 0 ≤ s ∧ s ≤ xs.length) (fun s => xs.length - s.toNat) (fun s r => r = lg1 (xs.drop s.toNat))
    (fun s hs => by
      obtain ⟨i, rfl⟩ := Int.eq_ofNat_of_zero_le hs.1
      by_cases hlt : i < xs.length
      · obtain ⟨K, hK⟩ := h1 i xs[i] (List.getElem?_eq_getElem hlt)
        have e1 : xs.drop i = xs[i] :: xs.drop (i + 1) := List.drop_eq_getElem_cons hlt
        rw [wrap_id (by omega) (by omega)] at hK
        by_cases hq : entF xs[i].f0 xs[i].f1 xs[i].f2.f0 xs[i].f2.f1 xs[i].f2.f2 xs[i].f2.f3 = 0
        · right
          simp only [if_pos hq] at hK
          refine ⟨((i + 1 : Nat) : Int), ⟨by omega, by omega⟩, by simp; omega, fun r hr => ?_, K, hK⟩
          simp only [Int.toNat_natCast] at hr ⊢
          rw [hr, e1]
          simp only [lg1, if_pos hq]
        · left
          simp only [if_neg hq] at hK
          refine ⟨_, ?_, K, hK⟩
          simp only [Int.toNat_natCast]
          rw [e1]
          simp only [lg1, if_neg hq]
      · left
        refine ⟨_, ?_, 0, fun k _ => h2 k i (by omega)⟩
        simp only [Int.toNat_natCast]
        rw [List.drop_eq_nil_of_le (by omega)]
        rfl) 0 ⟨by omega, by omega⟩
  simp at hr0
  rw [hr0] at hr
  exact hr
theorem spec_LogFault_ev (xs : List S26) : Ev (fun k => spec_LogFault.f k xs) (logF xs) := by
  unfold spec_LogFault.f logF
  by_cases h : (xs.length : Int) > 40
  · simp only [if_pos h]
    exact Ev.now _
  simp only [if_neg h]
  refine lg_loop xs (fun k i => spec_LogFault.l0 k xs i) (by omega) (fun i x hx => ⟨3, fun k hk => ?_⟩) (fun k i hi => by simp only [spec_LogFault.l0]; rw [if_neg (by omega)])
  obtain ⟨j, rfl⟩ : ∃ j, k = j + 3 := ⟨k - 3, by omega⟩
  have hl := (List.getElem?_eq_some_iff.1 hx).1
  have e : rd_T26 xs i = x := by simp [rd_T26, List.getD_eq_getElem?_getD, hx]
  simp only [spec_LogFault.l0, e, spec_EntryFault_eq, Option.bind_some]
  rw [if_pos (by omega), if_pos (by omega)]
theorem impl_LogFault_ev (xs : List S26) : Ev (fun k => impl_LogFault.f k xs) (logF xs) := by
  unfold impl_LogFault.f logF
  by_cases h : (xs.length : Int) > 40
  · simp only [if_pos h]
    exact Ev.now _
  simp only [if_neg h]
  refine lg_loop xs (fun k i => impl_LogFault.l0 k xs (xs.length : Int) i) (by omega) (fun i x hx => ⟨3, fun k hk => ?_⟩) (fun k i hi => by simp only [impl_LogFault.l0]; rw [if_neg (by omega)])
  obtain ⟨j, rfl⟩ : ∃ j, k = j + 3 := ⟨k - 3, by omega⟩
  have hl := (List.getElem?_eq_some_iff.1 hx).1
  have e : rd_T26 xs i = x := by simp [rd_T26, List.getD_eq_getElem?_getD, hx]
  simp only [impl_LogFault.l0, e, impl_EntryFault_eq, Option.bind_some]
  rw [if_pos (by omega), if_pos (by omega), if_pos (by omega)]

theorem spec_CommonOf_ev (xs ys : List S26) (hn : xs.length ≤ 1048576) : Ev (fun k => spec_CommonOf.f k xs ys) (cm eqE xs ys : Int) :=
  ev_common eqE z26 xs ys (fun k i => spec_CommonOf.l0 k xs ys i) (by omega)
    (fun k i h0 h1 h2 hq => by simp only [spec_CommonOf.l0, if_pos h0, if_pos h1, if_pos h2]; exact if_pos hq)
    (fun k i h0 h1 h2 hq => by simp only [spec_CommonOf.l0, if_pos h0, if_pos h1, if_pos h2]; exact if_neg hq)
    (fun k i h0 h => by
      simp only [spec_CommonOf.l0, if_pos h0]
      by_cases h1 : i < (xs.length : Int)
      · rw [if_pos h1, if_neg (fun h2 => h ⟨h1, h2⟩)]
      · rw [if_neg h1])
theorem mn_lt (i a b : Int) : i < mn a b ↔ i < a ∧ i < b := by unfold mn; split <;> omega
theorem impl_common_ev (xs ys : List S26) (hn : xs.length ≤ 1048576) : Ev (fun k => impl_common.f k xs ys) (cm eqE xs ys : Int) :=
  ev_common eqE z26 xs ys (fun k i => impl_common.l0 k xs ys i) (by omega)
    (fun k i h0 h1 h2 hq => by simp only [impl_common.l0, if_pos ((mn_lt ..).2 ⟨h1, h2⟩), if_pos h0, if_pos h1, if_pos h2]; exact if_pos hq)
    (fun k i h0 h1 h2 hq => by simp only [impl_common.l0, if_pos ((mn_lt ..).2 ⟨h1, h2⟩), if_pos h0, if_pos h1, if_pos h2]; exact if_neg hq)
    (fun k i h0 h => by simp only [impl_common.l0, if_neg (fun h' => h ((mn_lt ..).1 h'))])

/-- One step of the search for the best log: b the best one so far, i the next. -/
def bstep (ls : List Int) (lg : List (List S26)) (b i : Int) : Int :=
  if rd ls i > rd ls b then i else if rd ls i = rd ls b then (if ((lg.getD i.toNat []).length : Int) > ((lg.getD b.toNat []).length : Int) then i else b) else b
def bgo (ls : List Int) (lg : List (List S26)) : Nat → Int → Int → Int
  | 0, b, _ => b
  | d + 1, b, i => bgo ls lg d (bstep ls lg b i) (i + 1)
theorem bstep_in (ls : List Int) (lg : List (List S26)) (b i n : Int) (h0 : 0 ≤ b) (h1 : b < n) (h2 : 0 ≤ i) (h3 : i < n) : 0 ≤ bstep ls lg b i ∧ bstep ls lg b i < n := by
  unfold bstep
  (repeat' split) <;> omega
theorem spec_best_ev (ls : List Int) (lg : List (List S26)) (hl : ls.length = lg.length) (hn : ls.length ≤ 9223372036854775806) (d : Nat) : ∀ (b i : Int), 0 ≤ b → b < ls.length → 0 ≤ i → i + d = ls.length → Ev (fun k => spec_BestLog.l0 k ls lg b i) (0, bgo ls lg d b i) := by
  induction d with
  | zero =>
    intro b i _ _ _ h
    exact Ev.step (fun k => by simp only [spec_BestLog.l0]; rw [if_neg (by omega)]; rfl) (Ev.now _)
  | succ d ih =>
    intro b i h0 h1 h2 h3
    have hb := bstep_in ls lg b i ls.length h0 h1 h2 (by omega)
    refine Ev.step (f := fun k => spec_BestLog.l0 k ls lg (bstep ls lg b i) (i + 1)) (fun k => ?_) (ih _ _ hb.1 hb.2 (by omega) (by omega))
    simp only [spec_BestLog.l0, bstep]
    rw [if_pos (by omega), if_pos h2, if_pos h0, if_pos h1, if_pos (show i < (lg.length : Int) by omega), if_pos (show b < (lg.length : Int) by omega), wrap_id (by omega) (by omega)]
    unfold rd_L3
    (repeat' split) <;> first | rfl | omega
theorem impl_best_ev (ls : List Int) (lg : List (List S26)) (hl : ls.length = lg.length) (hn : ls.length ≤ 9223372036854775806) (d : Nat) : ∀ (b i : Int), 0 ≤ b → b < ls.length → 0 ≤ i → i + d = ls.length → Ev (fun k => impl_best.l0 k ls lg b ls (ls.length : Int) i) (bgo ls lg d b i) := by
  induction d with
  | zero =>
    intro b i _ _ _ h
    exact Ev.step (fun k => by simp only [impl_best.l0]; rw [if_neg (by omega)]; rfl) (Ev.now _)
  | succ d ih =>
    intro b i h0 h1 h2 h3
    have hb := bstep_in ls lg b i ls.length h0 h1 h2 (by omega)
    refine Ev.step (f := fun k => impl_best.l0 k ls lg (bstep ls lg b i) ls (ls.length : Int) (i + 1)) (fun k => ?_) (ih _ _ hb.1 hb.2 (by omega) (by omega))
    simp only [impl_best.l0, bstep]
    rw [if_pos (show i < (ls.length : Int) by omega), if_pos h2, if_pos (show i < (ls.length : Int) by omega), if_pos h0, if_pos h1, if_pos (show i < (lg.length : Int) by omega), if_pos (show b < (lg.length : Int) by omega), wrap_id (by omega) (by omega)]
    unfold rd_L3
    (repeat' split) <;> first | rfl | omega
/-- The best log's place, or a code. -/
def bestF (ls : List Int) (lg : List (List S26)) : Int × Int := if ls.length = lg.length then (if ls.length = 0 then (4, 0) else (0, bgo ls lg (ls.length - 1) 0 1)) else (1, 0)
theorem spec_BestLog_ev (ls : List Int) (lg : List (List S26)) (hn : ls.length ≤ 9223372036854775806) : Ev (fun k => spec_BestLog.f k ls lg) (bestF ls lg) := by
  unfold spec_BestLog.f bestF
  by_cases hl : ls.length = lg.length
  · rw [if_pos hl]
    by_cases h0 : ls.length = 0
    · rw [if_pos h0]
      simp only [if_pos (show (ls.length : Int) = (lg.length : Int) by omega), if_pos (show (ls.length : Int) = 0 by omega)]
      exact Ev.now _
    · rw [if_neg h0]
      simp only [if_pos (show (ls.length : Int) = (lg.length : Int) by omega), if_neg (show ¬ (ls.length : Int) = 0 by omega)]
      exact spec_best_ev ls lg hl hn _ 0 1 (by omega) (by omega) (by omega) (by omega)
  · rw [if_neg hl]
    simp only [if_neg (show ¬ (ls.length : Int) = (lg.length : Int) by omega)]
    exact Ev.now _
theorem impl_BestLog_ev (ls : List Int) (lg : List (List S26)) (hn : ls.length ≤ 9223372036854775806) : Ev (fun k => impl_BestLog.f k ls lg) (bestF ls lg) := by
  unfold impl_BestLog.f bestF
  by_cases hl : ls.length = lg.length
  · rw [if_pos hl]
    by_cases h0 : ls.length = 0
    · rw [if_pos h0]
      simp only [if_pos (show (ls.length : Int) = (lg.length : Int) by omega), if_pos (show (ls.length : Int) = 0 by omega)]
      exact Ev.now _
    · rw [if_neg h0]
      simp only [if_pos (show (ls.length : Int) = (lg.length : Int) by omega), if_neg (show ¬ (ls.length : Int) = 0 by omega)]
      refine Ev.bind (a := bgo ls lg (ls.length - 1) 0 1) ?_ (Ev.now _)
      have h := impl_best_ev ls lg hl hn ls.length 0 0 (by omega) (by omega) (by omega) (by omega)
      have e : bgo ls lg ls.length 0 0 = bgo ls lg (ls.length - 1) 0 1 := by
        obtain ⟨n, hn'⟩ : ∃ n, ls.length = n + 1 := ⟨ls.length - 1, by omega⟩
        rw [hn']
        simp [bgo, bstep]
      rw [e] at h
      exact h
  · rw [if_neg hl]
    simp only [if_neg (show ¬ (ls.length : Int) = (lg.length : Int) by omega)]
    exact Ev.now _

/-- A source of draws: its bytes are bytes, and it isn't long. -/
def Src (c : List Int) : Prop := c.length ≤ 1048576 ∧ ∀ x ∈ c, 0 ≤ x ∧ x ≤ 255
theorem src_rd {c : List Int} (h : Src c) (i : Int) : 0 ≤ rd c i ∧ rd c i ≤ 255 := by
  unfold rd
  rw [List.getD_eq_getElem?_getD]
  cases e : c[i.toNat]? with
  | none => simp
  | some x => exact h.2 x (List.mem_of_getElem? e)
theorem next_ev {c : List Int} (hc : Src c) (s n : Int) (h0 : 0 ≤ s) (h1 : s ≤ 1000000) : ∃ r, spec_l1Next.f c s n = some (r, s + 1) ∧ 0 ≤ r ∧ (1 ≤ n → r < n) ∧ (n < 1 → r = 0) := by
  unfold spec_l1Next.f
  rw [wrap_id (n := s + 1) (by omega) (by omega)]
  by_cases hn : n < 1
  · rw [if_pos hn]
    exact ⟨0, rfl, by omega, fun h => by omega, fun _ => rfl⟩
  rw [if_neg hn, wrap_id (n := s + 1 - 1) (by omega) (by omega)]
  have e1 : s + 1 - 1 = s := by omega
  rw [e1]
  have tm : ∀ v : Int, 0 ≤ v → 0 ≤ Int.tmod v n ∧ Int.tmod v n < n := fun v hv => ⟨Int.tmod_nonneg _ hv, Int.tmod_lt_of_pos _ (by omega)⟩
  by_cases hz : (c.length : Int) = 0
  · rw [if_pos hz, if_neg (by omega), wrap_id (by omega) (by omega)]
    exact ⟨_, rfl, (tm _ (by omega)).1, fun _ => (tm _ (by omega)).2, fun h => absurd h hn⟩
  rw [if_neg hz]
  have hk : (0 : Int) < c.length := by omega
  have hl := hc.1
  rw [if_pos (Int.tmod_nonneg _ h0), if_pos (Int.tmod_lt_of_pos _ hk)]
  have hd0 : 0 ≤ Int.tdiv s c.length := Int.tdiv_nonneg h0 (by omega)
  have hd1 : Int.tdiv s c.length ≤ s := by rw [Int.tdiv_eq_ediv_of_nonneg h0]; exact Int.ediv_le_self _ h0
  have hr := src_rd hc (Int.tmod s c.length)
  rw [wrap_id (n := rd c (Int.tmod s c.length)) (by omega) (by omega), wrap_id (n := Int.tdiv s c.length) (by omega) (by omega), wrap_id (n := Int.tdiv s c.length * 37) (by omega) (by omega), wrap_id (n := rd c (Int.tmod s c.length) + Int.tdiv s c.length * 37) (by omega) (by omega)]
  by_cases hb : n > 200
  · rw [if_pos hb, wrap_id (n := s + 1) (by omega) (by omega), if_pos (Int.tmod_nonneg _ (by omega)), if_pos (Int.tmod_lt_of_pos _ hk), if_neg (by omega)]
    have hr2 := src_rd hc (Int.tmod (s + 1) c.length)
    rw [wrap_id (n := (rd c (Int.tmod s c.length) + Int.tdiv s c.length * 37) * 251) (by omega) (by omega), wrap_id (n := rd c (Int.tmod (s + 1) c.length)) (by omega) (by omega), wrap_id (n := rd c (Int.tmod (s + 1) c.length) * 13) (by omega) (by omega), wrap_id (n := (rd c (Int.tmod s c.length) + Int.tdiv s c.length * 37) * 251 + rd c (Int.tmod (s + 1) c.length) * 13) (by omega) (by omega), wrap_id (n := (rd c (Int.tmod s c.length) + Int.tdiv s c.length * 37) * 251 + rd c (Int.tmod (s + 1) c.length) * 13 + s) (by omega) (by omega)]
    exact ⟨_, rfl, (tm _ (by omega)).1, fun _ => (tm _ (by omega)).2, fun h => absurd h hn⟩
  · rw [if_neg hb, if_neg (by omega)]
    exact ⟨_, rfl, (tm _ (by omega)).1, fun _ => (tm _ (by omega)).2, fun h => absurd h hn⟩

theorem chance_ev {c : List Int} (hc : Src c) (s n : Int) (h0 : 0 ≤ s) (h1 : s ≤ 1000000) : ∃ b, spec_l1Chance.f c s n = some (b, s + 1) := by
  obtain ⟨r, hr, _⟩ := next_ev hc s n h0 h1
  exact ⟨_, by unfold spec_l1Chance.f; rw [hr]; rfl⟩
/-- An operation that is drawn: what is known of it. -/
theorem op_ev {c : List Int} (hc : Src c) (s : Int) (h0 : 0 ≤ s) (h1 : s ≤ 900000) : ∃ a b d e s', spec_l5Op.f c s = some (a, b, d, e, s') ∧ s ≤ s' ∧ s' ≤ s + 6 ∧ opF a b d e = 0 := by
  unfold spec_l5Op.f
  obtain ⟨v, e1, v0, v1, _⟩ := next_ev hc s 4 h0 (by omega)
  obtain ⟨q, e2, q0, q1, _⟩ := next_ev hc (s + 1) 10 (by omega) (by omega)
  have hv := v1 (by omega)
  rw [e1]; simp only [Option.bind_some]
  rw [e2]; simp only [Option.bind_some]
  rw [wrap_id (n := 1 + v) (by omega) (by omega)]
  by_cases c0 : q = 0
  · rw [if_pos c0]
    obtain ⟨r, er, r0, r1, _⟩ := next_ev hc (s + 1 + 1) 9 (by omega) (by omega)
    have := r1 (by omega)
    rw [er]; simp only [Option.bind_some]
    rw [wrap_id (n := 1 + r) (by omega) (by omega)]
    exact ⟨_, _, _, _, _, rfl, by omega, by omega, by unfold opF; simp; omega⟩
  rw [if_neg c0]
  by_cases c1 : q = 1
  · rw [if_pos c1]
    obtain ⟨r, er, r0, r1, _⟩ := next_ev hc (s + 1 + 1) 6 (by omega) (by omega)
    have := r1 (by omega)
    rw [er]; simp only [Option.bind_some]
    rw [wrap_id (n := 1 + r) (by omega) (by omega)]
    exact ⟨_, _, _, _, _, rfl, by omega, by omega, by unfold opF; simp; omega⟩
  rw [if_neg c1]
  by_cases c2 : q = 2
  · rw [if_pos c2]
    obtain ⟨r, er, r0, r1, _⟩ := next_ev hc (s + 1 + 1) 8 (by omega) (by omega)
    have := r1 (by omega)
    rw [er]; simp only [Option.bind_some]
    exact ⟨_, _, _, _, _, rfl, by omega, by omega, by unfold opF; simp; omega⟩
  rw [if_neg c2]
  by_cases c3 : q = 3
  · rw [if_pos c3]
    obtain ⟨r, er, r0, r1, _⟩ := next_ev hc (s + 1 + 1) 8 (by omega) (by omega)
    have := r1 (by omega)
    rw [er]; simp only [Option.bind_some]
    exact ⟨_, _, _, _, _, rfl, by omega, by omega, by unfold opF; simp; omega⟩
  rw [if_neg c3]
  by_cases c4 : q = 4
  · rw [if_pos c4]
    obtain ⟨b, eb⟩ := chance_ev hc (s + 1 + 1) 3 (by omega) (by omega)
    rw [eb]; simp only [Option.bind_some]
    cases b with
    | true =>
      rw [if_pos rfl]
      exact ⟨_, _, _, _, _, rfl, by omega, by omega, by unfold opF; simp; omega⟩
    | false =>
      rw [if_neg (by decide)]
      obtain ⟨r, er, r0, r1, _⟩ := next_ev hc (s + 1 + 1 + 1) 8 (by omega) (by omega)
      have := r1 (by omega)
      obtain ⟨u, eu, u0, u1, _⟩ := next_ev hc (s + 1 + 1 + 1 + 1) 99 (by omega) (by omega)
      have := u1 (by omega)
      rw [er]; simp only [Option.bind_some]
      rw [eu]; simp only [Option.bind_some]
      exact ⟨_, _, _, _, _, rfl, by omega, by omega, by unfold opF; simp; omega⟩
  rw [if_neg c4]
  obtain ⟨r, er, r0, r1, _⟩ := next_ev hc (s + 1 + 1) 8 (by omega) (by omega)
  have := r1 (by omega)
  obtain ⟨u, eu, u0, u1, _⟩ := next_ev hc (s + 1 + 1 + 1) 99 (by omega) (by omega)
  have := u1 (by omega)
  rw [er]; simp only [Option.bind_some]
  rw [eu]; simp only [Option.bind_some]
  exact ⟨_, _, _, _, _, rfl, by omega, by omega, by unfold opF; simp; omega⟩
theorem entry_ev {c : List Int} (hc : Src c) (s : Int) (h0 : 0 ≤ s) (h1 : s ≤ 800000) : ∃ x1 x2 a b d e s', spec_l8Entry.f c s = some (x1, x2, a, b, d, e, s') ∧ s ≤ s' ∧ s' ≤ s + 8 ∧ entF x1 x2 a b d e = 0 := by
  unfold spec_l8Entry.f
  obtain ⟨v, e1, v0, v1, _⟩ := next_ev hc s 3 h0 (by omega)
  obtain ⟨q, e2, q0, q1, _⟩ := next_ev hc (s + 1) 9 (by omega) (by omega)
  have hv := v1 (by omega)
  have hq := q1 (by omega)
  obtain ⟨a, b, d, e, s', eo, o0, o1, ho⟩ := op_ev hc (s + 1 + 1) (by omega) (by omega)
  rw [e1]; simp only [Option.bind_some]
  rw [e2]; simp only [Option.bind_some]
  rw [eo]; simp only [Option.bind_some]
  rw [wrap_id (n := 1 + v) (by omega) (by omega), wrap_id (n := 1 + q) (by omega) (by omega)]
  exact ⟨_, _, _, _, _, _, _, rfl, by omega, by omega, by unfold entF; rw [if_pos (by omega)]; exact ho⟩
theorem log_ev {c : List Int} (hc : Src c) (s : Int) (h0 : 0 ≤ s) (h1 : s ≤ 700000) : ∃ (l : List S26) (s' : Int), Ev (fun k => spec_l8Log.f k c s) (l, s') ∧ s ≤ s' ∧ s' ≤ s + 100 ∧ l.length ≤ 8 := by
  obtain ⟨n, e1, n0, n1, _⟩ := next_ev hc s 9 h0 (by omega)
  have hn := n1 (by omega)
  have key : ∀ (d : Nat) (acc : List S26) (t : Int), d ≤ 8 → acc.length ≤ 8 - d → 0 ≤ t → t ≤ 800000 - 8 * d → ∃ (l : List S26) (s' : Int), Ev (fun k => spec_l8Log.l0 k acc d c t) (l, s') ∧ t ≤ s' ∧ s' ≤ t + 8 * d ∧ l.length ≤ 8 := by
    intro d
    induction d with
    | zero => exact fun acc t _ ha _ _ => ⟨acc, t, Ev.step (fun k => by simp only [spec_l8Log.l0]; rw [if_neg (by omega)]) (Ev.now _), by omega, by omega, by omega⟩
    | succ d ih =>
      intro acc t hd ha ht0 ht1
      obtain ⟨x1, x2, a, b, dd, e, t', ee, t0, t1, _⟩ := entry_ev hc t ht0 (by omega)
      obtain ⟨l, s', hl, l0, l1, l2⟩ := ih (acc ++ [⟨x1, x2, ⟨a, b, dd, e⟩⟩]) t' (by omega) (by simp; omega) (by omega) (by omega)
      refine ⟨l, s', Ev.step (fun k => ?_) hl, by omega, by omega, l2⟩
      simp only [spec_l8Log.l0]
      rw [if_pos (by omega), ee]; simp only [Option.bind_some]
      rw [if_pos (by omega), wrap_id (by omega) (by omega)]
      congr 1
      omega
  obtain ⟨d, rfl⟩ := Int.eq_ofNat_of_zero_le n0
  obtain ⟨l, s', hl, l0, l1, l2⟩ := key d [] (s + 1) (by omega) (by simp) (by omega) (by omega)
  refine ⟨l, s', ?_, by omega, by omega, l2⟩
  unfold spec_l8Log.f
  simp only [e1, Option.bind_some]
  exact hl

theorem cm_take {α : Type} (q : α → α → Bool) : ∀ xs ys : List α, cm q (xs.take (cm q xs ys)) ys = cm q xs ys
  | x :: xs, y :: ys => by
    simp only [cm]
    by_cases h : q x y = true
    · simp only [if_pos h, List.take_succ_cons, cm]
      rw [cm_take q xs ys]
    · simp only [if_neg h, List.take_zero, cm]
  | [], _ => by simp [cm]
  | _ :: _, [] => by simp [cm]
theorem cm_take' {α : Type} (q : α → α → Bool) (hs : ∀ x y, q x y = true → q y x = true) : ∀ xs ys : List α, cm q (ys.take (cm q xs ys)) xs = cm q xs ys
  | x :: xs, y :: ys => by
    simp only [cm]
    by_cases h : q x y = true
    · simp only [if_pos h, List.take_succ_cons, cm, if_pos (hs _ _ h)]
      rw [cm_take' q hs xs ys]
    · simp only [if_neg h, List.take_zero, cm]
  | [], _ => by simp [cm]
  | _ :: _, [] => by simp [cm]
theorem eqE_symm (x y : S26) (h : eqE x y = true) : eqE y x = true := by
  simp only [eqE, Bool.and_eq_true, beq_iff_eq] at h ⊢
  obtain ⟨h1, h2, h3, h4, h5, h6⟩ := h
  exact ⟨h1.symm, h2.symm, h3.symm, h4.symm, h5.symm, h6.symm⟩
/-- One log is better than another one. -/
def bett (ls : List Int) (lg : List (List S26)) (i b : Int) : Prop := rd ls i > rd ls b ∨ rd ls i = rd ls b ∧ ((lg.getD i.toNat []).length : Int) > ((lg.getD b.toNat []).length : Int)
theorem bgo_best (ls : List Int) (lg : List (List S26)) (d : Nat) : ∀ b i : Int, ¬ bett ls lg b (bgo ls lg d b i) ∧ ∀ j, i ≤ j → j < i + d → ¬ bett ls lg j (bgo ls lg d b i) := by
  induction d with
  | zero => exact fun b i => ⟨by simp only [bgo, bett]; omega, fun j h0 h1 => by omega⟩
  | succ d ih =>
    intro b i
    obtain ⟨h1, h2⟩ := ih (bstep ls lg b i) (i + 1)
    have h3 : ¬ bett ls lg b (bstep ls lg b i) ∧ ¬ bett ls lg i (bstep ls lg b i) := by
      unfold bstep bett
      (repeat' split) <;> omega
    simp only [bgo]
    have tr : ∀ x y z, ¬ bett ls lg x y → ¬ bett ls lg y z → ¬ bett ls lg x z := fun x y z => by unfold bett; omega
    refine ⟨tr _ _ _ h3.1 h1, fun j h0 hj => ?_⟩
    by_cases e : j = i
    · subst e; exact tr _ _ _ h3.2 h1
    · exact h2 j (by omega) (by omega)
theorem bgo_in (ls : List Int) (lg : List (List S26)) (n : Int) (d : Nat) : ∀ b i : Int, 0 ≤ b → b < n → 0 ≤ i → i + d ≤ n → 0 ≤ bgo ls lg d b i ∧ bgo ls lg d b i < n := by
  induction d with
  | zero => exact fun b i h0 h1 _ _ => ⟨h0, h1⟩
  | succ d ih =>
    intro b i h0 h1 h2 h3
    have h4 := bstep_in ls lg b i n h0 h1 h2 (by omega)
    exact ih _ _ h4.1 h4.2 (by omega) (by omega)
theorem drawBest_ev {c : List Int} (hc : Src c) : ∃ (ls : List Int) (lg : List (List S26)), Ev (fun k => spec_DrawBestLog.f k c) (ls, lg) ∧ ls.length ≤ 10 := by
  obtain ⟨n, e1, n0, n1, _⟩ := next_ev hc 0 5 (by omega) (by omega)
  have hn := n1 (by omega)
  have key : ∀ (d : Nat) (xs : List Int) (ys : List (List S26)) (t : Int), d ≤ 4 → xs.length ≤ 4 - d → ys.length ≤ 4 - d → 0 ≤ t → t ≤ 1 + 200 * (4 - d) → ∃ (ls : List Int) (lg : List (List S26)), Ev (fun k => spec_DrawBestLog.l0 k xs ys d c t) (ls, lg) ∧ ls.length ≤ 10 := by
    intro d
    induction d with
    | zero =>
      intro xs ys t _ hx hy t0 t1
      obtain ⟨b, eb⟩ := chance_ev hc t 12 t0 (by omega)
      cases b with
      | true => exact ⟨xs ++ [1], ys, Ev.step (fun k => by simp only [spec_DrawBestLog.l0]; rw [if_neg (by omega), eb]; simp only [Option.bind_some, if_true]; rw [if_pos (by omega)]) (Ev.now _), by simp; omega⟩
      | false => exact ⟨xs, ys, Ev.step (fun k => by simp only [spec_DrawBestLog.l0]; rw [if_neg (by omega), eb]; simp only [Option.bind_some, Bool.false_eq_true, if_false]) (Ev.now _), by omega⟩
    | succ d ih =>
      intro xs ys t hd hx hy t0 t1
      obtain ⟨v, ev, _⟩ := next_ev hc t 3 t0 (by omega)
      obtain ⟨l, s', hl, l0, l1, _⟩ := log_ev hc (t + 1) (by omega) (by omega)
      obtain ⟨ls, lg, hr, hlen⟩ := ih (xs ++ [v]) (ys ++ [l]) s' (by omega) (by simp; omega) (by simp; omega) (by omega) (by omega)
      obtain ⟨K1, hK1⟩ := hl
      obtain ⟨K2, hK2⟩ := hr
      refine ⟨ls, lg, ⟨max K1 K2 + 1, fun k hk => ?_⟩, hlen⟩
      obtain ⟨m, rfl⟩ : ∃ m, k = m + 1 := ⟨k - 1, by omega⟩
      simp only [spec_DrawBestLog.l0]
      rw [if_pos (by omega), ev]; simp only [Option.bind_some]
      rw [if_pos (by omega), show spec_l8Log.f m c (t + 1) = _ from hK1 m (by omega)]; simp only [Option.bind_some]
      rw [if_pos (by omega), wrap_id (by omega) (by omega)]
      rw [show ((d + 1 : Nat) : Int) - 1 = d by omega]
      exact hK2 m (by omega)
  obtain ⟨d, rfl⟩ := Int.eq_ofNat_of_zero_le n0
  obtain ⟨ls, lg, hr, hlen⟩ := key d [] [] (0 + 1) (by omega) (by simp) (by simp) (by omega) (by omega)
  refine ⟨ls, lg, ?_, hlen⟩
  unfold spec_DrawBestLog.f spec_l1Source.f
  simp only [Option.bind_some, e1]
  exact hr
theorem drawCommon_ev {c : List Int} (hc : Src c) : ∃ (a b : List S26), Ev (fun k => spec_DrawCommonOf.f k c) (a, b) ∧ a.length ≤ 9 ∧ b.length ≤ 9 := by
  obtain ⟨l, s, hl, l0, l1, hlen⟩ := log_ev hc 0 (by omega) (by omega)
  have j1 : ∀ (a b : List S26) (t : Int), a.length ≤ 8 → b.length ≤ 8 → 0 ≤ t → t ≤ 500000 → ∃ (x y : List S26), (∀ k, spec_l8Two.j1 (k + 1) a b c t = some (x, y)) ∧ x.length ≤ 9 ∧ y.length ≤ 9 := by
    intro a b t ha hb t0 t1
    obtain ⟨q, eq⟩ := chance_ev hc t 2 t0 (by omega)
    cases q with
    | true =>
      obtain ⟨x1, x2, u, v, dd, e, t', ee, _⟩ := entry_ev hc (t + 1) (by omega) (by omega)
      exact ⟨a, b ++ [⟨x1, x2, ⟨u, v, dd, e⟩⟩], fun k => by simp only [spec_l8Two.j1, eq, Option.bind_some, ee, if_true]; rw [if_pos (by omega)], by omega, by simp; omega⟩
    | false => exact ⟨a, b, fun k => by simp only [spec_l8Two.j1, eq, Option.bind_some, Bool.false_eq_true, if_false], by omega, by omega⟩
  have j0 : ∀ (a b : List S26) (q : Bool) (t : Int), a.length ≤ 8 → b.length ≤ 8 → 0 ≤ t → t ≤ 400000 → ∃ (x y : List S26), (∀ k, spec_l8Two.j0 (k + 2) a b q c t = some (x, y)) ∧ x.length ≤ 9 ∧ y.length ≤ 9 := by
    intro a b q t ha hb t0 t1
    cases q with
    | true =>
      obtain ⟨v, ev, v0, v1, v2⟩ := next_ev hc t (b.length : Int) t0 (by omega)
      have hv : v ≤ (b.length : Int) := by
        by_cases h : (1 : Int) ≤ b.length
        · have := v1 h; omega
        · have := v2 (by omega); omega
      obtain ⟨x, y, hx, h1, h2⟩ := j1 a (b.take v.toNat) (t + 1) ha (by simp; omega) (by omega) (by omega)
      exact ⟨x, y, fun k => by simp only [spec_l8Two.j0, if_true, ev, Option.bind_some]; rw [if_pos v0, if_pos hv]; exact hx k, h1, h2⟩
    | false =>
      obtain ⟨x, y, hx, h1, h2⟩ := j1 a b t ha hb t0 (by omega)
      exact ⟨x, y, fun k => by simp only [spec_l8Two.j0, Bool.false_eq_true, if_false]; exact hx k, h1, h2⟩
  have hcopy : spec_l8Copy.f l = some l := by
    unfold spec_l8Copy.f
    simp only [Option.bind_some, List.length_nil, List.nil_append]
    rw [if_pos (by omega)]
  by_cases hp : (l.length : Int) > 0
  · obtain ⟨q, eq⟩ := chance_ev hc s 2 (by omega) (by omega)
    obtain ⟨x, y, hx, h1, h2⟩ := j0 l l q (s + 1) hlen hlen (by omega) (by omega)
    refine ⟨x, y, ?_, h1, h2⟩
    unfold spec_DrawCommonOf.f spec_l8Two.f spec_l1Source.f
    simp only [Option.bind_some]
    refine Ev.bind (a := (x, y)) (Ev.bind hl ?_) (Ev.now _)
    simp only [hcopy, Option.bind_some, if_pos hp, eq]
    exact ev_add 2 hx
  · obtain ⟨x, y, hx, h1, h2⟩ := j0 l l false s hlen hlen (by omega) (by omega)
    refine ⟨x, y, ?_, h1, h2⟩
    unfold spec_DrawCommonOf.f spec_l8Two.f spec_l1Source.f
    simp only [Option.bind_some]
    refine Ev.bind (a := (x, y)) (Ev.bind hl ?_) (Ev.now _)
    simp only [hcopy, Option.bind_some, if_neg hp]
    exact ev_add 2 hx
theorem begin_ev (xs ys : List S26) (hn : xs.length ≤ 1048576) : Ev (fun k => impl_IsBeginning.f k xs ys) ((cm eqE xs ys : Int) == (xs.length : Int)) := by
  unfold impl_IsBeginning.f
  exact Ev.bind (impl_common_ev _ _ hn) (Ev.now _)
theorem FnLogs : ∀ (x0 : List (Int)), good44 x0 → ∃ k, laws_FnLogs.f k x0 = some true := by
  intro c ⟨h0, h2⟩
  refine Ev.rounds ?_
  unfold laws_FnLogs.f laws_lwBig.f
  simp only [Option.bind_some]
  by_cases hbig : (c.length : Int) > 1048576
  · simp only [decide_eq_true hbig, if_true]
    exact Ev.now _
  simp only [decide_eq_false hbig, Bool.false_eq_true, if_false]
  have hc : Src c := ⟨by omega, fun x hx => by
    have := h2 x hx
    simp only [Lit.wf] at this
    rw [Bool.and_eq_true] at this
    exact ⟨of_decide_eq_true this.1, of_decide_eq_true this.2⟩⟩
  obtain ⟨a, b, hab, ha, hb⟩ := drawCommon_ev hc
  refine Ev.bind hab ?_
  have hcm := impl_common_ev a b (by omega)
  have l1 := cm_left eqE a b
  have l2 := cm_right eqE a b
  refine Ev.bind (a := (cm eqE a b : Int)) (by unfold impl_CommonOf.f; exact Ev.bind hcm (Ev.now _)) ?_
  have n1 : ¬ ((cm eqE a b : Int) < 0) := by omega
  have n2 : ¬ ((cm eqE a b : Int) > (a.length : Int)) := by omega
  have n3 : ¬ ((cm eqE a b : Int) > (b.length : Int)) := by omega
  simp only [if_neg n1, if_neg n2, if_neg n3]
  refine Ev.bind (spec_CommonOf_ev a b (by omega)) ?_
  have p1 : (0 : Int) ≤ (cm eqE a b : Int) := by omega
  have p2 : (cm eqE a b : Int) ≤ (a.length : Int) := by omega
  have p3 : (cm eqE a b : Int) ≤ (b.length : Int) := by omega
  simp only [if_true, if_pos p1, if_pos p2, if_pos p3, Int.toNat_natCast]
  have t1 : ((cm eqE (a.take (cm eqE a b)) b : Int) == ((a.take (cm eqE a b)).length : Int)) = true := by
    rw [cm_take, List.length_take, Nat.min_eq_left l1, beq_self_eq_true]
  have t2 : ((cm eqE (b.take (cm eqE a b)) a : Int) == ((b.take (cm eqE a b)).length : Int)) = true := by
    rw [cm_take' eqE eqE_symm, List.length_take, Nat.min_eq_left l2, beq_self_eq_true]
  refine Ev.bind (begin_ev _ _ (by simp; omega)) ?_
  rw [t1]
  simp only [if_true]
  refine Ev.bind (begin_ev _ _ (by simp; omega)) ?_
  rw [t2]
  simp only [if_true]
  refine Ev.bind (begin_ev _ _ (by omega)) ?_
  simp only [bne_self_eq_false]
  obtain ⟨ls, lg, hd, hlen⟩ := drawBest_ev hc
  obtain ⟨Kd_, hKd⟩ := hd
  obtain ⟨Kb, hKb⟩ := impl_BestLog_ev ls lg (by omega)
  obtain ⟨Ks, hKs⟩ := spec_BestLog_ev ls lg (by omega)
  have hfin : Ev (fun k => (impl_LogFault.f k a).bind fun t326 => ((spec_LogFault.f k a).bind fun t327 => (some (t326 == t327)))) true := by
    refine Ev.bind (impl_LogFault_ev a) (Ev.bind (spec_LogFault_ev a) ?_)
    simp only [beq_self_eq_true]
    exact Ev.now _
  by_cases hcode : (bestF ls lg).1 = 0
  · have hl : ls.length = lg.length := by
      unfold bestF at hcode
      by_cases e : ls.length = lg.length
      · exact e
      · rw [if_neg e] at hcode; exact absurd hcode (by decide)
    have hz : ¬ ls.length = 0 := by
      unfold bestF at hcode
      rw [if_pos hl] at hcode
      intro e
      rw [if_pos e] at hcode; exact absurd hcode (by decide)
    have hv : (bestF ls lg).2 = bgo ls lg (ls.length - 1) 0 1 := by unfold bestF; rw [if_pos hl, if_neg hz]
    have hin := bgo_in ls lg ls.length (ls.length - 1) 0 1 (by omega) (by omega) (by omega) (by omega)
    have hbest : ∀ j : Int, 0 ≤ j → j < ls.length → ¬ bett ls lg j (bgo ls lg (ls.length - 1) 0 1) := by
      intro j j0 j1
      have h := bgo_best ls lg (ls.length - 1) 0 1
      by_cases e : j = 0
      · subst e; exact h.1
      · exact h.2 j (by omega) (by omega)
    generalize hg : bgo ls lg (ls.length - 1) 0 1 = b0 at hin hbest hv
    have loop : ∀ (d : Nat) (i : Int), 0 ≤ i → i + d = ls.length → Ev (fun k => laws_FnLogs.l0 k a ls lg i (bestF ls lg).1 b0) true := by
      intro d
      induction d with
      | zero => exact fun i i0 i1 => Ev.step (fun k => by simp only [laws_FnLogs.l0]; rw [if_neg (by omega)]) hfin
      | succ d ih =>
        intro i i0 i1
        refine Ev.step (fun k => ?_) (ih (i + 1) (by omega) (by omega))
        have hb := hbest i i0 (by omega)
        unfold bett at hb
        simp only [laws_FnLogs.l0, rd_L3]
        rw [if_pos (by omega), if_pos i0, if_pos hin.1, if_pos hin.2, if_neg (fun h => hb (Or.inl h)), wrap_id (by omega) (by omega)]
        by_cases e : rd ls i = rd ls b0
        · rw [if_pos e, if_pos (by omega), if_pos (by omega)]; exact if_neg (fun h => hb (Or.inr ⟨e, h⟩))
        · rw [if_neg e]
    obtain ⟨Kl, hKl⟩ := loop ls.length 0 (by omega) (by omega)
    refine ⟨max Kd_ (max Kb Kl) + 1, fun k hk => ?_⟩
    obtain ⟨m, rfl⟩ : ∃ m, k = m + 1 := ⟨k - 1, by omega⟩
    simp only [laws_FnLogs.j0]
    rw [if_neg (by decide), show spec_DrawBestLog.f m c = _ from hKd m (by omega)]; simp only [Option.bind_some]
    rw [show impl_BestLog.f m ls lg = _ from hKb m (by omega)]; simp only [Option.bind_some]
    rw [if_pos hcode, hv]
    exact hKl m (by omega)
  · refine ⟨max Kd_ (max Kb Ks) + 1, fun k hk => ?_⟩
    obtain ⟨m, rfl⟩ : ∃ m, k = m + 1 := ⟨k - 1, by omega⟩
    simp only [laws_FnLogs.j0]
    rw [if_neg (by decide), show spec_DrawBestLog.f m c = _ from hKd m (by omega)]; simp only [Option.bind_some]
    rw [show impl_BestLog.f m ls lg = _ from hKb m (by omega)]; simp only [Option.bind_some]
    rw [if_neg hcode, show spec_BestLog.f m ls lg = _ from hKs m (by omega)]
    simp

end Go.Proofs.Ytkibnkfmcmbhnab.Pure
