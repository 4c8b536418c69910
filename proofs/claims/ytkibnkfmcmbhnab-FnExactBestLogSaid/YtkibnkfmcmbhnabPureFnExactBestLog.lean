/-
  For all arguments the program's BestLog returns what the reference's returns; no conditions.
-/
import Derived.Test.YtkibnkfmcmbhnabPFnExactBestLogx4
import Derived.Test.YtkibnkfmcmbhnabPW
import Derived.Test.YtkibnkfmcmbhnabGoodFnExactBestLog
namespace Go.Proofs.Ytkibnkfmcmbhnab.Pure
open Go.RowKit Go.Proofs.Ytkibnkfmcmbhnab.PFnExactBestLog Go.Proofs.YtkibnkfmcmbhnabW.PrintWords Go.Proofs.YtkibnkfmcmbhnabW.PrintLast Go.Proofs.YtkibnkfmcmbhnabW.PrintMore Go.Proofs.Ytkibnkfmcmbhnab.PW

set_option linter.unusedSimpArgs false
set_option linter.unusedVariables false
/-- '==' of entries, as a Bool. -/
def eqE (x y : S26) : Bool := ((x.f0) == (y.f0) && ((x.f1) == (y.f1) && (((x.f2.f0) == (y.f2.f0) && ((x.f2.f1) == (y.f2.f1) && ((x.f2.f2) == (y.f2.f2) && ((x.f2.f3) == (y.f2.f3))))))))

def toE (x : S82) : S26 := ⟨x.f0, x.f1, ⟨x.f2.f0, x.f2.f1, x.f2.f2, x.f2.f3⟩⟩
theorem toEntryS_ev (xs : List S82) (hn : xs.length ≤ 1048576) : Ev (fun k => laws_toEntryS.f k xs) (xs.map toE) := by
  have h := ev_conv laws_toEntryS.l0 toE z82 z26 xs (by omega)
    (fun k out i h0 h1 h2 => by simp only [laws_toEntryS.l0, laws_toEntry.f, laws_toOp.f, Option.bind_some, if_pos h0, if_pos h1, if_pos h2]; rfl)
    (fun k out i h1 => by simp only [laws_toEntryS.l0, if_neg h1])
  refine Ev.congr (fun k => ?_) h
  unfold laws_toEntryS.f
  rw [if_pos (by omega), if_pos (by simp; omega)]
  simp
theorem eqEntryS_ev (xs : List S26) (hn : xs.length ≤ 1048576) : Ev (fun k => laws_eqEntryS.f k xs xs) true := by
  have h := ev_same laws_eqEntryS.l0 xs (by omega)
    (fun i h0 h1 => ⟨0, fun k _ => by simp [laws_eqEntryS.l0, laws_eqEntry.f, laws_eqOp.f, if_pos h0, if_pos h1]⟩)
    (fun k i h1 => by simp only [laws_eqEntryS.l0, if_neg h1])
  refine Ev.congr (fun k => ?_) h
  unfold laws_eqEntryS.f
  rw [if_pos rfl]

theorem sz_eq (l : List S82) (n : Int) (h0 : 0 ≤ n) (h1 : n ≤ 1048576) (hl : l.length ≤ 9223372036854775807) : laws_szEntryS.f l n = some (if n - l.length < 0 then -1 else n - l.length) := by
  unfold laws_szEntryS.f
  rw [wrap_id (by omega) (by omega)]
  split <;> simp_all

/-- One step of the search for the best log: b the best one so far, i the next. -/
def bstep (ls : List Int) (lg : List (List S26)) (b i : Int) : Int :=
  if rd ls i > rd ls b then i else if rd ls i = rd ls b then (if ((lg.getD i.toNat []).length : Int) > ((lg.getD b.toNat []).length : Int) then i else b) else b
def bgo (ls : List Int) (lg : List (List S26)) : Nat → Int → Int → Int
  | 0, b, _ => b
  | d + 1, b, i => bgo ls lg d (bstep ls lg b i) (i + 1)
theorem bstep_in (ls : List Int) (lg : List (List S26)) (b i n : Int) (h0 : 0 ≤ b) (h1 : b < n) (h2 : 0 ≤ i) (h3 : i < n) : 0 ≤ bstep ls lg b i ∧ bstep ls lg b i < n := by
  unfold bstep
  (repeat' split) <;> omega
theorem spec_best_ev (ls : List Int) (lg : List (List S26)) (hl : ls.length = lg.length) (hn : ls.length ≤ 9223372036854775806) (d : Nat) : ∀ (b i : Int), 0 ≤ b → b < ls.length → 0 ≤ i → i + d = ls.length → Ev (fun k => spec_BestLog.l0 k ls lg b i) (0, bgo ls lg d b i) := by
  induction d with
  | zero =>
    intro b i _ _ _ h
    exact Ev.step (fun k => by simp only [spec_BestLog.l0]; rw [if_neg (by omega)]; rfl) (Ev.now _)
  | succ d ih =>
    intro b i h0 h1 h2 h3
    have hb := bstep_in ls lg b i ls.length h0 h1 h2 (by omega)
    refine Ev.step (f := fun k => spec_BestLog.l0 k ls lg (bstep ls lg b i) (i + 1)) (fun k => ?_) (ih _ _ hb.1 hb.2 (by omega) (by omega))
    simp only [spec_BestLog.l0, bstep]
    rw [if_pos (by omega), if_pos h2, if_pos h0, if_pos h1, if_pos (show i < (lg.length : Int) by omega), if_pos (show b < (lg.length : Int) by omega), wrap_id (by omega) (by omega)]
    unfold rd_L6
    (repeat' split) <;> first | rfl | omega
theorem impl_best_ev (ls : List Int) (lg : List (List S26)) (hl : ls.length = lg.length) (hn : ls.length ≤ 9223372036854775806) (d : Nat) : ∀ (b i : Int), 0 ≤ b → b < ls.length → 0 ≤ i → i + d = ls.length → Ev (fun k => impl_best.l0 k ls lg b ls (ls.length : Int) i) (bgo ls lg d b i) := by
  induction d with
  | zero =>
    intro b i _ _ _ h
    exact Ev.step (fun k => by simp only [impl_best.l0]; rw [if_neg (by omega)]; rfl) (Ev.now _)
  | succ d ih =>
    intro b i h0 h1 h2 h3
    have hb := bstep_in ls lg b i ls.length h0 h1 h2 (by omega)
    refine Ev.step (f := fun k => impl_best.l0 k ls lg (bstep ls lg b i) ls (ls.length : Int) (i + 1)) (fun k => ?_) (ih _ _ hb.1 hb.2 (by omega) (by omega))
    simp only [impl_best.l0, bstep]
    rw [if_pos (show i < (ls.length : Int) by omega), if_pos h2, if_pos (show i < (ls.length : Int) by omega), if_pos h0, if_pos h1, if_pos (show i < (lg.length : Int) by omega), if_pos (show b < (lg.length : Int) by omega), wrap_id (by omega) (by omega)]
    unfold rd_L6
    (repeat' split) <;> first | rfl | omega
/-- The best log's place, or a code. -/
def bestF (ls : List Int) (lg : List (List S26)) : Int × Int := if ls.length = lg.length then (if ls.length = 0 then (4, 0) else (0, bgo ls lg (ls.length - 1) 0 1)) else (1, 0)
theorem spec_BestLog_ev (ls : List Int) (lg : List (List S26)) (hn : ls.length ≤ 9223372036854775806) : Ev (fun k => spec_BestLog.f k ls lg) (bestF ls lg) := by
  unfold spec_BestLog.f bestF
  by_cases hl : ls.length = lg.length
  · rw [if_pos hl]
    by_cases h0 : ls.length = 0
    · rw [if_pos h0]
      simp only [if_pos (show (ls.length : Int) = (lg.length : Int) by omega), if_pos (show (ls.length : Int) = 0 by omega)]
      exact Ev.now _
    · rw [if_neg h0]
      simp only [if_pos (show (ls.length : Int) = (lg.length : Int) by omega), if_neg (show ¬ (ls.length : Int) = 0 by omega)]
      exact spec_best_ev ls lg hl hn _ 0 1 (by omega) (by omega) (by omega) (by omega)
  · rw [if_neg hl]
    simp only [if_neg (show ¬ (ls.length : Int) = (lg.length : Int) by omega)]
    exact Ev.now _
theorem impl_BestLog_ev (ls : List Int) (lg : List (List S26)) (hn : ls.length ≤ 9223372036854775806) : Ev (fun k => impl_BestLog.f k ls lg) (bestF ls lg) := by
  unfold impl_BestLog.f bestF
  by_cases hl : ls.length = lg.length
  · rw [if_pos hl]
    by_cases h0 : ls.length = 0
    · rw [if_pos h0]
      simp only [if_pos (show (ls.length : Int) = (lg.length : Int) by omega), if_pos (show (ls.length : Int) = 0 by omega)]
      exact Ev.now _
    · rw [if_neg h0]
      simp only [if_pos (show (ls.length : Int) = (lg.length : Int) by omega), if_neg (show ¬ (ls.length : Int) = 0 by omega)]
      refine Ev.bind (a := bgo ls lg (ls.length - 1) 0 1) ?_ (Ev.now _)
      have h := impl_best_ev ls lg hl hn ls.length 0 0 (by omega) (by omega) (by omega) (by omega)
      have e : bgo ls lg ls.length 0 0 = bgo ls lg (ls.length - 1) 0 1 := by
        obtain ⟨n, hn'⟩ : ∃ n, ls.length = n + 1 := ⟨ls.length - 1, by omega⟩
        rw [hn']
        simp [bgo, bstep]
      rw [e] at h
      exact h
  · rw [if_neg hl]
    simp only [if_neg (show ¬ (ls.length : Int) = (lg.length : Int) by omega)]
    exact Ev.now _

theorem szSS_ev (xs : List (List S82)) (hx : xs.length ≤ 9223372036854775807) (hg : ∀ x ∈ xs, x.length ≤ 9223372036854775807) : ∃ r, (r < 0 ∨ (xs.length ≤ 1048576 ∧ ∀ x ∈ xs, x.length ≤ 1048576)) ∧ Ev (fun k => laws_szEntrySS.f k xs 1048576) r := by
  unfold laws_szEntrySS.f
  rw [wrap_id (by omega) (by omega)]
  by_cases h : (1048576 : Int) - xs.length < 0
  · simp only [if_pos h]
    exact ⟨-1, Or.inl (by decide), Ev.now _⟩
  simp only [if_neg h]
  obtain ⟨r, hr0, hr⟩ := ev_loop (fun k (s : Int × Int) => laws_szEntrySS.l0 k xs s.1 s.2) (fun s => 0 ≤ s.1 ∧ s.1 ≤ 1048576 ∧ ∃ i : Nat, i ≤ xs.length ∧ s.2 = i ∧ ∀ x ∈ xs.take i, x.length ≤ 1048576) (fun s => xs.length - s.2.toNat)
    (fun _ r => r < 0 ∨ ∀ x ∈ xs, x.length ≤ 1048576)
    (fun s ⟨h0, h1, i, hi, e, ht⟩ => by
      obtain ⟨n, j⟩ := s
      simp only at h0 h1 e
      subst e
      by_cases hlt : i < xs.length
      · have hm : xs[i] ∈ xs := List.getElem_mem hlt
        have e1 : rd_L3 xs i = xs[i] := by simp [rd_L3, List.getD_eq_getElem?_getD, hlt]
        by_cases hz : n - (xs[i].length : Int) < 0
        · left
          refine ⟨-1, Or.inl (by decide), 0, fun k _ => ?_⟩
          simp only [laws_szEntrySS.l0]
          rw [if_pos (by omega), if_pos (by omega), e1, sz_eq _ _ h0 h1 (hg _ hm), if_pos hz]
          rfl
        · right
          refine ⟨(n - (xs[i].length : Int), ((i + 1 : Nat) : Int)), ⟨by simp only; omega, by simp only; omega, i + 1, by omega, rfl, fun x hx => ?_⟩, by simp; omega, fun r hr => hr, 0, fun k _ => ?_⟩
          · rw [List.take_succ_eq_append_getElem hlt] at hx
            rcases List.mem_append.1 hx with hx | hx
            · exact ht x hx
            · rw [List.mem_singleton.1 hx]; omega
          · simp only [laws_szEntrySS.l0]
            rw [if_pos (by omega), if_pos (by omega), e1, sz_eq _ _ h0 h1 (hg _ hm), if_neg hz]
            simp only [Option.bind_some]
            rw [if_neg hz, wrap_id (by omega) (by omega)]
            rfl
      · left
        refine ⟨_, Or.inr (fun x hx => ht x ?_), 0, fun k _ => by simp only [laws_szEntrySS.l0]; rw [if_neg (by omega)]⟩
        rw [List.take_of_length_le (by omega)]
        exact hx) (1048576 - (xs.length : Int), 0) ⟨by simp only; omega, by simp only; omega, 0, by omega, rfl, fun x hx => by simp at hx⟩
  exact ⟨r, hr0.imp id (fun h' => ⟨by omega, h'⟩), hr⟩
theorem toInt64S_ev (xs : List Int) (hn : xs.length ≤ 1048576) : Ev (fun k => laws_toInt64S.f k xs) xs := by
  have h := ev_conv laws_toInt64S.l0 id 0 0 xs (by omega)
    (fun k out i h0 h1 h2 => by simp only [laws_toInt64S.l0, if_pos h0, if_pos h1, if_pos h2]; rfl)
    (fun k out i h1 => by simp only [laws_toInt64S.l0, if_neg h1])
  rw [List.map_id] at h
  refine Ev.congr (fun k => ?_) h
  unfold laws_toInt64S.f
  rw [if_pos (by omega), if_pos (by simp; omega)]
  simp
theorem eqInt64S_ev (xs : List Int) (hn : xs.length ≤ 1048576) : Ev (fun k => laws_eqInt64S.f k xs xs) true := by
  have h := ev_same laws_eqInt64S.l0 xs (by omega)
    (fun i h0 h1 => ⟨0, fun k _ => by simp [laws_eqInt64S.l0, if_pos h0, if_pos h1]⟩)
    (fun k i h1 => by simp only [laws_eqInt64S.l0, if_neg h1])
  refine Ev.congr (fun k => ?_) h
  unfold laws_eqInt64S.f
  rw [if_pos rfl]
theorem toSS_ev (xs : List (List S82)) (hn : xs.length ≤ 1048576) (hg : ∀ x ∈ xs, x.length ≤ 1048576) : Ev (fun k => laws_toEntrySS.f k xs) (xs.map (·.map toE)) := by
  have h := ev_conv2 laws_toEntrySS.l0 (·.map toE) [] [] xs (by omega)
    (fun i hi => by
      obtain ⟨K, hK⟩ := toEntryS_ev xs[i] (hg _ (List.getElem_mem hi))
      refine ⟨K, fun k hk out ho => ?_⟩
      have e1 : rd_L3 xs i = xs[i] := by simp [rd_L3, List.getD_eq_getElem?_getD, hi]
      simp only [laws_toEntrySS.l0]
      rw [if_pos (by omega), if_pos (by omega), e1, show laws_toEntryS.f k xs[i] = _ from hK k hk]
      simp only [Option.bind_some]
      rw [if_pos (by omega)]
      simp [List.getD_eq_getElem?_getD, hi])
    (fun k out i h1 => by simp only [laws_toEntrySS.l0, if_neg h1])
  refine Ev.congr (fun k => ?_) h
  unfold laws_toEntrySS.f
  rw [if_pos (by omega), if_pos (by simp; omega)]
  simp
theorem eqSS_ev (xs : List (List S26)) (hn : xs.length ≤ 1048576) (hg : ∀ x ∈ xs, x.length ≤ 1048576) : Ev (fun k => laws_eqEntrySS.f k xs xs) true := by
  have h := ev_same laws_eqEntrySS.l0 xs (by omega)
    (fun i h0 h1 => by
      obtain ⟨j, rfl⟩ := Int.eq_ofNat_of_zero_le h0
      have hj : j < xs.length := by omega
      obtain ⟨K, hK⟩ := eqEntryS_ev xs[j] (hg _ (List.getElem_mem hj))
      have e1 : rd_L6 xs j = xs[j] := by simp [rd_L6, List.getD_eq_getElem?_getD, hj]
      refine ⟨K, fun k hk => ?_⟩
      simp only [laws_eqEntrySS.l0]
      rw [if_pos h1, if_pos h0, if_pos h1, e1, show laws_eqEntryS.f k xs[j] xs[j] = _ from hK k hk]
      simp)
    (fun k i h1 => by simp only [laws_eqEntrySS.l0, if_neg h1])
  refine Ev.congr (fun k => ?_) h
  unfold laws_eqEntrySS.f
  rw [if_pos rfl]
theorem FnExactBestLog : ∀ (x0 : List (Int)) (x1 : List (List (S82))), good22 x0 → good34 x1 → ∃ k, laws_FnExactBestLog.f k x0 x1 = some true := by
  intro x0 x1 g0 g1
  refine Ev.rounds ?_
  unfold laws_FnExactBestLog.f
  by_cases h0 : (x0.length : Int) > 1048576
  · simp only [if_pos h0]
    exact Ev.now _
  simp only [if_neg h0]
  obtain ⟨r, hr0, hr⟩ := szSS_ev x1 g1.1 (fun x hx => (g1.2 x hx).1)
  refine Ev.bind hr ?_
  by_cases hneg : r < 0
  · simp only [if_pos hneg]
    exact Ev.now _
  simp only [if_neg hneg]
  obtain ⟨hl, hg⟩ := hr0.resolve_left hneg
  have e0 := toInt64S_ev x0 (by omega)
  have e1 := toSS_ev x1 hl hg
  refine Ev.bind e0 (Ev.bind e1 (Ev.bind (spec_BestLog_ev _ _ (by omega)) (Ev.bind e0 (Ev.bind e1 (Ev.bind (impl_BestLog_ev _ _ (by omega)) (Ev.bind (a := true) ?_ ?_))))))
  · unfold laws_eqIntResult.f
    simp only [if_true]
    exact Ev.now _
  · simp only [if_true]
    refine Ev.bind e0 (Ev.bind (eqInt64S_ev _ (by omega)) ?_)
    simp only [if_true]
    refine Ev.bind e1 (Ev.bind (eqSS_ev _ (by simp; omega) (fun x hx => ?_)) ?_)
    · obtain ⟨y, hy, rfl⟩ := List.mem_map.1 hx
      simpa using hg y hy
    simp only [if_true]
    exact Ev.now _

end Go.Proofs.Ytkibnkfmcmbhnab.Pure
