/- Functions of the law FnExactCountAsks as Lean functions, and proofs that the calls come to what they tell. -/
import Derived.Test.YtajhhmoglfgijaaPFnExactCountAsksx0
import Derived.Test.YtajhhmoglfgijaaPFnExactCountAsksx4
import Derived.Test.YtajhhmoglfgijaaPFnExactCountAsksx6
namespace Go.Proofs.Ytajhhmoglfgijaa.PFnExactCountAsks
open Go.RowKit Go.Proofs.YtajhhmoglfgijaaW.PrintWords Go.Proofs.YtajhhmoglfgijaaW.PrintLast Go.Proofs.YtajhhmoglfgijaaW.PrintMore
attribute [local go_sem] max2_int min2_int max_two min_two max_three min_three max_four min_four
set_option linter.unusedVariables false
set_option linter.unusedSimpArgs false



/-! ### impl_ReplicaFault: function 12 -/
theorem hd_in (a b c : Int) (w : World) : Calls Try.prog 41 #[.int .i64 a, .int .i64 b, .int .i64 c] w fun e w' => e = .returned (.bool (inR a b c)) ∧ w' = w := hd_within a b c w

theorem hd_many (A : Option Addr) (n c : Nat) (w : World) : Calls Try.prog 43 #[.slice A n c] w fun e w' => e = .returned (.int .i64 n) ∧ w' = w := by
  go_enter Try.func43, Try.ntmps43
  go_wp2
  go_ret
  exact ⟨rfl, rfl⟩
theorem hd_primary (view size : Int) (w : World) (hs1 : 1 ≤ size) (hs2 : size ≤ 5) (hv1 : 0 ≤ view) (hv2 : view ≤ 200) : Calls Try.prog 92 #[.int .i64 view, .int .i64 size] w fun e w' => e = .returned (.int .i64 (view % size)) ∧ w' = w := by
  have hz : (size == 0) = false := beq_eq_false_iff_ne.mpr (by omega)
  go_enter Try.func92, Try.ntmps92
  go_wp2
  go_ret
  exact ⟨rfl, rfl⟩
set_option maxHeartbeats 8000000 in
set_option maxRecDepth 100000 in
theorem hd_isPrimary (p : Addr) (id size view last commit : Int) (norm : Bool) (v5 v7 v8 v9 : Value) (w : World) (hx : CellsAt w p [.int .i64 id, .int .i64 size, .int .i64 view, .bool norm, .int .i64 last, v5, .int .i64 commit, v7, v8, v9])
    (hs1 : 1 ≤ size) (hs2 : size ≤ 5) (hv1 : 0 ≤ view) (hv2 : view ≤ 200) :
    Calls Try.prog 80 #[.pointer (some p)] w fun e w' => e = .returned (.bool (view % size == id)) ∧ ∃ n, w' = w.drewN n := by
  have hx0 := hx.zero rfl
  have hx1 := hx.get 0 rfl
  have hx2 := hx.get 1 rfl
  clear hx
  go_enter Try.func80, Try.ntmps80
  go_wp2
  go_quiet ((go_at_call 92; exact Calls.quiet_of_same (hd_primary _ _ _ hs1 hs2 hv1 hv2)))
  go_wp2
  go_ret
  exact ⟨rfl, _, rfl⟩
set_option maxHeartbeats 8000000 in
set_option maxRecDepth 100000 in
theorem hd_leads (p : Addr) (id size view last commit : Int) (norm : Bool) (v5 v7 v8 v9 : Value) (w : World) (hx : CellsAt w p [.int .i64 id, .int .i64 size, .int .i64 view, .bool norm, .int .i64 last, v5, .int .i64 commit, v7, v8, v9])
    (hs1 : 1 ≤ size) (hs2 : size ≤ 5) (hv1 : 0 ≤ view) (hv2 : view ≤ 200) :
    Calls Try.prog 44 #[.pointer (some p)] w fun e w' => e = .returned (.bool (norm && (view % size == id))) ∧ ∃ n, w' = w.drewN n := by
  have HX := Aside0.mk hx
  have hx3 := hx.get 2 rfl
  clear hx
  cases norm
  all_goals
    go_enter Try.func44, Try.ntmps44
    go_wp2_with (go_at_call 80; refine (hd_isPrimary _ _ _ _ _ _ _ _ _ _ _ _ HX.out hs1 hs2 hv1 hv2).mono ?_; rintro e w' ⟨rfl, nq, rfl⟩)
    go_ret
    first | exact ⟨ret_bool (by simp), 0, rfl⟩ | exact ⟨ret_bool (by simp), _, rfl⟩
theorem hd_oks (x : Int) (p : Addr) (A : Option Addr) (n c : Nat) (w : World) (hx : w.cell? ⟨p.block, p.off + 5, none⟩ = some (.slice A n c)) : Calls Try.prog 46 #[.int .i64 x, .pointer (some p)] w fun e w' => e = .returned (.bool (!inR x 0 n)) ∧ w' = w := by
  go_enter Try.func46, Try.ntmps46
  go_wp2_with (first | (go_at_call 43; refine (hd_many _ _ _ _).mono ?_; rintro e w' ⟨rfl, rfl⟩) | (go_at_call 41; refine (hd_in _ _ _ _).mono ?_; rintro e w' ⟨rfl, rfl⟩))
  go_ret
  exact ⟨rfl, rfl⟩

/-- The place of the first that is no place of a log; -1 if there is none. -/
def noO (m : Nat) : List Int → Int → Int
  | [], _ => -1
  | x :: xs, i => if inR x 0 m = true then noO m xs (i + 1) else i
theorem noO_neg (m : Nat) : ∀ (l : List Int) (i : Int), 0 ≤ i → (decide (noO m l i ≥ 0) = !oksB m l)
  | [], i, h => by simp [noO, oksB]
  | x :: xs, i, h => by
    by_cases hb : inR x 0 m = true
    · simp only [noO, oksB, if_pos hb]
      exact noO_neg m xs (i + 1) (by omega)
    · rw [Bool.not_eq_true] at hb
      simp [noO, oksB, hb, h]
set_option maxHeartbeats 1000000 in
theorem idxO_calls (A : Option Addr) (c : Nat) (l : List Int) (p : Addr) (A5 : Option Addr) (m c5 : Nat) (w : World) (hp : w.cell? ⟨p.block, p.off + 5, none⟩ = some (.slice A5 m c5)) (hr : Kd.C (Kd.int .i64) w A l.length l) (hc : l.length ≤ c) :
    Calls Try.prog 81 #[.slice A l.length c, .func (.func 46) #[] #[.pointer (some p)]] w fun e w' => e = .returned (.int .i64 (noO m l 0)) ∧ w' = w := by
  have hl := hr.2.1
  have HR := Aside0.mk hr
  clear hr
  go_enter Try.func81, Try.ntmps81
  go_wp2
  go_loop [8] (fun v => ∃ k : Nat, k ≤ l.length ∧ v = .int .i64 k ∧ Aside0 (noO m l 0 = noO m (l.drop k) k)) (fun v => l.length - (intOf v).toNat)
  case atStart => exact ⟨0, by omega, rfl, ⟨by simp⟩⟩
  case round =>
    obtain ⟨k, hk, rfl, HN⟩ := hrel
    by_cases hlt : k < l.length
    · obtain ⟨ad, cs, e1, _, hK, hcell⟩ := Kd.C_get HR.out 0 (k : Int) (by omega) (by omega)
      cases e1
      have hx : cs = [.int .i64 (l.getD k 0)] := hK
      subst hx
      have hx0 : w.cell? (ad.add k) = some (.int .i64 (l.getD k 0)) := by have h := hcell 0 _ rfl; simpa [show (Kd.int .i64).sz = 1 from rfl] using h
      clear hcell hK
      have e2 : l.drop k = l.getD k 0 :: l.drop (k + 1) := by rw [List.drop_eq_getElem_cons hlt, List.getD_eq_getElem?_getD, List.getElem?_eq_getElem hlt]; rfl
      have HN2 : Aside0 (noO m l 0 = if inR (l.getD k 0) 0 m = true then noO m (l.drop (k + 1)) (k + 1) else k) := ⟨by rw [HN.out, e2]; rfl⟩
      clear e2 HN
      generalize hg : l.getD k 0 = x at *
      have Hg := Aside0.mk hg
      clear hg
      cases hb : inR x 0 m with
      | true =>
        have HB := Aside0.mk hb
        clear hb
        go_wp2_with (go_at_call 46; refine (hd_oks x p A5 m c5 w hp).mono ?_; rintro e w' ⟨rfl, rfl⟩; rw [HB.out])
        go_round
        case rel => exact ⟨k + 1, by omega, by go_num, ⟨by rw [HN2.out, if_pos HB.out]; simp⟩⟩
        case measure => simp [intOf]; omega
      | false =>
        have HB := Aside0.mk hb
        clear hb
        go_wp2_with (go_at_call 46; refine (hd_oks x p A5 m c5 w hp).mono ?_; rintro e w' ⟨rfl, rfl⟩; rw [HB.out])
        go_ret
        exact ⟨by rw [HN2.out, HB.out]; simp, rfl⟩
    · go_wp2
      go_ret
      refine ⟨?_, rfl⟩
      rw [HN.out, List.drop_eq_nil_of_le (by omega)]
      rfl
theorem hasO_calls (A : Option Addr) (c : Nat) (l : List Int) (p : Addr) (A5 : Option Addr) (m c5 : Nat) (w : World) (hp : w.cell? ⟨p.block, p.off + 5, none⟩ = some (.slice A5 m c5)) (hr : Kd.C (Kd.int .i64) w A l.length l) (hc : l.length ≤ c) :
    Calls Try.prog 45 #[.slice A l.length c, .func (.func 46) #[] #[.pointer (some p)]] w fun e w' => e = .returned (.bool (!oksB m l)) ∧ w' = w := by
  have HR := Aside0.mk hr
  have HC := Aside0.mk hc
  clear hr hc
  have HN := Aside0.mk (noO_neg m l 0 (by omega))
  go_enter Try.func45, Try.ntmps45
  go_wp2_with (go_at_call 81; refine (idxO_calls A c l p A5 m c5 w hp HR.out HC.out).mono ?_; rintro e w' ⟨rfl, rfl⟩)
  go_ret
  exact ⟨by rw [← HN.out]; rfl, rfl⟩

set_option maxHeartbeats 8000000 in
set_option maxRecDepth 100000 in
theorem hd_doerFault (d0 : Bool) (d1 : Int) (A : Option Addr) (c : Nat) (l : List (S95)) (d3 : Int) (n : Nat) (w : World) (hr : Kd.C k95 w A l.length l) (hc : l.length ≤ c) (hn : n = l.length) :
    Calls Try.prog 47 #[.agg #[.bool d0, .int .i64 d1, .slice A n c, .int .i64 d3]] w fun e w' => e = .returned (.int .i64 (doerF d0 d1 l d3)) ∧ Below w.heap.size w w' := by
  have hu := Try.underlying70
  have HR := Aside0.mk hr
  have HC := Aside0.mk hc
  have HN := Aside0.mk hn
  clear hr hc hn
  have HB := Aside0.mk (Below.refl w.heap.size w)
  by_cases hl : 0 < n
  · have hl1 : decide (0 < n) = true := decide_eq_true hl
    have hl2 : decide (0 < (n : Int)) = true := decide_eq_true (by omega)
    have HL := Aside0.mk hl
    clear hl
    go_enter Try.func47, Try.ntmps47
    go_wp2_with (first | (go_at_call 41; refine (hd_within _ _ _ _).mono ?_; rintro e w' ⟨rfl, rfl⟩) | (go_at_call 42; rw [HN.out]; ((with_reducible refine (impl_LogFault.calls _ _ _ _ _ (Kd.C_alloc HR.out _) HC.out rfl).mono ?_); rintro e w1 ⟨rfl, hb⟩; have n_ := Aside0.mk (below_step (by repeat (first | (with_reducible first | exact HB.out | apply below_alloc | apply pw_below_drewN | apply below_drew1) | exact HB.out)) hb); obtain ⟨hc_, hf_⟩ := bcell hb; clear HB hb; have HB := n_; clear n_)))
    all_goals try (go_quiet ((first | (go_at_call 41; exact Calls.quiet_of_same (hd_within _ _ _ _)) | (go_at_call 43; exact Calls.quiet_of_same (hd_many _ _ _ _)))); go_wp2)
    all_goals
      go_ret
      refine ⟨ret_i64 ?_, (by repeat (first | (with_reducible first | exact HB.out | apply below_alloc | apply pw_below_drewN | apply below_drew1) | exact HB.out))⟩
      have hl := HL.out
      have hn := HN.out
      clear HL HN HB HR HC hu hl1 hl2
      try simp only [Bool.not_eq_eq_eq_not, Bool.not_true, Bool.not_false, decide_eq_true_eq, decide_eq_false_iff_not, beq_iff_eq, beq_eq_false_iff_ne, bne_iff_ne, bne_eq_false_iff_eq, ne_eq, Int.not_le, Int.not_lt, Bool.not_eq_true] at *
      unfold doerF
      grind
  · have hl1 : decide (0 < n) = false := decide_eq_false hl
    have hl2 : decide (0 < (n : Int)) = false := decide_eq_false (by omega)
    have HL := Aside0.mk hl
    clear hl
    go_enter Try.func47, Try.ntmps47
    go_wp2_with (first | (go_at_call 41; refine (hd_within _ _ _ _).mono ?_; rintro e w' ⟨rfl, rfl⟩) | (go_at_call 42; rw [HN.out]; ((with_reducible refine (impl_LogFault.calls _ _ _ _ _ (Kd.C_alloc HR.out _) HC.out rfl).mono ?_); rintro e w1 ⟨rfl, hb⟩; have n_ := Aside0.mk (below_step (by repeat (first | (with_reducible first | exact HB.out | apply below_alloc | apply pw_below_drewN | apply below_drew1) | exact HB.out)) hb); obtain ⟨hc_, hf_⟩ := bcell hb; clear HB hb; have HB := n_; clear n_)))
    all_goals try (go_quiet ((first | (go_at_call 41; exact Calls.quiet_of_same (hd_within _ _ _ _)) | (go_at_call 43; exact Calls.quiet_of_same (hd_many _ _ _ _)))); go_wp2)
    all_goals
      go_ret
      refine ⟨ret_i64 ?_, (by repeat (first | (with_reducible first | exact HB.out | apply below_alloc | apply pw_below_drewN | apply below_drew1) | exact HB.out))⟩
      have hl := HL.out
      have hn := HN.out
      clear HL HN HB HR HC hu hl1 hl2
      try simp only [Bool.not_eq_eq_eq_not, Bool.not_true, Bool.not_false, decide_eq_true_eq, decide_eq_false_iff_not, beq_iff_eq, beq_eq_false_iff_ne, bne_iff_ne, bne_eq_false_iff_eq, ne_eq, Int.not_le, Int.not_lt, Bool.not_eq_true] at *
      unfold doerF
      grind

set_option maxHeartbeats 16000000 in
set_option maxRecDepth 100000 in
theorem hd_ReplicaFault (id size view last commit : Int) (norm : Bool) (A5 A7 A8 A9 : Option Addr) (c5 c7 c8 c9 n5 n7 n8 n9 : Nat) (log : List (S95)) (oks : List Int) (doers : List (S70)) (w : World)
    (hn5 : n5 = log.length) (hn7 : n7 = oks.length) (hn9 : n9 = doers.length) (hr5 : Kd.C k95 w A5 log.length log) (hc5 : log.length ≤ c5) (hr7 : Kd.C (Kd.int .i64) w A7 oks.length oks) (hc7 : oks.length ≤ c7) (hr9 : Kd.C k70 w A9 doers.length doers) (hc9 : doers.length ≤ c9) :
    Calls Try.prog 12 #[.agg #[.int .i64 id, .int .i64 size, .int .i64 view, .bool norm, .int .i64 last, .slice A5 n5 c5, .int .i64 commit, .slice A7 n7 c7, .slice A8 n8 c8, .slice A9 n9 c9]] w fun e w' => e = .returned (.int .i64 (repF id size view norm last log commit oks n8 doers)) ∧ Below w.heap.size w w' := by
  have hmf : ∀ (fn : Fn) (first cap : Array Value) (w : World), (Instr.makeFunc fn first cap).run Try.prog w = .ok (.func fn first cap) w := fun _ _ _ _ => rfl
  have hu := Try.underlying70
  have HN5 := Aside0.mk hn5
  have HN7 := Aside0.mk hn7
  have HN9 := Aside0.mk hn9
  have HR5 := Aside0.mk hr5
  have HC5 := Aside0.mk hc5
  have HR7 := Aside0.mk hr7
  have HC7 := Aside0.mk hc7
  have HR9 := Aside0.mk hr9
  have HC9 := Aside0.mk hc9
  have HB := Aside0.mk (Below.refl w.heap.size w)
  clear hn5 hn7 hn9 hr5 hc5 hr7 hc7 hr9 hc9
  by_cases h1 : inR size 1 5 = true
  case neg =>
    rw [Bool.not_eq_true] at h1
    go_enter Try.func12, Try.ntmps12
    go_wp2_with (go_at_call 41; refine (hd_in _ _ _ _).mono ?_; rintro e w2 ⟨rfl, rfl⟩)
    go_ret
    exact ⟨ret_i64 (by unfold repF; rw [if_pos (Or.inl h1)]), (by repeat (first | (with_reducible first | exact HB.out | apply below_alloc | apply pw_below_drewN | apply below_drew1) | exact HB.out))⟩
  obtain ⟨hs1, hs2⟩ := inR_iff.1 h1
  by_cases h2 : inR id 0 (size - 1) = true
  case neg =>
    rw [Bool.not_eq_true] at h2
    go_enter Try.func12, Try.ntmps12
    go_wp2_with (go_at_call 41; refine (hd_in _ _ _ _).mono ?_; rintro e w2 ⟨rfl, rfl⟩)
    go_ret
    exact ⟨ret_i64 (by unfold repF; rw [if_pos (Or.inr (Or.inl h2))]), (by repeat (first | (with_reducible first | exact HB.out | apply below_alloc | apply pw_below_drewN | apply below_drew1) | exact HB.out))⟩
  by_cases h3 : inR view 0 200 = true
  case neg =>
    rw [Bool.not_eq_true] at h3
    go_enter Try.func12, Try.ntmps12
    go_wp2_with (go_at_call 41; refine (hd_in _ _ _ _).mono ?_; rintro e w2 ⟨rfl, rfl⟩)
    go_ret
    exact ⟨ret_i64 (by unfold repF; rw [if_pos (Or.inr (Or.inr (Or.inl h3)))]), (by repeat (first | (with_reducible first | exact HB.out | apply below_alloc | apply pw_below_drewN | apply below_drew1) | exact HB.out))⟩
  obtain ⟨hv1, hv2⟩ := inR_iff.1 h3
  by_cases h4 : inR last 0 view = true
  case neg =>
    rw [Bool.not_eq_true] at h4
    go_enter Try.func12, Try.ntmps12
    go_wp2_with (go_at_call 41; refine (hd_in _ _ _ _).mono ?_; rintro e w2 ⟨rfl, rfl⟩)
    go_ret
    exact ⟨ret_i64 (by unfold repF; rw [if_pos (Or.inr (Or.inr (Or.inr h4)))]), (by repeat (first | (with_reducible first | exact HB.out | apply below_alloc | apply pw_below_drewN | apply below_drew1) | exact HB.out))⟩
  have H14 : Aside0 (¬ (inR size 1 5 = false ∨ inR id 0 (size - 1) = false ∨ inR view 0 200 = false ∨ inR last 0 view = false)) := ⟨by rw [h1, h2, h3, h4]; simp⟩
  obtain ⟨lf, hlf⟩ : ∃ lf, lf = logF log := ⟨_, rfl⟩
  have HLF := Aside0.mk hlf
  clear hlf
  by_cases h5 : (lf != 0) = true
  case pos =>
    go_enter Try.func12, Try.ntmps12
    go_wp2_with (first | (go_at_call 41; refine (hd_in _ _ _ _).mono ?_; rintro e w2 ⟨rfl, rfl⟩) | (go_at_call 42; rw [HN5.out]; ((with_reducible refine (impl_LogFault.calls _ _ _ _ _ (Kd.C_alloc HR5.out _) HC5.out rfl).mono ?_); rintro e w1 ⟨rfl, hb⟩; rw [← HLF.out, ← HN5.out]; rw [← HN5.out] at hb; have n_ := Aside0.mk (below_step (by repeat (first | (with_reducible first | exact HB.out | apply below_alloc | apply pw_below_drewN | apply below_drew1) | exact HB.out)) hb); have HX1 : Aside0 (CellsAt w1 ⟨w.heap.size, 0, none⟩ [.int .i64 id, .int .i64 size, .int .i64 view, .bool norm, .int .i64 last, .slice A5 n5 c5, .int .i64 commit, .slice A7 n7 c7, .slice A8 n8 c8, .slice A9 n9 c9]) := ⟨cellsAt_new hb⟩; clear HB hb; have HB := n_; clear n_; have hy0 : w1.cell? ⟨w.heap.size, 0, none⟩ = some (.int .i64 id) := HX1.out.zero rfl; have hy1 : w1.cell? ⟨w.heap.size, 1, none⟩ = some (.int .i64 size) := HX1.out.get 0 rfl; have hy2 : w1.cell? ⟨w.heap.size, 2, none⟩ = some (.int .i64 view) := HX1.out.get 1 rfl; have hy3 : w1.cell? ⟨w.heap.size, 3, none⟩ = some (.bool norm) := HX1.out.get 2 rfl; have hy4 : w1.cell? ⟨w.heap.size, 4, none⟩ = some (.int .i64 last) := HX1.out.get 3 rfl; have hy5 : w1.cell? ⟨w.heap.size, 5, none⟩ = some (.slice A5 n5 c5) := HX1.out.get 4 rfl; have hy6 : w1.cell? ⟨w.heap.size, 6, none⟩ = some (.int .i64 commit) := HX1.out.get 5 rfl; have hy7 : w1.cell? ⟨w.heap.size, 7, none⟩ = some (.slice A7 n7 c7) := HX1.out.get 6 rfl; have hy8 : w1.cell? ⟨w.heap.size, 8, none⟩ = some (.slice A8 n8 c8) := HX1.out.get 7 rfl; have hy9 : w1.cell? ⟨w.heap.size, 9, none⟩ = some (.slice A9 n9 c9) := HX1.out.get 8 rfl)))
    go_ret
    exact ⟨ret_i64 (by unfold repF; rw [if_neg H14.out, ← HLF.out, if_pos (bne_iff_ne.1 h5)]), (by repeat (first | (with_reducible first | exact HB.out | apply below_alloc | apply pw_below_drewN | apply below_drew1) | exact HB.out))⟩
  rw [Bool.not_eq_true] at h5
  have H5 : Aside0 (¬ logF log ≠ 0) := ⟨by rw [← HLF.out]; simpa using h5⟩
  by_cases h6 : inR commit 0 n5 = true
  case neg =>
    rw [Bool.not_eq_true] at h6
    go_enter Try.func12, Try.ntmps12
    go_wp2_with (first | (go_at_call 41; refine (hd_in _ _ _ _).mono ?_; rintro e w2 ⟨rfl, rfl⟩) | (go_at_call 42; rw [HN5.out]; ((with_reducible refine (impl_LogFault.calls _ _ _ _ _ (Kd.C_alloc HR5.out _) HC5.out rfl).mono ?_); rintro e w1 ⟨rfl, hb⟩; rw [← HLF.out, ← HN5.out]; rw [← HN5.out] at hb; have n_ := Aside0.mk (below_step (by repeat (first | (with_reducible first | exact HB.out | apply below_alloc | apply pw_below_drewN | apply below_drew1) | exact HB.out)) hb); have HX1 : Aside0 (CellsAt w1 ⟨w.heap.size, 0, none⟩ [.int .i64 id, .int .i64 size, .int .i64 view, .bool norm, .int .i64 last, .slice A5 n5 c5, .int .i64 commit, .slice A7 n7 c7, .slice A8 n8 c8, .slice A9 n9 c9]) := ⟨cellsAt_new hb⟩; clear HB hb; have HB := n_; clear n_; have hy0 : w1.cell? ⟨w.heap.size, 0, none⟩ = some (.int .i64 id) := HX1.out.zero rfl; have hy1 : w1.cell? ⟨w.heap.size, 1, none⟩ = some (.int .i64 size) := HX1.out.get 0 rfl; have hy2 : w1.cell? ⟨w.heap.size, 2, none⟩ = some (.int .i64 view) := HX1.out.get 1 rfl; have hy3 : w1.cell? ⟨w.heap.size, 3, none⟩ = some (.bool norm) := HX1.out.get 2 rfl; have hy4 : w1.cell? ⟨w.heap.size, 4, none⟩ = some (.int .i64 last) := HX1.out.get 3 rfl; have hy5 : w1.cell? ⟨w.heap.size, 5, none⟩ = some (.slice A5 n5 c5) := HX1.out.get 4 rfl; have hy6 : w1.cell? ⟨w.heap.size, 6, none⟩ = some (.int .i64 commit) := HX1.out.get 5 rfl; have hy7 : w1.cell? ⟨w.heap.size, 7, none⟩ = some (.slice A7 n7 c7) := HX1.out.get 6 rfl; have hy8 : w1.cell? ⟨w.heap.size, 8, none⟩ = some (.slice A8 n8 c8) := HX1.out.get 7 rfl; have hy9 : w1.cell? ⟨w.heap.size, 9, none⟩ = some (.slice A9 n9 c9) := HX1.out.get 8 rfl)))
    go_quiet ((first | (go_at_call 41; exact Calls.quiet_of_same (hd_in _ _ _ _)) | (go_at_call 43; exact Calls.quiet_of_same (hd_many _ _ _ _))))
    go_wp2
    go_ret
    exact ⟨ret_i64 (by unfold repF; rw [if_neg H14.out, if_neg H5.out, if_pos (by rw [← HN5.out]; exact h6)]), (by repeat (first | (with_reducible first | exact HB.out | apply below_alloc | apply pw_below_drewN | apply below_drew1) | exact HB.out))⟩
  have H6 : Aside0 (¬ inR commit 0 log.length = false) := ⟨by rw [← HN5.out, h6]; simp⟩
  by_cases h7 : norm = true ∧ last ≠ view
  case pos =>
    obtain ⟨hn, h7⟩ := h7
    subst hn
    have h7b : (last != view) = true := bne_iff_ne.2 h7
    have H7 := Aside0.mk h7
    clear h7
    go_enter Try.func12, Try.ntmps12
    go_wp2_with (first | (go_at_call 41; refine (hd_in _ _ _ _).mono ?_; rintro e w2 ⟨rfl, rfl⟩) | (go_at_call 42; rw [HN5.out]; ((with_reducible refine (impl_LogFault.calls _ _ _ _ _ (Kd.C_alloc HR5.out _) HC5.out rfl).mono ?_); rintro e w1 ⟨rfl, hb⟩; rw [← HLF.out, ← HN5.out]; rw [← HN5.out] at hb; have n_ := Aside0.mk (below_step (by repeat (first | (with_reducible first | exact HB.out | apply below_alloc | apply pw_below_drewN | apply below_drew1) | exact HB.out)) hb); have HX1 : Aside0 (CellsAt w1 ⟨w.heap.size, 0, none⟩ [.int .i64 id, .int .i64 size, .int .i64 view, .bool true, .int .i64 last, .slice A5 n5 c5, .int .i64 commit, .slice A7 n7 c7, .slice A8 n8 c8, .slice A9 n9 c9]) := ⟨cellsAt_new hb⟩; clear HB hb; have HB := n_; clear n_; have hy0 : w1.cell? ⟨w.heap.size, 0, none⟩ = some (.int .i64 id) := HX1.out.zero rfl; have hy1 : w1.cell? ⟨w.heap.size, 1, none⟩ = some (.int .i64 size) := HX1.out.get 0 rfl; have hy2 : w1.cell? ⟨w.heap.size, 2, none⟩ = some (.int .i64 view) := HX1.out.get 1 rfl; have hy3 : w1.cell? ⟨w.heap.size, 3, none⟩ = some (.bool true) := HX1.out.get 2 rfl; have hy4 : w1.cell? ⟨w.heap.size, 4, none⟩ = some (.int .i64 last) := HX1.out.get 3 rfl; have hy5 : w1.cell? ⟨w.heap.size, 5, none⟩ = some (.slice A5 n5 c5) := HX1.out.get 4 rfl; have hy6 : w1.cell? ⟨w.heap.size, 6, none⟩ = some (.int .i64 commit) := HX1.out.get 5 rfl; have hy7 : w1.cell? ⟨w.heap.size, 7, none⟩ = some (.slice A7 n7 c7) := HX1.out.get 6 rfl; have hy8 : w1.cell? ⟨w.heap.size, 8, none⟩ = some (.slice A8 n8 c8) := HX1.out.get 7 rfl; have hy9 : w1.cell? ⟨w.heap.size, 9, none⟩ = some (.slice A9 n9 c9) := HX1.out.get 8 rfl)))
    go_quiet ((first | (go_at_call 41; exact Calls.quiet_of_same (hd_in _ _ _ _)) | (go_at_call 43; exact Calls.quiet_of_same (hd_many _ _ _ _))))
    go_wp2
    go_quiet (fail)
    go_wp2_with (go_at_call 44; refine (hd_leads _ id size view last commit true _ _ _ _ _ (by first | exact HX1.out.drewN _ | exact (HX1.out.drewN _).drewN _ | exact HX1.out) hs1 hs2 hv1 hv2).mono ?_; rintro e w2 ⟨rfl, nq, rfl⟩)
    all_goals
      go_ret
      exact ⟨ret_i64 (by unfold repF; rw [if_neg H14.out, if_neg H5.out, if_neg H6.out, if_pos (Or.inl ⟨rfl, H7.out⟩)]), (by repeat (first | (with_reducible first | exact HB.out | apply below_alloc | apply pw_below_drewN | apply below_drew1) | exact HB.out))⟩
  have H7 := Aside0.mk h7
  clear h7
  have HE1 : Aside0 (sizesB id size view norm oks.length n8 doers.length = false → repF id size view norm last log commit oks n8 doers = 1) := ⟨fun h => by unfold repF; rw [if_neg H14.out, if_neg H5.out, if_neg H6.out, if_pos (Or.inr h)]⟩
  have HE2 : Aside0 (sizesB id size view norm oks.length n8 doers.length = true → repF id size view norm last log commit oks n8 doers = if oksB log.length oks = false then 3 else doersF doers) := ⟨fun h => by unfold repF; rw [if_neg H14.out, if_neg H5.out, if_neg H6.out, if_neg (fun h2 => h2.elim (fun h3 => H7.out h3) (fun h3 => by rw [h] at h3; exact absurd h3 (by simp)))]⟩
  by_cases h9 : oksB n5 oks = true
  case pos =>
    have HE3 : Aside0 (sizesB id size view norm oks.length n8 doers.length = true → repF id size view norm last log commit oks n8 doers = doersF doers) := ⟨fun h => by rw [HE2.out h, if_neg (by rw [← HN5.out, h9]; simp)]⟩
    cases norm with
    | false =>
      obtain ⟨b7, hb7⟩ : ∃ b, ((n7 : Int) != 0) = b := ⟨_, rfl⟩
      obtain ⟨b8, hb8⟩ : ∃ b, ((n8 : Int) != size) = b := ⟨_, rfl⟩
      obtain ⟨b9, hb9⟩ : ∃ b, ((n9 : Int) != size) = b := ⟨_, rfl⟩
      have hc7 : (n7 != 0) = b7 := by rw [← hb7, Bool.eq_iff_iff]; simp
      have HS : Aside0 (sizesB id size view false oks.length n8 doers.length = (!b7 && (!b8 && !b9))) := ⟨by rw [← HN7.out, ← HN9.out, ← hb7, ← hb8, ← hb9]; unfold sizesB; grind⟩
      go_enter Try.func12, Try.ntmps12
      go_wp2_with (first | (go_at_call 41; refine (hd_in _ _ _ _).mono ?_; rintro e w2 ⟨rfl, rfl⟩) | (go_at_call 42; rw [HN5.out]; ((with_reducible refine (impl_LogFault.calls _ _ _ _ _ (Kd.C_alloc HR5.out _) HC5.out rfl).mono ?_); rintro e w1 ⟨rfl, hb⟩; rw [← HLF.out, ← HN5.out]; rw [← HN5.out] at hb; have n_ := Aside0.mk (below_step (by repeat (first | (with_reducible first | exact HB.out | apply below_alloc | apply pw_below_drewN | apply below_drew1) | exact HB.out)) hb); have HX1 : Aside0 (CellsAt w1 ⟨w.heap.size, 0, none⟩ [.int .i64 id, .int .i64 size, .int .i64 view, .bool false, .int .i64 last, .slice A5 n5 c5, .int .i64 commit, .slice A7 n7 c7, .slice A8 n8 c8, .slice A9 n9 c9]) := ⟨cellsAt_new hb⟩; clear HB hb; have HB := n_; clear n_; have hy0 : w1.cell? ⟨w.heap.size, 0, none⟩ = some (.int .i64 id) := HX1.out.zero rfl; have hy1 : w1.cell? ⟨w.heap.size, 1, none⟩ = some (.int .i64 size) := HX1.out.get 0 rfl; have hy2 : w1.cell? ⟨w.heap.size, 2, none⟩ = some (.int .i64 view) := HX1.out.get 1 rfl; have hy3 : w1.cell? ⟨w.heap.size, 3, none⟩ = some (.bool false) := HX1.out.get 2 rfl; have hy4 : w1.cell? ⟨w.heap.size, 4, none⟩ = some (.int .i64 last) := HX1.out.get 3 rfl; have hy5 : w1.cell? ⟨w.heap.size, 5, none⟩ = some (.slice A5 n5 c5) := HX1.out.get 4 rfl; have hy6 : w1.cell? ⟨w.heap.size, 6, none⟩ = some (.int .i64 commit) := HX1.out.get 5 rfl; have hy7 : w1.cell? ⟨w.heap.size, 7, none⟩ = some (.slice A7 n7 c7) := HX1.out.get 6 rfl; have hy8 : w1.cell? ⟨w.heap.size, 8, none⟩ = some (.slice A8 n8 c8) := HX1.out.get 7 rfl; have hy9 : w1.cell? ⟨w.heap.size, 9, none⟩ = some (.slice A9 n9 c9) := HX1.out.get 8 rfl)))
      go_quiet ((first | (go_at_call 41; exact Calls.quiet_of_same (hd_in _ _ _ _)) | (go_at_call 43; exact Calls.quiet_of_same (hd_many _ _ _ _))))
      go_wp2
      go_quiet (fail)
      go_wp2_with (first | (go_at_call 44; refine (hd_leads _ id size view last commit false _ _ _ _ _ (by first | exact HX1.out.drewN _ | exact (HX1.out.drewN _).drewN _ | exact HX1.out) hs1 hs2 hv1 hv2).mono ?_; rintro e w2 ⟨rfl, nq, rfl⟩) | (go_at_call 45; rw [HN7.out]; ((refine (hasO_calls _ _ oks ⟨w.heap.size, 0, none⟩ A5 n5 c5 _ (by exact hy5) (by (with_reducible repeat (first | refine Kd.C_drewN ?_ _ | refine Kd.C_drew ?_)); exact Kd.C_below HR7.out HB.out) HC7.out).mono ?_); rintro e w2 ⟨rfl, rfl⟩)))
      all_goals first
        | (go_ret; exact ⟨ret_i64 (HE1.out (by rw [HS.out]; simp_all)).symm, (by repeat (first | (with_reducible first | exact HB.out | apply below_alloc | apply pw_below_drewN | apply below_drew1) | exact HB.out))⟩)
        | (go_ret; exact ⟨ret_i64 (HE3.out (by rw [HS.out]; simp_all)).symm, (by repeat (first | (with_reducible first | exact HB.out | apply below_alloc | apply pw_below_drewN | apply below_drew1) | exact HB.out))⟩)
        | skip
      have hb9n : n9 ≤ 5 := by grind
      go_loopw [95] (fun v w' => ∃ k : Nat, k ≤ n9 ∧ v = .int .i64 k ∧ Aside0 (doersF doers = doersF (doers.drop k)) ∧ Aside0 (Below w.heap.size w w')) (fun v _ => n9 - (intOf v).toNat)
      case atStart => exact ⟨0, by omega, rfl, ⟨by simp⟩, ⟨(by repeat (first | (with_reducible first | exact HB.out | apply below_alloc | apply pw_below_drewN | apply below_drew1) | exact HB.out))⟩⟩
      case round =>
        have HE4 : Aside0 (repF id size view false last log commit oks n8 doers = doersF doers) := ⟨HE3.out (by rw [HS.out]; simp_all)⟩
        clear HB
        obtain ⟨m, hk, rfl, HO, HB⟩ := hrel
        by_cases hlt : m < n9
        · have hl1 : decide ((m : Int) < (n9 : Int)) = true := decide_eq_true (by omega)
          obtain ⟨ad, A2, c2, e1, hd0, hd1, hd2, hd3, hdl, hdr⟩ := at_T70 HR9.out (m : Int) (by omega) (by rw [← HN9.out]; omega)
          cases e1
          simp only [Int.toNat_natCast] at hd0 hd1 hd2 hd3
          have HD := Aside0.mk (doersF_drop doers m (by rw [← HN9.out]; omega))
          replace hd0 := (HB.out.cell (World.block_lt_of_cell? w _ hd0)).trans hd0
          replace hd1 := (HB.out.cell (World.block_lt_of_cell? w _ hd1)).trans hd1
          replace hd2 := (HB.out.cell (World.block_lt_of_cell? w _ hd2)).trans hd2
          replace hd3 := (HB.out.cell (World.block_lt_of_cell? w _ hd3)).trans hd3
          have HDL := Aside0.mk hdl
          have HDR := Aside0.mk (Kd.C_below hdr HB.out)
          clear hdl hdr
          generalize rd_T70 doers (m : Int) = x at *
          obtain ⟨r, hr⟩ : ∃ r, r = doerF x.f0 x.f1 x.f2 x.f3 := ⟨_, rfl⟩
          have HR2 := Aside0.mk hr
          clear hr
          by_cases hz : (r != 0) = true
          · go_wp2_with (go_at_call 47; refine (hd_doerFault _ _ _ _ _ _ _ _ (Kd.C_alloc HDR.out _) HDL.out rfl).mono ?_; rintro e w3 ⟨rfl, hb⟩; rw [← HR2.out]; have n_ := Aside0.mk (below_step (by repeat (first | (with_reducible first | exact HB.out | apply below_alloc | apply pw_below_drewN | apply below_drew1) | exact HB.out)) hb); clear HB hb; have HB := n_; clear n_)
            go_ret
            exact ⟨ret_i64 (by rw [HE4.out, HO.out, HD.out]; exact HR2.out.trans (if_neg (by rw [← HR2.out]; exact bne_iff_ne.1 hz)).symm), (by repeat (first | (with_reducible first | exact HB.out | apply below_alloc | apply pw_below_drewN | apply below_drew1) | exact HB.out))⟩
          · rw [Bool.not_eq_true] at hz
            have HZ : Aside0 (r = 0) := ⟨by simpa using hz⟩
            go_wp2_with (go_at_call 47; refine (hd_doerFault _ _ _ _ _ _ _ _ (Kd.C_alloc HDR.out _) HDL.out rfl).mono ?_; rintro e w3 ⟨rfl, hb⟩; rw [← HR2.out]; have n_ := Aside0.mk (below_step (by repeat (first | (with_reducible first | exact HB.out | apply below_alloc | apply pw_below_drewN | apply below_drew1) | exact HB.out)) hb); clear HB hb; have HB := n_; clear n_)
            go_roundw
            case rel => exact ⟨m + 1, by omega, by go_num, ⟨by rw [HO.out, HD.out]; exact if_pos (HR2.out.symm.trans HZ.out)⟩, ⟨(by repeat (first | (with_reducible first | exact HB.out | apply below_alloc | apply pw_below_drewN | apply below_drew1) | exact HB.out))⟩⟩
            case measure => simp [intOf]; omega
        · have hl1 : decide ((m : Int) < (n9 : Int)) = false := decide_eq_false (by omega)
          go_wp2
          go_ret
          exact ⟨ret_i64 (by rw [HE4.out, HO.out, List.drop_eq_nil_of_le (by rw [← HN9.out]; omega)]; rfl), (by repeat (first | (with_reducible first | exact HB.out | apply below_alloc | apply pw_below_drewN | apply below_drew1) | exact HB.out))⟩
    | true =>
      have h7b : (last != view) = false := by have := H7.out; simpa using this
      by_cases hp : (view % size == id) = true
      · obtain ⟨b7, hb7⟩ : ∃ b, ((n7 : Int) != size) = b := ⟨_, rfl⟩
        obtain ⟨b8, hb8⟩ : ∃ b, ((n8 : Int) != 0) = b := ⟨_, rfl⟩
        obtain ⟨b9, hb9⟩ : ∃ b, ((n9 : Int) != 0) = b := ⟨_, rfl⟩
        have hc8 : (n8 != 0) = b8 := by rw [← hb8, Bool.eq_iff_iff]; simp
        have hc9 : (n9 != 0) = b9 := by rw [← hb9, Bool.eq_iff_iff]; simp
        have HS : Aside0 (sizesB id size view true oks.length n8 doers.length = (!b7 && (!b8 && !b9))) := ⟨by rw [← HN7.out, ← HN9.out, ← hb7, ← hb8, ← hb9]; unfold sizesB; grind⟩
        go_enter Try.func12, Try.ntmps12
        go_wp2_with (first | (go_at_call 41; refine (hd_in _ _ _ _).mono ?_; rintro e w2 ⟨rfl, rfl⟩) | (go_at_call 42; rw [HN5.out]; ((with_reducible refine (impl_LogFault.calls _ _ _ _ _ (Kd.C_alloc HR5.out _) HC5.out rfl).mono ?_); rintro e w1 ⟨rfl, hb⟩; rw [← HLF.out, ← HN5.out]; rw [← HN5.out] at hb; have n_ := Aside0.mk (below_step (by repeat (first | (with_reducible first | exact HB.out | apply below_alloc | apply pw_below_drewN | apply below_drew1) | exact HB.out)) hb); have HX1 : Aside0 (CellsAt w1 ⟨w.heap.size, 0, none⟩ [.int .i64 id, .int .i64 size, .int .i64 view, .bool true, .int .i64 last, .slice A5 n5 c5, .int .i64 commit, .slice A7 n7 c7, .slice A8 n8 c8, .slice A9 n9 c9]) := ⟨cellsAt_new hb⟩; clear HB hb; have HB := n_; clear n_; have hy0 : w1.cell? ⟨w.heap.size, 0, none⟩ = some (.int .i64 id) := HX1.out.zero rfl; have hy1 : w1.cell? ⟨w.heap.size, 1, none⟩ = some (.int .i64 size) := HX1.out.get 0 rfl; have hy2 : w1.cell? ⟨w.heap.size, 2, none⟩ = some (.int .i64 view) := HX1.out.get 1 rfl; have hy3 : w1.cell? ⟨w.heap.size, 3, none⟩ = some (.bool true) := HX1.out.get 2 rfl; have hy4 : w1.cell? ⟨w.heap.size, 4, none⟩ = some (.int .i64 last) := HX1.out.get 3 rfl; have hy5 : w1.cell? ⟨w.heap.size, 5, none⟩ = some (.slice A5 n5 c5) := HX1.out.get 4 rfl; have hy6 : w1.cell? ⟨w.heap.size, 6, none⟩ = some (.int .i64 commit) := HX1.out.get 5 rfl; have hy7 : w1.cell? ⟨w.heap.size, 7, none⟩ = some (.slice A7 n7 c7) := HX1.out.get 6 rfl; have hy8 : w1.cell? ⟨w.heap.size, 8, none⟩ = some (.slice A8 n8 c8) := HX1.out.get 7 rfl; have hy9 : w1.cell? ⟨w.heap.size, 9, none⟩ = some (.slice A9 n9 c9) := HX1.out.get 8 rfl)))
        go_quiet ((first | (go_at_call 41; exact Calls.quiet_of_same (hd_in _ _ _ _)) | (go_at_call 43; exact Calls.quiet_of_same (hd_many _ _ _ _))))
        go_wp2
        go_quiet (fail)
        go_wp2_with (first | (go_at_call 44; refine (hd_leads _ id size view last commit true _ _ _ _ _ (by first | exact HX1.out.drewN _ | exact (HX1.out.drewN _).drewN _ | exact HX1.out) hs1 hs2 hv1 hv2).mono ?_; rintro e w2 ⟨rfl, nq, rfl⟩) | (go_at_call 45; rw [HN7.out]; ((refine (hasO_calls _ _ oks ⟨w.heap.size, 0, none⟩ A5 n5 c5 _ (by exact hy5) (by (with_reducible repeat (first | refine Kd.C_drewN ?_ _ | refine Kd.C_drew ?_)); exact Kd.C_below HR7.out HB.out) HC7.out).mono ?_); rintro e w2 ⟨rfl, rfl⟩)))
        all_goals first
          | (go_ret; exact ⟨ret_i64 (HE1.out (by rw [HS.out]; simp_all)).symm, (by repeat (first | (with_reducible first | exact HB.out | apply below_alloc | apply pw_below_drewN | apply below_drew1) | exact HB.out))⟩)
          | (go_ret; exact ⟨ret_i64 (HE3.out (by rw [HS.out]; simp_all)).symm, (by repeat (first | (with_reducible first | exact HB.out | apply below_alloc | apply pw_below_drewN | apply below_drew1) | exact HB.out))⟩)
          | skip
        have hb9n : n9 ≤ 5 := by grind
        go_loopw [95] (fun v w' => ∃ k : Nat, k ≤ n9 ∧ v = .int .i64 k ∧ Aside0 (doersF doers = doersF (doers.drop k)) ∧ Aside0 (Below w.heap.size w w')) (fun v _ => n9 - (intOf v).toNat)
        case atStart => exact ⟨0, by omega, rfl, ⟨by simp⟩, ⟨(by repeat (first | (with_reducible first | exact HB.out | apply below_alloc | apply pw_below_drewN | apply below_drew1) | exact HB.out))⟩⟩
        case round =>
          have HE4 : Aside0 (repF id size view true last log commit oks n8 doers = doersF doers) := ⟨HE3.out (by rw [HS.out]; simp_all)⟩
          clear HB
          obtain ⟨m, hk, rfl, HO, HB⟩ := hrel
          by_cases hlt : m < n9
          · have hl1 : decide ((m : Int) < (n9 : Int)) = true := decide_eq_true (by omega)
            obtain ⟨ad, A2, c2, e1, hd0, hd1, hd2, hd3, hdl, hdr⟩ := at_T70 HR9.out (m : Int) (by omega) (by rw [← HN9.out]; omega)
            cases e1
            simp only [Int.toNat_natCast] at hd0 hd1 hd2 hd3
            have HD := Aside0.mk (doersF_drop doers m (by rw [← HN9.out]; omega))
            replace hd0 := (HB.out.cell (World.block_lt_of_cell? w _ hd0)).trans hd0
            replace hd1 := (HB.out.cell (World.block_lt_of_cell? w _ hd1)).trans hd1
            replace hd2 := (HB.out.cell (World.block_lt_of_cell? w _ hd2)).trans hd2
            replace hd3 := (HB.out.cell (World.block_lt_of_cell? w _ hd3)).trans hd3
            have HDL := Aside0.mk hdl
            have HDR := Aside0.mk (Kd.C_below hdr HB.out)
            clear hdl hdr
            generalize rd_T70 doers (m : Int) = x at *
            obtain ⟨r, hr⟩ : ∃ r, r = doerF x.f0 x.f1 x.f2 x.f3 := ⟨_, rfl⟩
            have HR2 := Aside0.mk hr
            clear hr
            by_cases hz : (r != 0) = true
            · go_wp2_with (go_at_call 47; refine (hd_doerFault _ _ _ _ _ _ _ _ (Kd.C_alloc HDR.out _) HDL.out rfl).mono ?_; rintro e w3 ⟨rfl, hb⟩; rw [← HR2.out]; have n_ := Aside0.mk (below_step (by repeat (first | (with_reducible first | exact HB.out | apply below_alloc | apply pw_below_drewN | apply below_drew1) | exact HB.out)) hb); clear HB hb; have HB := n_; clear n_)
              go_ret
              exact ⟨ret_i64 (by rw [HE4.out, HO.out, HD.out]; exact HR2.out.trans (if_neg (by rw [← HR2.out]; exact bne_iff_ne.1 hz)).symm), (by repeat (first | (with_reducible first | exact HB.out | apply below_alloc | apply pw_below_drewN | apply below_drew1) | exact HB.out))⟩
            · rw [Bool.not_eq_true] at hz
              have HZ : Aside0 (r = 0) := ⟨by simpa using hz⟩
              go_wp2_with (go_at_call 47; refine (hd_doerFault _ _ _ _ _ _ _ _ (Kd.C_alloc HDR.out _) HDL.out rfl).mono ?_; rintro e w3 ⟨rfl, hb⟩; rw [← HR2.out]; have n_ := Aside0.mk (below_step (by repeat (first | (with_reducible first | exact HB.out | apply below_alloc | apply pw_below_drewN | apply below_drew1) | exact HB.out)) hb); clear HB hb; have HB := n_; clear n_)
              go_roundw
              case rel => exact ⟨m + 1, by omega, by go_num, ⟨by rw [HO.out, HD.out]; exact if_pos (HR2.out.symm.trans HZ.out)⟩, ⟨(by repeat (first | (with_reducible first | exact HB.out | apply below_alloc | apply pw_below_drewN | apply below_drew1) | exact HB.out))⟩⟩
              case measure => simp [intOf]; omega
          · have hl1 : decide ((m : Int) < (n9 : Int)) = false := decide_eq_false (by omega)
            go_wp2
            go_ret
            exact ⟨ret_i64 (by rw [HE4.out, HO.out, List.drop_eq_nil_of_le (by rw [← HN9.out]; omega)]; rfl), (by repeat (first | (with_reducible first | exact HB.out | apply below_alloc | apply pw_below_drewN | apply below_drew1) | exact HB.out))⟩
      · rw [Bool.not_eq_true] at hp
        obtain ⟨b7, hb7⟩ : ∃ b, ((n7 : Int) != 0) = b := ⟨_, rfl⟩
        obtain ⟨b8, hb8⟩ : ∃ b, ((n8 : Int) != 0) = b := ⟨_, rfl⟩
        obtain ⟨b9, hb9⟩ : ∃ b, ((n9 : Int) != 0) = b := ⟨_, rfl⟩
        have hc7 : (n7 != 0) = b7 := by rw [← hb7, Bool.eq_iff_iff]; simp
        have hc8 : (n8 != 0) = b8 := by rw [← hb8, Bool.eq_iff_iff]; simp
        have hc9 : (n9 != 0) = b9 := by rw [← hb9, Bool.eq_iff_iff]; simp
        have HS : Aside0 (sizesB id size view true oks.length n8 doers.length = (!b7 && (!b8 && !b9))) := ⟨by rw [← HN7.out, ← HN9.out, ← hb7, ← hb8, ← hb9]; unfold sizesB; grind⟩
        go_enter Try.func12, Try.ntmps12
        go_wp2_with (first | (go_at_call 41; refine (hd_in _ _ _ _).mono ?_; rintro e w2 ⟨rfl, rfl⟩) | (go_at_call 42; rw [HN5.out]; ((with_reducible refine (impl_LogFault.calls _ _ _ _ _ (Kd.C_alloc HR5.out _) HC5.out rfl).mono ?_); rintro e w1 ⟨rfl, hb⟩; rw [← HLF.out, ← HN5.out]; rw [← HN5.out] at hb; have n_ := Aside0.mk (below_step (by repeat (first | (with_reducible first | exact HB.out | apply below_alloc | apply pw_below_drewN | apply below_drew1) | exact HB.out)) hb); have HX1 : Aside0 (CellsAt w1 ⟨w.heap.size, 0, none⟩ [.int .i64 id, .int .i64 size, .int .i64 view, .bool true, .int .i64 last, .slice A5 n5 c5, .int .i64 commit, .slice A7 n7 c7, .slice A8 n8 c8, .slice A9 n9 c9]) := ⟨cellsAt_new hb⟩; clear HB hb; have HB := n_; clear n_; have hy0 : w1.cell? ⟨w.heap.size, 0, none⟩ = some (.int .i64 id) := HX1.out.zero rfl; have hy1 : w1.cell? ⟨w.heap.size, 1, none⟩ = some (.int .i64 size) := HX1.out.get 0 rfl; have hy2 : w1.cell? ⟨w.heap.size, 2, none⟩ = some (.int .i64 view) := HX1.out.get 1 rfl; have hy3 : w1.cell? ⟨w.heap.size, 3, none⟩ = some (.bool true) := HX1.out.get 2 rfl; have hy4 : w1.cell? ⟨w.heap.size, 4, none⟩ = some (.int .i64 last) := HX1.out.get 3 rfl; have hy5 : w1.cell? ⟨w.heap.size, 5, none⟩ = some (.slice A5 n5 c5) := HX1.out.get 4 rfl; have hy6 : w1.cell? ⟨w.heap.size, 6, none⟩ = some (.int .i64 commit) := HX1.out.get 5 rfl; have hy7 : w1.cell? ⟨w.heap.size, 7, none⟩ = some (.slice A7 n7 c7) := HX1.out.get 6 rfl; have hy8 : w1.cell? ⟨w.heap.size, 8, none⟩ = some (.slice A8 n8 c8) := HX1.out.get 7 rfl; have hy9 : w1.cell? ⟨w.heap.size, 9, none⟩ = some (.slice A9 n9 c9) := HX1.out.get 8 rfl)))
        go_quiet ((first | (go_at_call 41; exact Calls.quiet_of_same (hd_in _ _ _ _)) | (go_at_call 43; exact Calls.quiet_of_same (hd_many _ _ _ _))))
        go_wp2
        go_quiet (fail)
        go_wp2_with (first | (go_at_call 44; refine (hd_leads _ id size view last commit true _ _ _ _ _ (by first | exact HX1.out.drewN _ | exact (HX1.out.drewN _).drewN _ | exact HX1.out) hs1 hs2 hv1 hv2).mono ?_; rintro e w2 ⟨rfl, nq, rfl⟩) | (go_at_call 45; rw [HN7.out]; ((refine (hasO_calls _ _ oks ⟨w.heap.size, 0, none⟩ A5 n5 c5 _ (by exact hy5) (by (with_reducible repeat (first | refine Kd.C_drewN ?_ _ | refine Kd.C_drew ?_)); exact Kd.C_below HR7.out HB.out) HC7.out).mono ?_); rintro e w2 ⟨rfl, rfl⟩)))
        all_goals first
          | (go_ret; exact ⟨ret_i64 (HE1.out (by rw [HS.out]; simp_all)).symm, (by repeat (first | (with_reducible first | exact HB.out | apply below_alloc | apply pw_below_drewN | apply below_drew1) | exact HB.out))⟩)
          | (go_ret; exact ⟨ret_i64 (HE3.out (by rw [HS.out]; simp_all)).symm, (by repeat (first | (with_reducible first | exact HB.out | apply below_alloc | apply pw_below_drewN | apply below_drew1) | exact HB.out))⟩)
          | skip
        have hb9n : n9 ≤ 5 := by grind
        go_loopw [95] (fun v w' => ∃ k : Nat, k ≤ n9 ∧ v = .int .i64 k ∧ Aside0 (doersF doers = doersF (doers.drop k)) ∧ Aside0 (Below w.heap.size w w')) (fun v _ => n9 - (intOf v).toNat)
        case atStart => exact ⟨0, by omega, rfl, ⟨by simp⟩, ⟨(by repeat (first | (with_reducible first | exact HB.out | apply below_alloc | apply pw_below_drewN | apply below_drew1) | exact HB.out))⟩⟩
        case round =>
          have HE4 : Aside0 (repF id size view true last log commit oks n8 doers = doersF doers) := ⟨HE3.out (by rw [HS.out]; simp_all)⟩
          clear HB
          obtain ⟨m, hk, rfl, HO, HB⟩ := hrel
          by_cases hlt : m < n9
          · have hl1 : decide ((m : Int) < (n9 : Int)) = true := decide_eq_true (by omega)
            obtain ⟨ad, A2, c2, e1, hd0, hd1, hd2, hd3, hdl, hdr⟩ := at_T70 HR9.out (m : Int) (by omega) (by rw [← HN9.out]; omega)
            cases e1
            simp only [Int.toNat_natCast] at hd0 hd1 hd2 hd3
            have HD := Aside0.mk (doersF_drop doers m (by rw [← HN9.out]; omega))
            replace hd0 := (HB.out.cell (World.block_lt_of_cell? w _ hd0)).trans hd0
            replace hd1 := (HB.out.cell (World.block_lt_of_cell? w _ hd1)).trans hd1
            replace hd2 := (HB.out.cell (World.block_lt_of_cell? w _ hd2)).trans hd2
            replace hd3 := (HB.out.cell (World.block_lt_of_cell? w _ hd3)).trans hd3
            have HDL := Aside0.mk hdl
            have HDR := Aside0.mk (Kd.C_below hdr HB.out)
            clear hdl hdr
            generalize rd_T70 doers (m : Int) = x at *
            obtain ⟨r, hr⟩ : ∃ r, r = doerF x.f0 x.f1 x.f2 x.f3 := ⟨_, rfl⟩
            have HR2 := Aside0.mk hr
            clear hr
            by_cases hz : (r != 0) = true
            · go_wp2_with (go_at_call 47; refine (hd_doerFault _ _ _ _ _ _ _ _ (Kd.C_alloc HDR.out _) HDL.out rfl).mono ?_; rintro e w3 ⟨rfl, hb⟩; rw [← HR2.out]; have n_ := Aside0.mk (below_step (by repeat (first | (with_reducible first | exact HB.out | apply below_alloc | apply pw_below_drewN | apply below_drew1) | exact HB.out)) hb); clear HB hb; have HB := n_; clear n_)
              go_ret
              exact ⟨ret_i64 (by rw [HE4.out, HO.out, HD.out]; exact HR2.out.trans (if_neg (by rw [← HR2.out]; exact bne_iff_ne.1 hz)).symm), (by repeat (first | (with_reducible first | exact HB.out | apply below_alloc | apply pw_below_drewN | apply below_drew1) | exact HB.out))⟩
            · rw [Bool.not_eq_true] at hz
              have HZ : Aside0 (r = 0) := ⟨by simpa using hz⟩
              go_wp2_with (go_at_call 47; refine (hd_doerFault _ _ _ _ _ _ _ _ (Kd.C_alloc HDR.out _) HDL.out rfl).mono ?_; rintro e w3 ⟨rfl, hb⟩; rw [← HR2.out]; have n_ := Aside0.mk (below_step (by repeat (first | (with_reducible first | exact HB.out | apply below_alloc | apply pw_below_drewN | apply below_drew1) | exact HB.out)) hb); clear HB hb; have HB := n_; clear n_)
              go_roundw
              case rel => exact ⟨m + 1, by omega, by go_num, ⟨by rw [HO.out, HD.out]; exact if_pos (HR2.out.symm.trans HZ.out)⟩, ⟨(by repeat (first | (with_reducible first | exact HB.out | apply below_alloc | apply pw_below_drewN | apply below_drew1) | exact HB.out))⟩⟩
              case measure => simp [intOf]; omega
          · have hl1 : decide ((m : Int) < (n9 : Int)) = false := decide_eq_false (by omega)
            go_wp2
            go_ret
            exact ⟨ret_i64 (by rw [HE4.out, HO.out, List.drop_eq_nil_of_le (by rw [← HN9.out]; omega)]; rfl), (by repeat (first | (with_reducible first | exact HB.out | apply below_alloc | apply pw_below_drewN | apply below_drew1) | exact HB.out))⟩
  case neg =>
    rw [Bool.not_eq_true] at h9
    have HE3 : Aside0 (sizesB id size view norm oks.length n8 doers.length = true → repF id size view norm last log commit oks n8 doers = 3) := ⟨fun h => by rw [HE2.out h, if_pos (by rw [← HN5.out]; exact h9)]⟩
    cases norm with
    | false =>
      obtain ⟨b7, hb7⟩ : ∃ b, ((n7 : Int) != 0) = b := ⟨_, rfl⟩
      obtain ⟨b8, hb8⟩ : ∃ b, ((n8 : Int) != size) = b := ⟨_, rfl⟩
      obtain ⟨b9, hb9⟩ : ∃ b, ((n9 : Int) != size) = b := ⟨_, rfl⟩
      have hc7 : (n7 != 0) = b7 := by rw [← hb7, Bool.eq_iff_iff]; simp
      have HS : Aside0 (sizesB id size view false oks.length n8 doers.length = (!b7 && (!b8 && !b9))) := ⟨by rw [← HN7.out, ← HN9.out, ← hb7, ← hb8, ← hb9]; unfold sizesB; grind⟩
      go_enter Try.func12, Try.ntmps12
      go_wp2_with (first | (go_at_call 41; refine (hd_in _ _ _ _).mono ?_; rintro e w2 ⟨rfl, rfl⟩) | (go_at_call 42; rw [HN5.out]; ((with_reducible refine (impl_LogFault.calls _ _ _ _ _ (Kd.C_alloc HR5.out _) HC5.out rfl).mono ?_); rintro e w1 ⟨rfl, hb⟩; rw [← HLF.out, ← HN5.out]; rw [← HN5.out] at hb; have n_ := Aside0.mk (below_step (by repeat (first | (with_reducible first | exact HB.out | apply below_alloc | apply pw_below_drewN | apply below_drew1) | exact HB.out)) hb); have HX1 : Aside0 (CellsAt w1 ⟨w.heap.size, 0, none⟩ [.int .i64 id, .int .i64 size, .int .i64 view, .bool false, .int .i64 last, .slice A5 n5 c5, .int .i64 commit, .slice A7 n7 c7, .slice A8 n8 c8, .slice A9 n9 c9]) := ⟨cellsAt_new hb⟩; clear HB hb; have HB := n_; clear n_; have hy0 : w1.cell? ⟨w.heap.size, 0, none⟩ = some (.int .i64 id) := HX1.out.zero rfl; have hy1 : w1.cell? ⟨w.heap.size, 1, none⟩ = some (.int .i64 size) := HX1.out.get 0 rfl; have hy2 : w1.cell? ⟨w.heap.size, 2, none⟩ = some (.int .i64 view) := HX1.out.get 1 rfl; have hy3 : w1.cell? ⟨w.heap.size, 3, none⟩ = some (.bool false) := HX1.out.get 2 rfl; have hy4 : w1.cell? ⟨w.heap.size, 4, none⟩ = some (.int .i64 last) := HX1.out.get 3 rfl; have hy5 : w1.cell? ⟨w.heap.size, 5, none⟩ = some (.slice A5 n5 c5) := HX1.out.get 4 rfl; have hy6 : w1.cell? ⟨w.heap.size, 6, none⟩ = some (.int .i64 commit) := HX1.out.get 5 rfl; have hy7 : w1.cell? ⟨w.heap.size, 7, none⟩ = some (.slice A7 n7 c7) := HX1.out.get 6 rfl; have hy8 : w1.cell? ⟨w.heap.size, 8, none⟩ = some (.slice A8 n8 c8) := HX1.out.get 7 rfl; have hy9 : w1.cell? ⟨w.heap.size, 9, none⟩ = some (.slice A9 n9 c9) := HX1.out.get 8 rfl)))
      go_quiet ((first | (go_at_call 41; exact Calls.quiet_of_same (hd_in _ _ _ _)) | (go_at_call 43; exact Calls.quiet_of_same (hd_many _ _ _ _))))
      go_wp2
      go_quiet (fail)
      go_wp2_with (first | (go_at_call 44; refine (hd_leads _ id size view last commit false _ _ _ _ _ (by first | exact HX1.out.drewN _ | exact (HX1.out.drewN _).drewN _ | exact HX1.out) hs1 hs2 hv1 hv2).mono ?_; rintro e w2 ⟨rfl, nq, rfl⟩) | (go_at_call 45; rw [HN7.out]; ((refine (hasO_calls _ _ oks ⟨w.heap.size, 0, none⟩ A5 n5 c5 _ (by exact hy5) (by (with_reducible repeat (first | refine Kd.C_drewN ?_ _ | refine Kd.C_drew ?_)); exact Kd.C_below HR7.out HB.out) HC7.out).mono ?_); rintro e w2 ⟨rfl, rfl⟩)))
      all_goals first
        | (go_ret; exact ⟨ret_i64 (HE1.out (by rw [HS.out]; simp_all)).symm, (by repeat (first | (with_reducible first | exact HB.out | apply below_alloc | apply pw_below_drewN | apply below_drew1) | exact HB.out))⟩)
        | (go_ret; exact ⟨ret_i64 (HE3.out (by rw [HS.out]; simp_all)).symm, (by repeat (first | (with_reducible first | exact HB.out | apply below_alloc | apply pw_below_drewN | apply below_drew1) | exact HB.out))⟩)
        | skip
    | true =>
      have h7b : (last != view) = false := by have := H7.out; simpa using this
      by_cases hp : (view % size == id) = true
      · obtain ⟨b7, hb7⟩ : ∃ b, ((n7 : Int) != size) = b := ⟨_, rfl⟩
        obtain ⟨b8, hb8⟩ : ∃ b, ((n8 : Int) != 0) = b := ⟨_, rfl⟩
        obtain ⟨b9, hb9⟩ : ∃ b, ((n9 : Int) != 0) = b := ⟨_, rfl⟩
        have hc8 : (n8 != 0) = b8 := by rw [← hb8, Bool.eq_iff_iff]; simp
        have hc9 : (n9 != 0) = b9 := by rw [← hb9, Bool.eq_iff_iff]; simp
        have HS : Aside0 (sizesB id size view true oks.length n8 doers.length = (!b7 && (!b8 && !b9))) := ⟨by rw [← HN7.out, ← HN9.out, ← hb7, ← hb8, ← hb9]; unfold sizesB; grind⟩
        go_enter Try.func12, Try.ntmps12
        go_wp2_with (first | (go_at_call 41; refine (hd_in _ _ _ _).mono ?_; rintro e w2 ⟨rfl, rfl⟩) | (go_at_call 42; rw [HN5.out]; ((with_reducible refine (impl_LogFault.calls _ _ _ _ _ (Kd.C_alloc HR5.out _) HC5.out rfl).mono ?_); rintro e w1 ⟨rfl, hb⟩; rw [← HLF.out, ← HN5.out]; rw [← HN5.out] at hb; have n_ := Aside0.mk (below_step (by repeat (first | (with_reducible first | exact HB.out | apply below_alloc | apply pw_below_drewN | apply below_drew1) | exact HB.out)) hb); have HX1 : Aside0 (CellsAt w1 ⟨w.heap.size, 0, none⟩ [.int .i64 id, .int .i64 size, .int .i64 view, .bool true, .int .i64 last, .slice A5 n5 c5, .int .i64 commit, .slice A7 n7 c7, .slice A8 n8 c8, .slice A9 n9 c9]) := ⟨cellsAt_new hb⟩; clear HB hb; have HB := n_; clear n_; have hy0 : w1.cell? ⟨w.heap.size, 0, none⟩ = some (.int .i64 id) := HX1.out.zero rfl; have hy1 : w1.cell? ⟨w.heap.size, 1, none⟩ = some (.int .i64 size) := HX1.out.get 0 rfl; have hy2 : w1.cell? ⟨w.heap.size, 2, none⟩ = some (.int .i64 view) := HX1.out.get 1 rfl; have hy3 : w1.cell? ⟨w.heap.size, 3, none⟩ = some (.bool true) := HX1.out.get 2 rfl; have hy4 : w1.cell? ⟨w.heap.size, 4, none⟩ = some (.int .i64 last) := HX1.out.get 3 rfl; have hy5 : w1.cell? ⟨w.heap.size, 5, none⟩ = some (.slice A5 n5 c5) := HX1.out.get 4 rfl; have hy6 : w1.cell? ⟨w.heap.size, 6, none⟩ = some (.int .i64 commit) := HX1.out.get 5 rfl; have hy7 : w1.cell? ⟨w.heap.size, 7, none⟩ = some (.slice A7 n7 c7) := HX1.out.get 6 rfl; have hy8 : w1.cell? ⟨w.heap.size, 8, none⟩ = some (.slice A8 n8 c8) := HX1.out.get 7 rfl; have hy9 : w1.cell? ⟨w.heap.size, 9, none⟩ = some (.slice A9 n9 c9) := HX1.out.get 8 rfl)))
        go_quiet ((first | (go_at_call 41; exact Calls.quiet_of_same (hd_in _ _ _ _)) | (go_at_call 43; exact Calls.quiet_of_same (hd_many _ _ _ _))))
        go_wp2
        go_quiet (fail)
        go_wp2_with (first | (go_at_call 44; refine (hd_leads _ id size view last commit true _ _ _ _ _ (by first | exact HX1.out.drewN _ | exact (HX1.out.drewN _).drewN _ | exact HX1.out) hs1 hs2 hv1 hv2).mono ?_; rintro e w2 ⟨rfl, nq, rfl⟩) | (go_at_call 45; rw [HN7.out]; ((refine (hasO_calls _ _ oks ⟨w.heap.size, 0, none⟩ A5 n5 c5 _ (by exact hy5) (by (with_reducible repeat (first | refine Kd.C_drewN ?_ _ | refine Kd.C_drew ?_)); exact Kd.C_below HR7.out HB.out) HC7.out).mono ?_); rintro e w2 ⟨rfl, rfl⟩)))
        all_goals first
          | (go_ret; exact ⟨ret_i64 (HE1.out (by rw [HS.out]; simp_all)).symm, (by repeat (first | (with_reducible first | exact HB.out | apply below_alloc | apply pw_below_drewN | apply below_drew1) | exact HB.out))⟩)
          | (go_ret; exact ⟨ret_i64 (HE3.out (by rw [HS.out]; simp_all)).symm, (by repeat (first | (with_reducible first | exact HB.out | apply below_alloc | apply pw_below_drewN | apply below_drew1) | exact HB.out))⟩)
          | skip
      · rw [Bool.not_eq_true] at hp
        obtain ⟨b7, hb7⟩ : ∃ b, ((n7 : Int) != 0) = b := ⟨_, rfl⟩
        obtain ⟨b8, hb8⟩ : ∃ b, ((n8 : Int) != 0) = b := ⟨_, rfl⟩
        obtain ⟨b9, hb9⟩ : ∃ b, ((n9 : Int) != 0) = b := ⟨_, rfl⟩
        have hc7 : (n7 != 0) = b7 := by rw [← hb7, Bool.eq_iff_iff]; simp
        have hc8 : (n8 != 0) = b8 := by rw [← hb8, Bool.eq_iff_iff]; simp
        have hc9 : (n9 != 0) = b9 := by rw [← hb9, Bool.eq_iff_iff]; simp
        have HS : Aside0 (sizesB id size view true oks.length n8 doers.length = (!b7 && (!b8 && !b9))) := ⟨by rw [← HN7.out, ← HN9.out, ← hb7, ← hb8, ← hb9]; unfold sizesB; grind⟩
        go_enter Try.func12, Try.ntmps12
        go_wp2_with (first | (go_at_call 41; refine (hd_in _ _ _ _).mono ?_; rintro e w2 ⟨rfl, rfl⟩) | (go_at_call 42; rw [HN5.out]; ((with_reducible refine (impl_LogFault.calls _ _ _ _ _ (Kd.C_alloc HR5.out _) HC5.out rfl).mono ?_); rintro e w1 ⟨rfl, hb⟩; rw [← HLF.out, ← HN5.out]; rw [← HN5.out] at hb; have n_ := Aside0.mk (below_step (by repeat (first | (with_reducible first | exact HB.out | apply below_alloc | apply pw_below_drewN | apply below_drew1) | exact HB.out)) hb); have HX1 : Aside0 (CellsAt w1 ⟨w.heap.size, 0, none⟩ [.int .i64 id, .int .i64 size, .int .i64 view, .bool true, .int .i64 last, .slice A5 n5 c5, .int .i64 commit, .slice A7 n7 c7, .slice A8 n8 c8, .slice A9 n9 c9]) := ⟨cellsAt_new hb⟩; clear HB hb; have HB := n_; clear n_; have hy0 : w1.cell? ⟨w.heap.size, 0, none⟩ = some (.int .i64 id) := HX1.out.zero rfl; have hy1 : w1.cell? ⟨w.heap.size, 1, none⟩ = some (.int .i64 size) := HX1.out.get 0 rfl; have hy2 : w1.cell? ⟨w.heap.size, 2, none⟩ = some (.int .i64 view) := HX1.out.get 1 rfl; have hy3 : w1.cell? ⟨w.heap.size, 3, none⟩ = some (.bool true) := HX1.out.get 2 rfl; have hy4 : w1.cell? ⟨w.heap.size, 4, none⟩ = some (.int .i64 last) := HX1.out.get 3 rfl; have hy5 : w1.cell? ⟨w.heap.size, 5, none⟩ = some (.slice A5 n5 c5) := HX1.out.get 4 rfl; have hy6 : w1.cell? ⟨w.heap.size, 6, none⟩ = some (.int .i64 commit) := HX1.out.get 5 rfl; have hy7 : w1.cell? ⟨w.heap.size, 7, none⟩ = some (.slice A7 n7 c7) := HX1.out.get 6 rfl; have hy8 : w1.cell? ⟨w.heap.size, 8, none⟩ = some (.slice A8 n8 c8) := HX1.out.get 7 rfl; have hy9 : w1.cell? ⟨w.heap.size, 9, none⟩ = some (.slice A9 n9 c9) := HX1.out.get 8 rfl)))
        go_quiet ((first | (go_at_call 41; exact Calls.quiet_of_same (hd_in _ _ _ _)) | (go_at_call 43; exact Calls.quiet_of_same (hd_many _ _ _ _))))
        go_wp2
        go_quiet (fail)
        go_wp2_with (first | (go_at_call 44; refine (hd_leads _ id size view last commit true _ _ _ _ _ (by first | exact HX1.out.drewN _ | exact (HX1.out.drewN _).drewN _ | exact HX1.out) hs1 hs2 hv1 hv2).mono ?_; rintro e w2 ⟨rfl, nq, rfl⟩) | (go_at_call 45; rw [HN7.out]; ((refine (hasO_calls _ _ oks ⟨w.heap.size, 0, none⟩ A5 n5 c5 _ (by exact hy5) (by (with_reducible repeat (first | refine Kd.C_drewN ?_ _ | refine Kd.C_drew ?_)); exact Kd.C_below HR7.out HB.out) HC7.out).mono ?_); rintro e w2 ⟨rfl, rfl⟩)))
        all_goals first
          | (go_ret; exact ⟨ret_i64 (HE1.out (by rw [HS.out]; simp_all)).symm, (by repeat (first | (with_reducible first | exact HB.out | apply below_alloc | apply pw_below_drewN | apply below_drew1) | exact HB.out))⟩)
          | (go_ret; exact ⟨ret_i64 (HE3.out (by rw [HS.out]; simp_all)).symm, (by repeat (first | (with_reducible first | exact HB.out | apply below_alloc | apply pw_below_drewN | apply below_drew1) | exact HB.out))⟩)
          | skip

def impl_ReplicaFault.f (a0_0 : Int) (a0_1 : Int) (a0_2 : Int) (a0_3 : Bool) (a0_4 : Int) (l0_5 : List (S95)) (a0_6 : Int) (l0_7 : List Int) (l0_8 : List Bool) (l0_9 : List (S70)) : Option (Int) := some (repF a0_0 a0_1 a0_2 a0_3 a0_4 l0_5 a0_6 l0_7 l0_8.length l0_9)
theorem impl_ReplicaFault.calls (a0_0 : Int) (a0_1 : Int) (a0_2 : Int) (a0_3 : Bool) (a0_4 : Int) (A0_5 : Option Addr) (c0_5 : Nat) (l0_5 : List (S95)) (a0_6 : Int) (A0_7 : Option Addr) (c0_7 : Nat) (l0_7 : List Int) (A0_8 : Option Addr) (c0_8 : Nat) (l0_8 : List Bool) (A0_9 : Option Addr) (c0_9 : Nat) (l0_9 : List (S70)) (r : Int) (w : World) (hr0_5 : Kd.C k95 w A0_5 l0_5.length l0_5) (hc0_5 : l0_5.length ≤ c0_5) (hr0_7 : Kd.C (Kd.int .i64) w A0_7 l0_7.length l0_7) (hc0_7 : l0_7.length ≤ c0_7) (hr0_8 : Kd.C Kd.bool w A0_8 l0_8.length l0_8) (hc0_8 : l0_8.length ≤ c0_8) (hr0_9 : Kd.C k70 w A0_9 l0_9.length l0_9) (hc0_9 : l0_9.length ≤ c0_9) (h : impl_ReplicaFault.f a0_0 a0_1 a0_2 a0_3 a0_4 l0_5 a0_6 l0_7 l0_8 l0_9 = some r) :
    Calls Try.prog 12 #[.agg #[.int .i64 a0_0, .int .i64 a0_1, .int .i64 a0_2, .bool a0_3, .int .i64 a0_4, .slice A0_5 l0_5.length c0_5, .int .i64 a0_6, .slice A0_7 l0_7.length c0_7, .slice A0_8 l0_8.length c0_8, .slice A0_9 l0_9.length c0_9]] w fun e w' => e = .returned (.int .i64 r) ∧ Below w.heap.size w w' := by
  obtain rfl := Option.some.inj h
  exact hd_ReplicaFault _ _ _ _ _ _ _ _ _ _ _ _ _ _ _ _ _ _ _ _ _ w rfl rfl rfl hr0_5 hc0_5 hr0_7 hc0_7 hr0_9 hc0_9


/-! ### impl_counted: function 59 -/
def impl_counted.f (a0_0 : Int) (a0_1 : Int) (a0_2 : Int) (a0_3 : Bool) (a0_4 : Int) (l0_5 : List (S95)) (a0_6 : Int) (l0_7 : List Int) (l0_8 : List Bool) (l0_9 : List (S70)) (a1 : Int) : Option (Int × Int) := (impl_ReplicaFault.f a0_0 a0_1 a0_2 a0_3 a0_4 l0_5 a0_6 l0_7 l0_8 l0_9).bind fun t232 => (if t232 = 0 then (some (0, a1)) else (some (t232, 0)))
set_option maxHeartbeats 8000000 in
set_option maxRecDepth 100000 in
theorem impl_counted.calls (a0_0 : Int) (a0_1 : Int) (a0_2 : Int) (a0_3 : Bool) (a0_4 : Int) (A0_5 : Option Addr) (c0_5 : Nat) (l0_5 : List (S95)) (a0_6 : Int) (A0_7 : Option Addr) (c0_7 : Nat) (l0_7 : List Int) (A0_8 : Option Addr) (c0_8 : Nat) (l0_8 : List Bool) (A0_9 : Option Addr) (c0_9 : Nat) (l0_9 : List (S70)) (a1 : Int) (r1 : Int) (r2 : Int) (w : World) (hr0_5 : Kd.C k95 w A0_5 l0_5.length l0_5) (hc0_5 : l0_5.length ≤ c0_5) (hr0_7 : Kd.C (Kd.int .i64) w A0_7 l0_7.length l0_7) (hc0_7 : l0_7.length ≤ c0_7) (hr0_8 : Kd.C Kd.bool w A0_8 l0_8.length l0_8) (hc0_8 : l0_8.length ≤ c0_8) (hr0_9 : Kd.C k70 w A0_9 l0_9.length l0_9) (hc0_9 : l0_9.length ≤ c0_9) (h : impl_counted.f a0_0 a0_1 a0_2 a0_3 a0_4 l0_5 a0_6 l0_7 l0_8 l0_9 a1 = some (r1, r2)) :
    Calls Try.prog 59 #[.agg #[.int .i64 a0_0, .int .i64 a0_1, .int .i64 a0_2, .bool a0_3, .int .i64 a0_4, .slice A0_5 l0_5.length c0_5, .int .i64 a0_6, .slice A0_7 l0_7.length c0_7, .slice A0_8 l0_8.length c0_8, .slice A0_9 l0_9.length c0_9], .int .i64 a1] w fun e w' => e = .returned (.agg #[.int .i64 r1, .int .i64 r2]) ∧ Below w.heap.size w w' := by
  have hu33 := Try.underlying33
  have hu45 := Try.underlying45
  have HR0_5 := Aside0.mk hr0_5
  have HC0_5 := Aside0.mk hc0_5
  clear hr0_5 hc0_5
  have HR0_7 := Aside0.mk hr0_7
  have HC0_7 := Aside0.mk hc0_7
  clear hr0_7 hc0_7
  have HR0_8 := Aside0.mk hr0_8
  have HC0_8 := Aside0.mk hc0_8
  clear hr0_8 hc0_8
  have HR0_9 := Aside0.mk hr0_9
  have HC0_9 := Aside0.mk hc0_9
  clear hr0_9 hc0_9
  have HB := Aside0.mk (Below.refl w.heap.size w)
  have H : ((impl_ReplicaFault.f a0_0 a0_1 a0_2 a0_3 a0_4 l0_5 a0_6 l0_7 l0_8 l0_9).bind fun t232 => (if t232 = 0 then (some (0, a1)) else (some (t232, 0)))) = some (r1, r2) := h
  clear h
  replace H := Option.bind_eq_some_iff.mp H
  obtain ⟨t232, A30, H⟩ := H
  replace H : (if t232 = 0 then (some (0, a1)) else (some (t232, 0))) = some (r1, r2) := H
  have A3 := Aside0.mk A30
  clear A30
  by_cases c4 : t232 = 0
  · rw [if_pos c4] at H
    have c4b0 : (t232 == 0) = true := beq_iff_eq.mpr c4
    have c4b1 : (t232 != 0) = false := bne_eq_false_iff_eq.mpr c4
    clear c4
    simp only [Option.some.injEq, Prod.mk.injEq] at H
    obtain ⟨rfl, rfl⟩ := H
    go_enter Try.func59, Try.ntmps59
    go_wp2_with (first | ((with_reducible refine gate_dst (N := 2) rfl ?_); refine box_event ?hg (N := 2) ?hd (cs := #[.int .i64 a0_0, .int .i64 a0_1, .int .i64 a0_2, .bool a0_3, .int .i64 a0_4, .slice A0_5 l0_5.length c0_5, .int .i64 a0_6, .slice A0_7 l0_7.length c0_7, .slice A0_8 l0_8.length c0_8, .slice A0_9 l0_9.length c0_9]) (t := 33) ?hr ?_; (case hd => rfl); (case hg => rfl); (case hr => first | (go_simp; done) | (go_simp; rfl)); intro gb230 hg w5 hbox hb; have n0_ := Aside0.mk (below_step (by repeat (first | (with_reducible first | exact HB.out | apply below_alloc | apply pw_below_drewN | apply below_drew1) | exact HB.out)) hb); have n1_ := Aside0.mk (hbox); have n2_ := Aside0.mk ((by rw [hg]; exact (below_size (by repeat (first | (with_reducible first | exact HB.out | apply below_alloc | apply pw_below_drewN | apply below_drew1) | exact HB.out))) : w.heap.size ≤ gb230)); have n3_ := Aside0.mk ((by rw [hg]; exact (below_size (by repeat (first | (with_reducible first | exact HB.out | apply below_alloc | apply pw_below_drewN | apply below_drew1) | exact HB.out))) : w.heap.size ≤ gb230)); clear HB; have HB := n0_; have BK230 := n1_; have GW230 := n2_; have GE230 := n3_; clear n0_ n1_ n2_ n3_; clear hb hbox hg) | ((with_reducible refine gate_dst (N := 4) rfl ?_); refine box_event ?hg (N := 4) ?hd (cs := #[.int .i64 0, .int .i64 0]) (t := 45) ?hr ?_; (case hd => rfl); (case hg => rfl); (case hr => first | (go_simp; done) | (go_simp; rfl)); intro gb231 hg w6 hbox hb; have n0_ := Aside0.mk (blk_below (g := gb230) (o := .cells #[.int .i64 a0_0, .int .i64 a0_1, .int .i64 a0_2, .bool a0_3, .int .i64 a0_4, .slice A0_5 l0_5.length c0_5, .int .i64 a0_6, .slice A0_7 l0_7.length c0_7, .slice A0_8 l0_8.length c0_8, .slice A0_9 l0_9.length c0_9] 33 (0, 0)) (by (with_reducible repeat (first | refine blk_drewN ?_ _ | refine blk_drew ?_ | refine blk_alloc ?_ _)); exact BK230.out) hb); have n1_ := Aside0.mk (below_step (by repeat (first | (with_reducible first | exact HB.out | apply below_alloc | apply pw_below_drewN | apply below_drew1 | refine below_set ?_ GE230.out) | exact HB.out)) hb); have n2_ := Aside0.mk (hbox); have n3_ := Aside0.mk ((by rw [hg]; exact (below_size (by repeat (first | (with_reducible first | exact HB.out | apply below_alloc | apply pw_below_drewN | apply below_drew1 | refine below_set ?_ GE230.out) | exact HB.out))) : w.heap.size ≤ gb231)); have n4_ := Aside0.mk ((by rw [hg]; exact (below_size (by repeat (first | (with_reducible first | exact HB.out | apply below_alloc | apply pw_below_drewN | apply below_drew1 | refine below_set ?_ GE230.out) | exact HB.out))) : w.heap.size ≤ gb231)); have n5_ := Aside0.mk ((by rw [hg]; exact Nat.ne_of_lt (blk_lt (g := gb230) (o := .cells #[.int .i64 a0_0, .int .i64 a0_1, .int .i64 a0_2, .bool a0_3, .int .i64 a0_4, .slice A0_5 l0_5.length c0_5, .int .i64 a0_6, .slice A0_7 l0_7.length c0_7, .slice A0_8 l0_8.length c0_8, .slice A0_9 l0_9.length c0_9] 33 (0, 0)) (by (with_reducible repeat (first | refine blk_drewN ?_ _ | refine blk_drew ?_ | refine blk_alloc ?_ _)); exact BK230.out)) : gb230 ≠ gb231)); have n6_ := Aside0.mk ((by rw [hg]; exact Nat.ne_of_gt (blk_lt (g := gb230) (o := .cells #[.int .i64 a0_0, .int .i64 a0_1, .int .i64 a0_2, .bool a0_3, .int .i64 a0_4, .slice A0_5 l0_5.length c0_5, .int .i64 a0_6, .slice A0_7 l0_7.length c0_7, .slice A0_8 l0_8.length c0_8, .slice A0_9 l0_9.length c0_9] 33 (0, 0)) (by (with_reducible repeat (first | refine blk_drewN ?_ _ | refine blk_drew ?_ | refine blk_alloc ?_ _)); exact BK230.out)) : gb231 ≠ gb230)); clear BK230; clear HB; have BK230 := n0_; have HB := n1_; have BK231 := n2_; have GW231 := n3_; have GE231 := n4_; have NB230_231 := n5_; have NB231_230 := n6_; clear n0_ n1_ n2_ n3_ n4_ n5_ n6_; clear hb hbox hg; have hnb7 := NB230_231.out; have hnc7 := NB231_230.out; have hcz8_0 : w6.cell? ⟨gb230, 0, none⟩ = some (.int .i64 a0_0) := (blk_cell BK230.out 0).trans rfl; have hcz8_1 : w6.cell? ⟨gb230, 1, none⟩ = some (.int .i64 a0_1) := (blk_cell BK230.out 1).trans rfl; have hcz8_2 : w6.cell? ⟨gb230, 2, none⟩ = some (.int .i64 a0_2) := (blk_cell BK230.out 2).trans rfl; have hcz8_3 : w6.cell? ⟨gb230, 3, none⟩ = some (.bool a0_3) := (blk_cell BK230.out 3).trans rfl; have hcz8_4 : w6.cell? ⟨gb230, 4, none⟩ = some (.int .i64 a0_4) := (blk_cell BK230.out 4).trans rfl; have hcz8_5 : w6.cell? ⟨gb230, 5, none⟩ = some (.slice A0_5 l0_5.length c0_5) := (blk_cell BK230.out 5).trans rfl; have hcz8_6 : w6.cell? ⟨gb230, 6, none⟩ = some (.int .i64 a0_6) := (blk_cell BK230.out 6).trans rfl; have hcz8_7 : w6.cell? ⟨gb230, 7, none⟩ = some (.slice A0_7 l0_7.length c0_7) := (blk_cell BK230.out 7).trans rfl; have hcz8_8 : w6.cell? ⟨gb230, 8, none⟩ = some (.slice A0_8 l0_8.length c0_8) := (blk_cell BK230.out 8).trans rfl; have hcz8_9 : w6.cell? ⟨gb230, 9, none⟩ = some (.slice A0_9 l0_9.length c0_9) := (blk_cell BK230.out 9).trans rfl; have hfz8_0 := blk_frozen BK230.out 0; have hfz8_1 := blk_frozen BK230.out 1; have hfz8_2 := blk_frozen BK230.out 2; have hfz8_3 := blk_frozen BK230.out 3; have hfz8_4 := blk_frozen BK230.out 4; have hfz8_5 := blk_frozen BK230.out 5; have hfz8_6 := blk_frozen BK230.out 6; have hfz8_7 := blk_frozen BK230.out 7; have hfz8_8 := blk_frozen BK230.out 8; have hfz8_9 := blk_frozen BK230.out 9) | ((with_reducible refine gate_callee (f := 12) rfl ?_); refine goesL_ (some 7) rfl rfl Try.func12 (by kernel_rfl) rfl #[.agg #[.int .i64 a0_0, .int .i64 a0_1, .int .i64 a0_2, .bool a0_3, .int .i64 a0_4, .slice A0_5 l0_5.length c0_5, .int .i64 a0_6, .slice A0_7 l0_7.length c0_7, .slice A0_8 l0_8.length c0_8, .slice A0_9 l0_9.length c0_9]] rfl (by (try simp only [List.map_toArray, List.map_cons, List.map_nil]); first | done | rfl | (simp only [List.length_drop, List.length_take]; rfl)) ?_; (with_reducible refine (impl_ReplicaFault.calls a0_0 a0_1 a0_2 a0_3 a0_4 _ _ l0_5 a0_6 _ _ l0_7 _ _ l0_8 _ _ l0_9 t232 _ ?side1 ?side2 ?side3 ?side4 ?side5 ?side6 ?side7 ?side8 A3.out).mono ?_); (case side1 => repeat (first | exact (Kd.C_below HR0_5.out HB.out) | (with_reducible refine Kd.C_alloc ?_ _) | (with_reducible refine Kd.C_drewN ?_ _) | (with_reducible refine Kd.C_drew ?_))); (case side2 => exact HC0_5.out); (case side3 => repeat (first | exact (Kd.C_below HR0_7.out HB.out) | (with_reducible refine Kd.C_alloc ?_ _) | (with_reducible refine Kd.C_drewN ?_ _) | (with_reducible refine Kd.C_drew ?_))); (case side4 => exact HC0_7.out); (case side5 => repeat (first | exact (Kd.C_below HR0_8.out HB.out) | (with_reducible refine Kd.C_alloc ?_ _) | (with_reducible refine Kd.C_drewN ?_ _) | (with_reducible refine Kd.C_drew ?_))); (case side6 => exact HC0_8.out); (case side7 => repeat (first | exact (Kd.C_below HR0_9.out HB.out) | (with_reducible refine Kd.C_alloc ?_ _) | (with_reducible refine Kd.C_drewN ?_ _) | (with_reducible refine Kd.C_drew ?_))); (case side8 => exact HC0_9.out); rintro e w9 ⟨rfl, hb⟩; refine ⟨_, rfl, ?_⟩; have n0_ := Aside0.mk (blk_below (g := gb230) (o := .cells #[.int .i64 a0_0, .int .i64 a0_1, .int .i64 a0_2, .bool a0_3, .int .i64 a0_4, .slice A0_5 l0_5.length c0_5, .int .i64 a0_6, .slice A0_7 l0_7.length c0_7, .slice A0_8 l0_8.length c0_8, .slice A0_9 l0_9.length c0_9] 33 (0, 0)) (by (with_reducible repeat (first | refine blk_drewN ?_ _ | refine blk_drew ?_ | refine blk_alloc ?_ _)); exact BK230.out) hb); have n1_ := Aside0.mk (blk_below (g := gb231) (o := .cells #[.int .i64 0, .int .i64 0] 45 (0, 0)) (by (with_reducible repeat (first | refine blk_drewN ?_ _ | refine blk_drew ?_ | refine blk_alloc ?_ _)); exact BK231.out) hb); have n2_ := Aside0.mk (below_step (by repeat (first | (with_reducible first | exact HB.out | apply below_alloc | apply pw_below_drewN | apply below_drew1 | refine below_set ?_ GE230.out | refine below_set ?_ GE231.out) | exact HB.out)) hb); clear BK230; clear BK231; clear HB; have BK230 := n0_; have BK231 := n1_; have HB := n2_; clear n0_ n1_ n2_; (try clear hb); (try clear hb2); (try clear hk); (try clear hi); have hcz10_0 : w9.cell? ⟨gb231, 0, none⟩ = some (.int .i64 0) := (blk_cell BK231.out 0).trans rfl; have hcz10_1 : w9.cell? ⟨gb231, 1, none⟩ = some (.int .i64 0) := (blk_cell BK231.out 1).trans rfl; have hfz10_0 := blk_frozen BK231.out 0; have hfz10_1 := blk_frozen BK231.out 1))
    refine bodyPost_ret (results_cell_row rfl _ _ gb231 45 #[.int .i64 0, .int .i64 a1] (0, 0) _ rfl (by (with_reducible repeat (first | refine blk_drewN ?_ _ | refine blk_drew ?_ | refine blk_alloc ?_ _)); refine blk_put (cs := #[.int .i64 0, .int .i64 0]) ?_ 1 _ rfl; (with_reducible repeat (first | refine blk_drewN ?_ _ | refine blk_drew ?_ | refine blk_alloc ?_ _)); refine blk_put (cs := #[.int .i64 0, .int .i64 0]) ?_ 0 _ rfl; (with_reducible repeat (first | refine blk_drewN ?_ _ | refine blk_drew ?_ | refine blk_alloc ?_ _)); exact BK231.out) Try.underlying45 rfl (by kernel_rfl)) rfl ?_
    exact ⟨by first | rfl | (simp [errW_none, errW_some] <;> rfl) | (simp [*, errW_none, errW_some] <;> rfl), by repeat (first | (with_reducible first | exact HB.out | apply below_alloc | apply pw_below_drewN | apply below_drew1 | refine below_set ?_ GE230.out | refine below_set ?_ GE231.out) | exact HB.out)⟩
  · rw [if_neg c4] at H
    have c4b0 : (t232 == 0) = false := beq_eq_false_iff_ne.mpr c4
    have c4b1 : (t232 != 0) = true := bne_iff_ne.mpr c4
    simp only [Option.some.injEq, Prod.mk.injEq] at H
    obtain ⟨rfl, rfl⟩ := H
    go_enter Try.func59, Try.ntmps59
    go_wp2_with (first | ((with_reducible refine gate_dst (N := 2) rfl ?_); refine box_event ?hg (N := 2) ?hd (cs := #[.int .i64 a0_0, .int .i64 a0_1, .int .i64 a0_2, .bool a0_3, .int .i64 a0_4, .slice A0_5 l0_5.length c0_5, .int .i64 a0_6, .slice A0_7 l0_7.length c0_7, .slice A0_8 l0_8.length c0_8, .slice A0_9 l0_9.length c0_9]) (t := 33) ?hr ?_; (case hd => rfl); (case hg => rfl); (case hr => first | (go_simp; done) | (go_simp; rfl)); intro gb230 hg w11 hbox hb; have n0_ := Aside0.mk (below_step (by repeat (first | (with_reducible first | exact HB.out | apply below_alloc | apply pw_below_drewN | apply below_drew1) | exact HB.out)) hb); have n1_ := Aside0.mk (hbox); have n2_ := Aside0.mk ((by rw [hg]; exact (below_size (by repeat (first | (with_reducible first | exact HB.out | apply below_alloc | apply pw_below_drewN | apply below_drew1) | exact HB.out))) : w.heap.size ≤ gb230)); have n3_ := Aside0.mk ((by rw [hg]; exact (below_size (by repeat (first | (with_reducible first | exact HB.out | apply below_alloc | apply pw_below_drewN | apply below_drew1) | exact HB.out))) : w.heap.size ≤ gb230)); clear HB; have HB := n0_; have BK230 := n1_; have GW230 := n2_; have GE230 := n3_; clear n0_ n1_ n2_ n3_; clear hb hbox hg) | ((with_reducible refine gate_dst (N := 4) rfl ?_); refine box_event ?hg (N := 4) ?hd (cs := #[.int .i64 0, .int .i64 0]) (t := 45) ?hr ?_; (case hd => rfl); (case hg => rfl); (case hr => first | (go_simp; done) | (go_simp; rfl)); intro gb231 hg w12 hbox hb; have n0_ := Aside0.mk (blk_below (g := gb230) (o := .cells #[.int .i64 a0_0, .int .i64 a0_1, .int .i64 a0_2, .bool a0_3, .int .i64 a0_4, .slice A0_5 l0_5.length c0_5, .int .i64 a0_6, .slice A0_7 l0_7.length c0_7, .slice A0_8 l0_8.length c0_8, .slice A0_9 l0_9.length c0_9] 33 (0, 0)) (by (with_reducible repeat (first | refine blk_drewN ?_ _ | refine blk_drew ?_ | refine blk_alloc ?_ _)); exact BK230.out) hb); have n1_ := Aside0.mk (below_step (by repeat (first | (with_reducible first | exact HB.out | apply below_alloc | apply pw_below_drewN | apply below_drew1 | refine below_set ?_ GE230.out) | exact HB.out)) hb); have n2_ := Aside0.mk (hbox); have n3_ := Aside0.mk ((by rw [hg]; exact (below_size (by repeat (first | (with_reducible first | exact HB.out | apply below_alloc | apply pw_below_drewN | apply below_drew1 | refine below_set ?_ GE230.out) | exact HB.out))) : w.heap.size ≤ gb231)); have n4_ := Aside0.mk ((by rw [hg]; exact (below_size (by repeat (first | (with_reducible first | exact HB.out | apply below_alloc | apply pw_below_drewN | apply below_drew1 | refine below_set ?_ GE230.out) | exact HB.out))) : w.heap.size ≤ gb231)); have n5_ := Aside0.mk ((by rw [hg]; exact Nat.ne_of_lt (blk_lt (g := gb230) (o := .cells #[.int .i64 a0_0, .int .i64 a0_1, .int .i64 a0_2, .bool a0_3, .int .i64 a0_4, .slice A0_5 l0_5.length c0_5, .int .i64 a0_6, .slice A0_7 l0_7.length c0_7, .slice A0_8 l0_8.length c0_8, .slice A0_9 l0_9.length c0_9] 33 (0, 0)) (by (with_reducible repeat (first | refine blk_drewN ?_ _ | refine blk_drew ?_ | refine blk_alloc ?_ _)); exact BK230.out)) : gb230 ≠ gb231)); have n6_ := Aside0.mk ((by rw [hg]; exact Nat.ne_of_gt (blk_lt (g := gb230) (o := .cells #[.int .i64 a0_0, .int .i64 a0_1, .int .i64 a0_2, .bool a0_3, .int .i64 a0_4, .slice A0_5 l0_5.length c0_5, .int .i64 a0_6, .slice A0_7 l0_7.length c0_7, .slice A0_8 l0_8.length c0_8, .slice A0_9 l0_9.length c0_9] 33 (0, 0)) (by (with_reducible repeat (first | refine blk_drewN ?_ _ | refine blk_drew ?_ | refine blk_alloc ?_ _)); exact BK230.out)) : gb231 ≠ gb230)); clear BK230; clear HB; have BK230 := n0_; have HB := n1_; have BK231 := n2_; have GW231 := n3_; have GE231 := n4_; have NB230_231 := n5_; have NB231_230 := n6_; clear n0_ n1_ n2_ n3_ n4_ n5_ n6_; clear hb hbox hg; have hnb13 := NB230_231.out; have hnc13 := NB231_230.out; have hcz14_0 : w12.cell? ⟨gb230, 0, none⟩ = some (.int .i64 a0_0) := (blk_cell BK230.out 0).trans rfl; have hcz14_1 : w12.cell? ⟨gb230, 1, none⟩ = some (.int .i64 a0_1) := (blk_cell BK230.out 1).trans rfl; have hcz14_2 : w12.cell? ⟨gb230, 2, none⟩ = some (.int .i64 a0_2) := (blk_cell BK230.out 2).trans rfl; have hcz14_3 : w12.cell? ⟨gb230, 3, none⟩ = some (.bool a0_3) := (blk_cell BK230.out 3).trans rfl; have hcz14_4 : w12.cell? ⟨gb230, 4, none⟩ = some (.int .i64 a0_4) := (blk_cell BK230.out 4).trans rfl; have hcz14_5 : w12.cell? ⟨gb230, 5, none⟩ = some (.slice A0_5 l0_5.length c0_5) := (blk_cell BK230.out 5).trans rfl; have hcz14_6 : w12.cell? ⟨gb230, 6, none⟩ = some (.int .i64 a0_6) := (blk_cell BK230.out 6).trans rfl; have hcz14_7 : w12.cell? ⟨gb230, 7, none⟩ = some (.slice A0_7 l0_7.length c0_7) := (blk_cell BK230.out 7).trans rfl; have hcz14_8 : w12.cell? ⟨gb230, 8, none⟩ = some (.slice A0_8 l0_8.length c0_8) := (blk_cell BK230.out 8).trans rfl; have hcz14_9 : w12.cell? ⟨gb230, 9, none⟩ = some (.slice A0_9 l0_9.length c0_9) := (blk_cell BK230.out 9).trans rfl; have hfz14_0 := blk_frozen BK230.out 0; have hfz14_1 := blk_frozen BK230.out 1; have hfz14_2 := blk_frozen BK230.out 2; have hfz14_3 := blk_frozen BK230.out 3; have hfz14_4 := blk_frozen BK230.out 4; have hfz14_5 := blk_frozen BK230.out 5; have hfz14_6 := blk_frozen BK230.out 6; have hfz14_7 := blk_frozen BK230.out 7; have hfz14_8 := blk_frozen BK230.out 8; have hfz14_9 := blk_frozen BK230.out 9) | ((with_reducible refine gate_callee (f := 12) rfl ?_); refine goesL_ (some 7) rfl rfl Try.func12 (by kernel_rfl) rfl #[.agg #[.int .i64 a0_0, .int .i64 a0_1, .int .i64 a0_2, .bool a0_3, .int .i64 a0_4, .slice A0_5 l0_5.length c0_5, .int .i64 a0_6, .slice A0_7 l0_7.length c0_7, .slice A0_8 l0_8.length c0_8, .slice A0_9 l0_9.length c0_9]] rfl (by (try simp only [List.map_toArray, List.map_cons, List.map_nil]); first | done | rfl | (simp only [List.length_drop, List.length_take]; rfl)) ?_; (with_reducible refine (impl_ReplicaFault.calls a0_0 a0_1 a0_2 a0_3 a0_4 _ _ l0_5 a0_6 _ _ l0_7 _ _ l0_8 _ _ l0_9 t232 _ ?side1 ?side2 ?side3 ?side4 ?side5 ?side6 ?side7 ?side8 A3.out).mono ?_); (case side1 => repeat (first | exact (Kd.C_below HR0_5.out HB.out) | (with_reducible refine Kd.C_alloc ?_ _) | (with_reducible refine Kd.C_drewN ?_ _) | (with_reducible refine Kd.C_drew ?_))); (case side2 => exact HC0_5.out); (case side3 => repeat (first | exact (Kd.C_below HR0_7.out HB.out) | (with_reducible refine Kd.C_alloc ?_ _) | (with_reducible refine Kd.C_drewN ?_ _) | (with_reducible refine Kd.C_drew ?_))); (case side4 => exact HC0_7.out); (case side5 => repeat (first | exact (Kd.C_below HR0_8.out HB.out) | (with_reducible refine Kd.C_alloc ?_ _) | (with_reducible refine Kd.C_drewN ?_ _) | (with_reducible refine Kd.C_drew ?_))); (case side6 => exact HC0_8.out); (case side7 => repeat (first | exact (Kd.C_below HR0_9.out HB.out) | (with_reducible refine Kd.C_alloc ?_ _) | (with_reducible refine Kd.C_drewN ?_ _) | (with_reducible refine Kd.C_drew ?_))); (case side8 => exact HC0_9.out); rintro e w15 ⟨rfl, hb⟩; refine ⟨_, rfl, ?_⟩; have n0_ := Aside0.mk (blk_below (g := gb230) (o := .cells #[.int .i64 a0_0, .int .i64 a0_1, .int .i64 a0_2, .bool a0_3, .int .i64 a0_4, .slice A0_5 l0_5.length c0_5, .int .i64 a0_6, .slice A0_7 l0_7.length c0_7, .slice A0_8 l0_8.length c0_8, .slice A0_9 l0_9.length c0_9] 33 (0, 0)) (by (with_reducible repeat (first | refine blk_drewN ?_ _ | refine blk_drew ?_ | refine blk_alloc ?_ _)); exact BK230.out) hb); have n1_ := Aside0.mk (blk_below (g := gb231) (o := .cells #[.int .i64 0, .int .i64 0] 45 (0, 0)) (by (with_reducible repeat (first | refine blk_drewN ?_ _ | refine blk_drew ?_ | refine blk_alloc ?_ _)); exact BK231.out) hb); have n2_ := Aside0.mk (below_step (by repeat (first | (with_reducible first | exact HB.out | apply below_alloc | apply pw_below_drewN | apply below_drew1 | refine below_set ?_ GE230.out | refine below_set ?_ GE231.out) | exact HB.out)) hb); clear BK230; clear BK231; clear HB; have BK230 := n0_; have BK231 := n1_; have HB := n2_; clear n0_ n1_ n2_; (try clear hb); (try clear hb2); (try clear hk); (try clear hi); have hcz16_0 : w15.cell? ⟨gb231, 0, none⟩ = some (.int .i64 0) := (blk_cell BK231.out 0).trans rfl; have hcz16_1 : w15.cell? ⟨gb231, 1, none⟩ = some (.int .i64 0) := (blk_cell BK231.out 1).trans rfl; have hfz16_0 := blk_frozen BK231.out 0; have hfz16_1 := blk_frozen BK231.out 1))
    refine bodyPost_ret (results_cell_row rfl _ _ gb231 45 #[.int .i64 t232, .int .i64 0] (0, 0) _ rfl (by (with_reducible repeat (first | refine blk_drewN ?_ _ | refine blk_drew ?_ | refine blk_alloc ?_ _)); refine blk_put (cs := #[.int .i64 t232, .int .i64 0]) ?_ 1 _ rfl; (with_reducible repeat (first | refine blk_drewN ?_ _ | refine blk_drew ?_ | refine blk_alloc ?_ _)); refine blk_put (cs := #[.int .i64 0, .int .i64 0]) ?_ 0 _ rfl; (with_reducible repeat (first | refine blk_drewN ?_ _ | refine blk_drew ?_ | refine blk_alloc ?_ _)); exact BK231.out) Try.underlying45 rfl (by kernel_rfl)) rfl ?_
    exact ⟨by first | rfl | (simp [errW_none, errW_some] <;> rfl) | (simp [*, errW_none, errW_some] <;> rfl), by repeat (first | (with_reducible first | exact HB.out | apply below_alloc | apply pw_below_drewN | apply below_drew1 | refine below_set ?_ GE230.out | refine below_set ?_ GE231.out) | exact HB.out)⟩

/-! ### impl_countTrue: function 60 -/
def impl_countTrue.l0 : Nat → Int → List Bool → Int → Int → Option (Int)
  | 0, _, _, _, _ => none
  | k + 1, x3, x6, x7, x8 => if x8 < x7 then (if 0 ≤ x8 then (if x8 < (x6.length : Int) then (if rdOf false x6 x8 = true then (impl_countTrue.l0 k (wrap64 (x3 + 1)) x6 x7 (wrap64 (x8 + 1))) else (impl_countTrue.l0 k x3 x6 x7 (wrap64 (x8 + 1)))) else (none)) else (none)) else (some x3)
def impl_countTrue.f (k : Nat) (l0 : List Bool) : Option (Int) := impl_countTrue.l0 k 0 l0 (l0.length : Int) 0
theorem impl_countTrue.mono_l : ∀ k, (∀ y0 y1 y2 y3, LeO (impl_countTrue.l0 k y0 y1 y2 y3) (impl_countTrue.l0 (k + 1) y0 y1 y2 y3))
  | 0 => fun _ _ _ _ r h => by simp [impl_countTrue.l0] at h
  | k + 1 => by
    have ih0 := impl_countTrue.mono_l k
    · intro y0 y1 y2 y3
      unfold impl_countTrue.l0
      repeat' first
      | (with_reducible exact ih0 _ _ _ _)
      | (with_reducible exact LeO.refl _)
      | (with_reducible exact LeO.none _)
      | (with_reducible refine LeO.ite ?_ ?_)
      | (with_reducible refine LeO.bind ?_ (fun _ => ?_))
      | exact ih0 _ _ _ _
      | exact LeO.none _
      | refine LeO.ite ?_ ?_
      | refine LeO.bind ?_ (fun _ => ?_)
theorem impl_countTrue.mono : ∀ a0 k, LeO (impl_countTrue.f k a0) (impl_countTrue.f (k + 1) a0) := by
  intro a0 k
  have ih0 := impl_countTrue.mono_l k
  unfold impl_countTrue.f
  repeat' first
      | (with_reducible exact ih0 _ _ _ _)
      | (with_reducible exact LeO.refl _)
      | (with_reducible exact LeO.none _)
      | (with_reducible refine LeO.ite ?_ ?_)
      | (with_reducible refine LeO.bind ?_ (fun _ => ?_))
      | exact ih0 _ _ _ _
      | exact LeO.none _
      | refine LeO.ite ?_ ?_
      | refine LeO.bind ?_ (fun _ => ?_)
set_option maxHeartbeats 8000000 in
set_option maxRecDepth 100000 in
theorem impl_countTrue.calls (k : Nat) (A0 : Option Addr) (c0 : Nat) (l0 : List Bool) (r : Int) (w : World) (hr0 : Kd.C Kd.bool w A0 l0.length l0) (hc0 : l0.length ≤ c0) (h : impl_countTrue.f k l0 = some r) :
    Calls Try.prog 60 #[.slice A0 l0.length c0] w fun e w' => e = .returned (.int .i64 r) ∧ Drawn0 w w' := by
  have HR0 := Aside0.mk hr0
  have HC0 := Aside0.mk hc0
  clear hr0 hc0
  have H : (impl_countTrue.l0 k 0 l0 (l0.length : Int) 0) = some r := h
  clear h
  have H' := Aside0.mk H
  clear H
  go_enter Try.func60, Try.ntmps60
  go_wp2
  go_loopg [3, 8] k (fun kq v3 v8 w' => ∃ (x3_1 : Int) (x8_1 : Int), v3 = .int .i64 x3_1 ∧ v8 = .int .i64 x8_1 ∧ Aside0 (impl_countTrue.l0 kq x3_1 l0 (l0.length : Int) x8_1 = some r) ∧ Aside0 (kq ≤ k) ∧ Drawn0 w w')
  case atStart => exact ⟨(0), (0), (by first | rfl | (simp; done) | (simp [*]; done)), (by first | rfl | (simp; done) | (simp [*]; done)), H', ⟨Nat.le_refl _⟩, by repeat (first | exact Drawn0.refl _ | apply Drawn0.step)⟩
  case round =>
    clear H'
    obtain ⟨x3_1, x8_1, rfl, rfl, HA, HK1, ⟨m1, rfl⟩⟩ := hrel
    cases gk with
    | zero => exact absurd HA.out (by simp [impl_countTrue.l0])
    | succ k1 =>
      have H := HA.out
      clear HA
      simp only [impl_countTrue.l0] at H
      by_cases c2 : x8_1 < (l0.length : Int)
      · rw [if_pos c2] at H
        have c2b0 : decide (x8_1 < (l0.length : Int)) = true := decide_eq_true c2
        clear c2
        by_cases c3 : 0 ≤ x8_1
        · rw [if_pos c3] at H
          have c3b0 : decide (0 ≤ x8_1) = true := decide_eq_true c3
          clear c3
          by_cases c4 : x8_1 < (l0.length : Int)
          · rw [if_pos c4] at H
            have c4b0 : decide (x8_1 < (l0.length : Int)) = true := decide_eq_true c4
            clear c4
            obtain ⟨bq5, hbq5⟩ : ∃ b_ : Bool, b_ = (rdOf false l0 x8_1) := ⟨_, rfl⟩
            replace H : (if bq5 = true then (impl_countTrue.l0 k1 (wrap64 (x3_1 + 1)) l0 (l0.length : Int) (wrap64 (x8_1 + 1))) else (impl_countTrue.l0 k1 x3_1 l0 (l0.length : Int) (wrap64 (x8_1 + 1)))) = some r := by rw [← hbq5] at H; exact H
            have Nbq5 := Aside0.mk hbq5
            clear hbq5
            by_cases c6 : bq5 = true
            · subst c6
              have H1 : (impl_countTrue.l0 k1 (wrap64 (x3_1 + 1)) l0 (l0.length : Int) (wrap64 (x8_1 + 1))) = some r := by rw [if_pos rfl] at H; exact H
              clear H
              have H := H1
              clear H1
              have H' := Aside0.mk H
              clear H
              have p233 : 0 ≤ (x8_1 : Int) := of_decide_eq_true (by first | (with_reducible assumption) | assumption)
              have q233 : x8_1 < (l0.length : Int) := of_decide_eq_true (by first | (with_reducible assumption) | assumption)
              obtain ⟨ad233, e233, hx233_0⟩ := Kd.at_bool HR0.out x8_1 p233 q233
              (try rw [← Nbq5.out] at hx233_0)
              cases e233
              replace p233 := eq_true p233
              replace q233 := eq_true q233
              go_wp2
              go_roundg k1
              case measure => have := HK1.out; omega
              case rel => exact ⟨(wrap64 (x3_1 + 1)), (wrap64 (x8_1 + 1)), (by first | rfl | (simp; done) | (simp [*]; done)), (by first | rfl | (simp; done) | (simp [*]; done)), H', ⟨by have := HK1.out; omega⟩, by repeat (first | exact Drawn0.refl _ | apply Drawn0.step)⟩
            · replace c6 := Bool.eq_false_iff.mpr c6
              subst c6
              have H1 : (impl_countTrue.l0 k1 x3_1 l0 (l0.length : Int) (wrap64 (x8_1 + 1))) = some r := by rw [if_neg (show ¬ (false = true) by decide)] at H; exact H
              clear H
              have H := H1
              clear H1
              have H' := Aside0.mk H
              clear H
              have p233 : 0 ≤ (x8_1 : Int) := of_decide_eq_true (by first | (with_reducible assumption) | assumption)
              have q233 : x8_1 < (l0.length : Int) := of_decide_eq_true (by first | (with_reducible assumption) | assumption)
              obtain ⟨ad233, e233, hx233_0⟩ := Kd.at_bool HR0.out x8_1 p233 q233
              (try rw [← Nbq5.out] at hx233_0)
              cases e233
              replace p233 := eq_true p233
              replace q233 := eq_true q233
              go_wp2
              go_roundg k1
              case measure => have := HK1.out; omega
              case rel => exact ⟨(x3_1), (wrap64 (x8_1 + 1)), (by first | rfl | (simp; done) | (simp [*]; done)), (by first | rfl | (simp; done) | (simp [*]; done)), H', ⟨by have := HK1.out; omega⟩, by repeat (first | exact Drawn0.refl _ | apply Drawn0.step)⟩
          · rw [if_neg c4] at H
            exact absurd H (by simp)
        · rw [if_neg c3] at H
          exact absurd H (by simp)
      · rw [if_neg c2] at H
        have c2b0 : decide (x8_1 < (l0.length : Int)) = false := decide_eq_false c2
        clear c2
        obtain rfl := Option.some.inj H
        go_wp2
        go_ret
        exact ⟨by first | rfl | (simp; done) | (simp [*]; done), by repeat (first | exact Drawn0.refl _ | apply Drawn0.step)⟩

/-! ### impl_CountAsks: function 20 -/
def impl_CountAsks.f (k : Nat) (a0_0 : Int) (a0_1 : Int) (a0_2 : Int) (a0_3 : Bool) (a0_4 : Int) (l0_5 : List (S95)) (a0_6 : Int) (l0_7 : List Int) (l0_8 : List Bool) (l0_9 : List (S70)) : Option (Int × Int) := (impl_countTrue.f k l0_8).bind fun t236 => ((impl_counted.f a0_0 a0_1 a0_2 a0_3 a0_4 l0_5 a0_6 l0_7 l0_8 l0_9 t236).bind fun bt237 => (some (bt237.1, bt237.2)))
theorem impl_CountAsks.mono : ∀ a0 a1 a2 a3 a4 a5 a6 a7 a8 a9 k, LeO (impl_CountAsks.f k a0 a1 a2 a3 a4 a5 a6 a7 a8 a9) (impl_CountAsks.f (k + 1) a0 a1 a2 a3 a4 a5 a6 a7 a8 a9) := by
  intro a0 a1 a2 a3 a4 a5 a6 a7 a8 a9 k
  unfold impl_CountAsks.f
  repeat' first
      | (with_reducible exact impl_countTrue.mono _ _)
      | (with_reducible exact LeO.refl _)
      | (with_reducible exact LeO.none _)
      | (with_reducible refine LeO.ite ?_ ?_)
      | (with_reducible refine LeO.bind ?_ (fun _ => ?_))
      | exact impl_countTrue.mono _ _
      | exact LeO.none _
      | refine LeO.ite ?_ ?_
      | refine LeO.bind ?_ (fun _ => ?_)
set_option maxHeartbeats 8000000 in
set_option maxRecDepth 100000 in
theorem impl_CountAsks.calls (k : Nat) (a0_0 : Int) (a0_1 : Int) (a0_2 : Int) (a0_3 : Bool) (a0_4 : Int) (A0_5 : Option Addr) (c0_5 : Nat) (l0_5 : List (S95)) (a0_6 : Int) (A0_7 : Option Addr) (c0_7 : Nat) (l0_7 : List Int) (A0_8 : Option Addr) (c0_8 : Nat) (l0_8 : List Bool) (A0_9 : Option Addr) (c0_9 : Nat) (l0_9 : List (S70)) (r1 : Int) (r2 : Int) (w : World) (hr0_5 : Kd.C k95 w A0_5 l0_5.length l0_5) (hc0_5 : l0_5.length ≤ c0_5) (hr0_7 : Kd.C (Kd.int .i64) w A0_7 l0_7.length l0_7) (hc0_7 : l0_7.length ≤ c0_7) (hr0_8 : Kd.C Kd.bool w A0_8 l0_8.length l0_8) (hc0_8 : l0_8.length ≤ c0_8) (hr0_9 : Kd.C k70 w A0_9 l0_9.length l0_9) (hc0_9 : l0_9.length ≤ c0_9) (h : impl_CountAsks.f k a0_0 a0_1 a0_2 a0_3 a0_4 l0_5 a0_6 l0_7 l0_8 l0_9 = some (r1, r2)) :
    Calls Try.prog 20 #[.agg #[.int .i64 a0_0, .int .i64 a0_1, .int .i64 a0_2, .bool a0_3, .int .i64 a0_4, .slice A0_5 l0_5.length c0_5, .int .i64 a0_6, .slice A0_7 l0_7.length c0_7, .slice A0_8 l0_8.length c0_8, .slice A0_9 l0_9.length c0_9]] w fun e w' => e = .returned (.agg #[.int .i64 r1, .int .i64 r2]) ∧ Below w.heap.size w w' := by
  have hu33 := Try.underlying33
  have hu45 := Try.underlying45
  have HR0_5 := Aside0.mk hr0_5
  have HC0_5 := Aside0.mk hc0_5
  clear hr0_5 hc0_5
  have HR0_7 := Aside0.mk hr0_7
  have HC0_7 := Aside0.mk hc0_7
  clear hr0_7 hc0_7
  have HR0_8 := Aside0.mk hr0_8
  have HC0_8 := Aside0.mk hc0_8
  clear hr0_8 hc0_8
  have HR0_9 := Aside0.mk hr0_9
  have HC0_9 := Aside0.mk hc0_9
  clear hr0_9 hc0_9
  have HB := Aside0.mk (Below.refl w.heap.size w)
  have H : ((impl_countTrue.f k l0_8).bind fun t236 => ((impl_counted.f a0_0 a0_1 a0_2 a0_3 a0_4 l0_5 a0_6 l0_7 l0_8 l0_9 t236).bind fun bt237 => (some (bt237.1, bt237.2)))) = some (r1, r2) := h
  clear h
  replace H := Option.bind_eq_some_iff.mp H
  obtain ⟨t236, A20, H⟩ := H
  replace H : ((impl_counted.f a0_0 a0_1 a0_2 a0_3 a0_4 l0_5 a0_6 l0_7 l0_8 l0_9 t236).bind fun bt237 => (some (bt237.1, bt237.2))) = some (r1, r2) := H
  have A2 := Aside0.mk A20
  clear A20
  replace H := Option.bind_eq_some_iff.mp H
  obtain ⟨⟨t237, t238⟩, A30, H⟩ := H
  replace H : (some (t237, t238)) = some (r1, r2) := H
  have A3 := Aside0.mk A30
  clear A30
  simp only [Option.some.injEq, Prod.mk.injEq] at H
  obtain ⟨rfl, rfl⟩ := H
  go_enter Try.func20, Try.ntmps20
  try go_wp2_with (first | ((with_reducible refine gate_dst (N := 1) rfl ?_); refine box_event ?hg (N := 1) ?hd (cs := #[.int .i64 a0_0, .int .i64 a0_1, .int .i64 a0_2, .bool a0_3, .int .i64 a0_4, .slice A0_5 l0_5.length c0_5, .int .i64 a0_6, .slice A0_7 l0_7.length c0_7, .slice A0_8 l0_8.length c0_8, .slice A0_9 l0_9.length c0_9]) (t := 33) ?hr ?_; (case hd => rfl); (case hg => rfl); (case hr => first | (go_simp; done) | (go_simp; rfl)); intro gb234 hg w4 hbox hb; have n0_ := Aside0.mk (below_step (by repeat (first | (with_reducible first | exact HB.out | apply below_alloc | apply pw_below_drewN | apply below_drew1) | exact HB.out)) hb); have n1_ := Aside0.mk (hbox); have n2_ := Aside0.mk ((by rw [hg]; exact (below_size (by repeat (first | (with_reducible first | exact HB.out | apply below_alloc | apply pw_below_drewN | apply below_drew1) | exact HB.out))) : w.heap.size ≤ gb234)); have n3_ := Aside0.mk ((by rw [hg]; exact (below_size (by repeat (first | (with_reducible first | exact HB.out | apply below_alloc | apply pw_below_drewN | apply below_drew1) | exact HB.out))) : w.heap.size ≤ gb234)); clear HB; have HB := n0_; have BK234 := n1_; have GW234 := n2_; have GE234 := n3_; clear n0_ n1_ n2_ n3_; clear hb hbox hg) | ((with_reducible refine gate_dst (N := 2) rfl ?_); refine box_event ?hg (N := 2) ?hd (cs := #[.int .i64 0, .int .i64 0]) (t := 45) ?hr ?_; (case hd => rfl); (case hg => rfl); (case hr => first | (go_simp; done) | (go_simp; rfl)); intro gb235 hg w5 hbox hb; have n0_ := Aside0.mk (blk_below (g := gb234) (o := .cells #[.int .i64 a0_0, .int .i64 a0_1, .int .i64 a0_2, .bool a0_3, .int .i64 a0_4, .slice A0_5 l0_5.length c0_5, .int .i64 a0_6, .slice A0_7 l0_7.length c0_7, .slice A0_8 l0_8.length c0_8, .slice A0_9 l0_9.length c0_9] 33 (0, 0)) (by (with_reducible repeat (first | refine blk_drewN ?_ _ | refine blk_drew ?_ | refine blk_alloc ?_ _)); exact BK234.out) hb); have n1_ := Aside0.mk (below_step (by repeat (first | (with_reducible first | exact HB.out | apply below_alloc | apply pw_below_drewN | apply below_drew1 | refine below_set ?_ GE234.out) | exact HB.out)) hb); have n2_ := Aside0.mk (hbox); have n3_ := Aside0.mk ((by rw [hg]; exact (below_size (by repeat (first | (with_reducible first | exact HB.out | apply below_alloc | apply pw_below_drewN | apply below_drew1 | refine below_set ?_ GE234.out) | exact HB.out))) : w.heap.size ≤ gb235)); have n4_ := Aside0.mk ((by rw [hg]; exact (below_size (by repeat (first | (with_reducible first | exact HB.out | apply below_alloc | apply pw_below_drewN | apply below_drew1 | refine below_set ?_ GE234.out) | exact HB.out))) : w.heap.size ≤ gb235)); have n5_ := Aside0.mk ((by rw [hg]; exact Nat.ne_of_lt (blk_lt (g := gb234) (o := .cells #[.int .i64 a0_0, .int .i64 a0_1, .int .i64 a0_2, .bool a0_3, .int .i64 a0_4, .slice A0_5 l0_5.length c0_5, .int .i64 a0_6, .slice A0_7 l0_7.length c0_7, .slice A0_8 l0_8.length c0_8, .slice A0_9 l0_9.length c0_9] 33 (0, 0)) (by (with_reducible repeat (first | refine blk_drewN ?_ _ | refine blk_drew ?_ | refine blk_alloc ?_ _)); exact BK234.out)) : gb234 ≠ gb235)); have n6_ := Aside0.mk ((by rw [hg]; exact Nat.ne_of_gt (blk_lt (g := gb234) (o := .cells #[.int .i64 a0_0, .int .i64 a0_1, .int .i64 a0_2, .bool a0_3, .int .i64 a0_4, .slice A0_5 l0_5.length c0_5, .int .i64 a0_6, .slice A0_7 l0_7.length c0_7, .slice A0_8 l0_8.length c0_8, .slice A0_9 l0_9.length c0_9] 33 (0, 0)) (by (with_reducible repeat (first | refine blk_drewN ?_ _ | refine blk_drew ?_ | refine blk_alloc ?_ _)); exact BK234.out)) : gb235 ≠ gb234)); clear BK234; clear HB; have BK234 := n0_; have HB := n1_; have BK235 := n2_; have GW235 := n3_; have GE235 := n4_; have NB234_235 := n5_; have NB235_234 := n6_; clear n0_ n1_ n2_ n3_ n4_ n5_ n6_; clear hb hbox hg))
  have n0_ := Aside0.mk (blk_drew BK234.out)
  have n1_ := Aside0.mk (blk_drew BK235.out)
  have n2_ := Aside0.mk (below_drew1 HB.out)
  clear BK234
  clear BK235
  clear HB
  have BK234 := n0_
  have BK235 := n1_
  have HB := n2_
  clear n0_ n1_ n2_
  refine start_ (n := 6) (S := fun w' => w'.cell? ⟨gb234, 0, none⟩ = some (.int .i64 a0_0) ∧ w'.cell? ⟨gb234, 1, none⟩ = some (.int .i64 a0_1) ∧ w'.cell? ⟨gb234, 2, none⟩ = some (.int .i64 a0_2) ∧ w'.cell? ⟨gb234, 3, none⟩ = some (.bool a0_3) ∧ w'.cell? ⟨gb234, 4, none⟩ = some (.int .i64 a0_4) ∧ w'.cell? ⟨gb234, 5, none⟩ = some (.slice A0_5 l0_5.length c0_5) ∧ w'.cell? ⟨gb234, 6, none⟩ = some (.int .i64 a0_6) ∧ w'.cell? ⟨gb234, 7, none⟩ = some (.slice A0_7 l0_7.length c0_7) ∧ w'.cell? ⟨gb234, 8, none⟩ = some (.slice A0_8 l0_8.length c0_8) ∧ w'.cell? ⟨gb234, 9, none⟩ = some (.slice A0_9 l0_9.length c0_9)) (ds := []) #[false, false, false, false, false, false] (by kernel_rfl) rfl rfl ⟨(blk_cell BK234.out 0).trans rfl, (blk_cell BK234.out 1).trans rfl, (blk_cell BK234.out 2).trans rfl, (blk_cell BK234.out 3).trans rfl, (blk_cell BK234.out 4).trans rfl, (blk_cell BK234.out 5).trans rfl, (blk_cell BK234.out 6).trans rfl, (blk_cell BK234.out 7).trans rfl, (blk_cell BK234.out 8).trans rfl, (blk_cell BK234.out 9).trans rfl⟩ (fun hHeld => ?_)
  generalize w5.drew = w6 at BK234 BK235 HB hHeld ⊢
  refine pure_ (i := 1) (N := some 4) (v := ?_) (a' := ?_) #[false, true, false, false, false, false] rfl rfl (by kernel_rfl) (fun _ _ _ h => h) (Or.inl ⟨by rfl, ?_⟩) ?_ ?_
  rotate_left
  · intro w'
    first | (go_simp; with_reducible rfl) | (go_simp; rfl) | rfl
  rotate_left
  · simp only [Act.put, List.setIfInBounds_toArray, List.set_cons_zero, List.set_cons_succ, i64_w, i32_w]
    rfl
  refine take_ (i := 0) (N := some 3) (v := ?_) (a' := ?_) #[true, true, false, false, false, false] rfl rfl (by kernel_rfl) (fun _ _ _ h => h) (Or.inl ⟨by rfl, ?_⟩) hHeld ?_ ?_
  rotate_left
  · rintro w' ⟨s0, s1, s2, s3, s4, s5, s6, s7, s8, s9⟩
    go_simp
    with_reducible rfl
  rotate_left
  · simp only [Act.put, List.setIfInBounds_toArray, List.set_cons_zero, List.set_cons_succ, i64_w, i32_w]
    rfl
  refine take_ (i := 2) (N := some 5) (v := ?_) (a' := ?_) #[true, true, true, false, false, false] rfl rfl (by kernel_rfl) (fun _ _ _ h => h) (Or.inl ⟨by rfl, ?_⟩) hHeld ?_ ?_
  rotate_left
  · rintro w' ⟨s0, s1, s2, s3, s4, s5, s6, s7, s8, s9⟩
    go_simp
    with_reducible rfl
  rotate_left
  · simp only [Act.put, List.setIfInBounds_toArray, List.set_cons_zero, List.set_cons_succ, i64_w, i32_w]
    rfl
  refine one_ (i := 3) (N := some 6) #[true, true, true, true, false, false] rfl rfl (by kernel_rfl) (by decide) (fun K hK => ?_)
  refine goes_ Try.func60 (by kernel_rfl) rfl #[.slice A0_8 l0_8.length c0_8] (by rfl) rfl rfl (by (try simp only [List.map_toArray, List.map_cons, List.map_nil]); first | done | rfl | (simp only [List.length_drop, List.length_take]; rfl)) ?_
  with_reducible refine (impl_countTrue.calls k _ _ l0_8 t236 _ ?side1 ?side2 A2.out).mono ?_
  (case side1 => repeat (first | exact (Kd.C_below HR0_8.out HB.out) | (with_reducible refine Kd.C_alloc ?_ _) | (with_reducible refine Kd.C_drewN ?_ _) | (with_reducible refine Kd.C_drew ?_)))
  (case side2 => exact HC0_8.out)
  rintro e w' ⟨rfl, ⟨nd, rfl⟩⟩
  refine ⟨_, rfl, ?_⟩
  refine hK.out _ _ ⟨(blk_cell BK234.out 0).trans rfl, (blk_cell BK234.out 1).trans rfl, (blk_cell BK234.out 2).trans rfl, (blk_cell BK234.out 3).trans rfl, (blk_cell BK234.out 4).trans rfl, (blk_cell BK234.out 5).trans rfl, (blk_cell BK234.out 6).trans rfl, (blk_cell BK234.out 7).trans rfl, (blk_cell BK234.out 8).trans rfl, (blk_cell BK234.out 9).trans rfl⟩ (fun hHeld => ?_)
  clear hK K
  refine norm_ (a' := ?_) ?_ ?_
  rotate_left
  · show Act.put _ (some 6) _ = _
    simp only [Act.put, List.setIfInBounds_toArray, List.set_cons_zero, List.set_cons_succ, i64_w, i32_w]
    rfl
  refine one_ (i := 4) (N := some 7) #[true, true, true, true, true, false] rfl rfl (by kernel_rfl) (by decide) (fun K hK => ?_)
  refine goes_ Try.func59 (by kernel_rfl) rfl #[.agg #[.int .i64 a0_0, .int .i64 a0_1, .int .i64 a0_2, .bool a0_3, .int .i64 a0_4, .slice A0_5 l0_5.length c0_5, .int .i64 a0_6, .slice A0_7 l0_7.length c0_7, .slice A0_8 l0_8.length c0_8, .slice A0_9 l0_9.length c0_9], .int .i64 t236] (by rfl) rfl rfl (by (try simp only [List.map_toArray, List.map_cons, List.map_nil]); first | done | rfl | (simp only [List.length_drop, List.length_take]; rfl)) ?_
  with_reducible refine (impl_counted.calls a0_0 a0_1 a0_2 a0_3 a0_4 _ _ l0_5 a0_6 _ _ l0_7 _ _ l0_8 _ _ l0_9 t236 t237 t238 _ ?side1 ?side2 ?side3 ?side4 ?side5 ?side6 ?side7 ?side8 A3.out).mono ?_
  (case side1 => repeat (first | exact (Kd.C_below HR0_5.out (by repeat (first | (with_reducible first | exact HB.out | apply below_alloc | apply pw_below_drewN | apply below_drew1 | refine below_set ?_ GE234.out | refine below_set ?_ GE235.out) | exact HB.out))) | (with_reducible refine Kd.C_alloc ?_ _) | (with_reducible refine Kd.C_drewN ?_ _) | (with_reducible refine Kd.C_drew ?_)))
  (case side2 => exact HC0_5.out)
  (case side3 => repeat (first | exact (Kd.C_below HR0_7.out (by repeat (first | (with_reducible first | exact HB.out | apply below_alloc | apply pw_below_drewN | apply below_drew1 | refine below_set ?_ GE234.out | refine below_set ?_ GE235.out) | exact HB.out))) | (with_reducible refine Kd.C_alloc ?_ _) | (with_reducible refine Kd.C_drewN ?_ _) | (with_reducible refine Kd.C_drew ?_)))
  (case side4 => exact HC0_7.out)
  (case side5 => repeat (first | exact (Kd.C_below HR0_8.out (by repeat (first | (with_reducible first | exact HB.out | apply below_alloc | apply pw_below_drewN | apply below_drew1 | refine below_set ?_ GE234.out | refine below_set ?_ GE235.out) | exact HB.out))) | (with_reducible refine Kd.C_alloc ?_ _) | (with_reducible refine Kd.C_drewN ?_ _) | (with_reducible refine Kd.C_drew ?_)))
  (case side6 => exact HC0_8.out)
  (case side7 => repeat (first | exact (Kd.C_below HR0_9.out (by repeat (first | (with_reducible first | exact HB.out | apply below_alloc | apply pw_below_drewN | apply below_drew1 | refine below_set ?_ GE234.out | refine below_set ?_ GE235.out) | exact HB.out))) | (with_reducible refine Kd.C_alloc ?_ _) | (with_reducible refine Kd.C_drewN ?_ _) | (with_reducible refine Kd.C_drew ?_)))
  (case side8 => exact HC0_9.out)
  rintro e w7 ⟨rfl, hb⟩
  refine ⟨_, rfl, ?_⟩
  have n0_ := Aside0.mk (blk_below (g := gb234) (o := .cells #[.int .i64 a0_0, .int .i64 a0_1, .int .i64 a0_2, .bool a0_3, .int .i64 a0_4, .slice A0_5 l0_5.length c0_5, .int .i64 a0_6, .slice A0_7 l0_7.length c0_7, .slice A0_8 l0_8.length c0_8, .slice A0_9 l0_9.length c0_9] 33 (0, 0)) (by (with_reducible repeat (first | refine blk_drewN ?_ _ | refine blk_drew ?_ | refine blk_alloc ?_ _)); exact BK234.out) hb)
  have n1_ := Aside0.mk (blk_below (g := gb235) (o := .cells #[.int .i64 0, .int .i64 0] 45 (0, 0)) (by (with_reducible repeat (first | refine blk_drewN ?_ _ | refine blk_drew ?_ | refine blk_alloc ?_ _)); exact BK235.out) hb)
  have n2_ := Aside0.mk (below_step (by repeat (first | (with_reducible first | exact HB.out | apply below_alloc | apply pw_below_drewN | apply below_drew1 | refine below_set ?_ GE234.out | refine below_set ?_ GE235.out) | exact HB.out)) hb)
  clear BK234
  clear BK235
  clear HB
  have BK234 := n0_
  have BK235 := n1_
  have HB := n2_
  clear n0_ n1_ n2_
  (try clear hb)
  (try clear hb2)
  (try clear hk)
  (try clear hi)
  refine hK.out _ _ ⟨(blk_cell BK234.out 0).trans rfl, (blk_cell BK234.out 1).trans rfl, (blk_cell BK234.out 2).trans rfl, (blk_cell BK234.out 3).trans rfl, (blk_cell BK234.out 4).trans rfl, (blk_cell BK234.out 5).trans rfl, (blk_cell BK234.out 6).trans rfl, (blk_cell BK234.out 7).trans rfl, (blk_cell BK234.out 8).trans rfl, (blk_cell BK234.out 9).trans rfl⟩ (fun hHeld => ?_)
  clear hK K
  refine norm_ (a' := ?_) ?_ ?_
  rotate_left
  · show Act.put _ (some 7) _ = _
    simp only [Act.put, List.setIfInBounds_toArray, List.set_cons_zero, List.set_cons_succ, i64_w, i32_w]
    rfl
  refine one_ (i := 5) (N := none) #[true, true, true, true, true, true] rfl rfl (by kernel_rfl) (by decide) (fun K hK => ?_)
  have hs8 : w7.cell? ⟨gb235, 0, none⟩ = some (.int .i64 0) := (blk_cell BK235.out 0).trans rfl
  have hfs8 := blk_frozen BK235.out 0
  have hns8_0 := NB234_235.out
  have hms8_0 := NB235_234.out
  have hs9 : w7.cell? ⟨gb235, 1, none⟩ = some (.int .i64 0) := (blk_cell BK235.out 1).trans rfl
  have hfs9 := blk_frozen BK235.out 1
  have hns9_0 := NB234_235.out
  have hms9_0 := NB235_234.out
  refine skip_ (w1 := ?_) (by rfl) rfl ?_ ?_
  rotate_left
  · go_simp
    rfl
  refine hK.out _ _ ⟨((cell_far (p := ⟨gb235, _, none⟩) NB234_235.out _).trans (((cell_far (p := ⟨gb235, _, none⟩) NB234_235.out _).trans (hHeld.1)))), ((cell_far (p := ⟨gb235, _, none⟩) NB234_235.out _).trans (((cell_far (p := ⟨gb235, _, none⟩) NB234_235.out _).trans (hHeld.2.1)))), ((cell_far (p := ⟨gb235, _, none⟩) NB234_235.out _).trans (((cell_far (p := ⟨gb235, _, none⟩) NB234_235.out _).trans (hHeld.2.2.1)))), ((cell_far (p := ⟨gb235, _, none⟩) NB234_235.out _).trans (((cell_far (p := ⟨gb235, _, none⟩) NB234_235.out _).trans (hHeld.2.2.2.1)))), ((cell_far (p := ⟨gb235, _, none⟩) NB234_235.out _).trans (((cell_far (p := ⟨gb235, _, none⟩) NB234_235.out _).trans (hHeld.2.2.2.2.1)))), ((cell_far (p := ⟨gb235, _, none⟩) NB234_235.out _).trans (((cell_far (p := ⟨gb235, _, none⟩) NB234_235.out _).trans (hHeld.2.2.2.2.2.1)))), ((cell_far (p := ⟨gb235, _, none⟩) NB234_235.out _).trans (((cell_far (p := ⟨gb235, _, none⟩) NB234_235.out _).trans (hHeld.2.2.2.2.2.2.1)))), ((cell_far (p := ⟨gb235, _, none⟩) NB234_235.out _).trans (((cell_far (p := ⟨gb235, _, none⟩) NB234_235.out _).trans (hHeld.2.2.2.2.2.2.2.1)))), ((cell_far (p := ⟨gb235, _, none⟩) NB234_235.out _).trans (((cell_far (p := ⟨gb235, _, none⟩) NB234_235.out _).trans (hHeld.2.2.2.2.2.2.2.2.1)))), ((cell_far (p := ⟨gb235, _, none⟩) NB234_235.out _).trans (((cell_far (p := ⟨gb235, _, none⟩) NB234_235.out _).trans (hHeld.2.2.2.2.2.2.2.2.2))))⟩ (fun hHeld => ?_)
  clear hK K
  refine done_ (by kernel_rfl) ?_
  try go_wp2
  refine bodyPost_ret (results_cell_row rfl _ _ gb235 45 #[.int .i64 t237, .int .i64 t238] (0, 0) _ rfl (by (with_reducible repeat (first | refine blk_drewN ?_ _ | refine blk_drew ?_ | refine blk_alloc ?_ _)); refine blk_put (cs := #[.int .i64 t237, .int .i64 0]) ?_ 1 _ rfl; (with_reducible repeat (first | refine blk_drewN ?_ _ | refine blk_drew ?_ | refine blk_alloc ?_ _)); refine blk_put (cs := #[.int .i64 0, .int .i64 0]) ?_ 0 _ rfl; (with_reducible repeat (first | refine blk_drewN ?_ _ | refine blk_drew ?_ | refine blk_alloc ?_ _)); exact BK235.out) Try.underlying45 rfl (by kernel_rfl)) rfl ?_
  exact ⟨by first | rfl | (simp [errW_none, errW_some] <;> rfl) | (simp [*, errW_none, errW_some] <;> rfl), by repeat (first | (with_reducible first | exact HB.out | apply below_alloc | apply pw_below_drewN | apply below_drew1 | refine below_set ?_ GE234.out | refine below_set ?_ GE235.out) | exact HB.out)⟩

/-! ### laws_eqIntResult: function 21 -/
def laws_eqIntResult.f (a0_0 : Int) (a0_1 : Int) (a1_0 : Int) (a1_1 : Int) : Option (Bool) := if a0_0 = a1_0 then (if a0_1 = a1_1 then (some true) else (some false)) else (some false)
set_option maxHeartbeats 8000000 in
set_option maxRecDepth 100000 in
theorem laws_eqIntResult.calls (a0_0 : Int) (a0_1 : Int) (a1_0 : Int) (a1_1 : Int) (r : Bool) (w : World) (h : laws_eqIntResult.f a0_0 a0_1 a1_0 a1_1 = some r) :
    Calls Try.prog 21 #[.agg #[.int .i64 a0_0, .int .i64 a0_1], .agg #[.int .i64 a1_0, .int .i64 a1_1]] w fun e w' => e = .returned (.bool r) ∧ Below w.heap.size w w' := by
  have hu45 := Try.underlying45
  have HB := Aside0.mk (Below.refl w.heap.size w)
  have H : (if a0_0 = a1_0 then (if a0_1 = a1_1 then (some true) else (some false)) else (some false)) = some r := h
  clear h
  by_cases c3 : a0_0 = a1_0
  · rw [if_pos c3] at H
    have c3b0 : (a0_0 == a1_0) = true := beq_iff_eq.mpr c3
    have c3b1 : (a0_0 != a1_0) = false := bne_eq_false_iff_eq.mpr c3
    clear c3
    by_cases c4 : a0_1 = a1_1
    · rw [if_pos c4] at H
      have c4b0 : (a0_1 == a1_1) = true := beq_iff_eq.mpr c4
      have c4b1 : (a0_1 != a1_1) = false := bne_eq_false_iff_eq.mpr c4
      clear c4
      obtain rfl := Option.some.inj H
      go_enter Try.func21, Try.ntmps21
      go_wp2_with (first | ((with_reducible refine gate_dst (N := 2) rfl ?_); refine box_event ?hg (N := 2) ?hd (cs := #[.int .i64 a0_0, .int .i64 a0_1]) (t := 45) ?hr ?_; (case hd => rfl); (case hg => rfl); (case hr => first | (go_simp; done) | (go_simp; rfl)); intro gb239 hg w5 hbox hb; have n0_ := Aside0.mk (below_step (by repeat (first | (with_reducible first | exact HB.out | apply below_alloc | apply pw_below_drewN | apply below_drew1) | exact HB.out)) hb); have n1_ := Aside0.mk (hbox); have n2_ := Aside0.mk ((by rw [hg]; exact (below_size (by repeat (first | (with_reducible first | exact HB.out | apply below_alloc | apply pw_below_drewN | apply below_drew1) | exact HB.out))) : w.heap.size ≤ gb239)); have n3_ := Aside0.mk ((by rw [hg]; exact (below_size (by repeat (first | (with_reducible first | exact HB.out | apply below_alloc | apply pw_below_drewN | apply below_drew1) | exact HB.out))) : w.heap.size ≤ gb239)); clear HB; have HB := n0_; have BK239 := n1_; have GW239 := n2_; have GE239 := n3_; clear n0_ n1_ n2_ n3_; clear hb hbox hg) | ((with_reducible refine gate_dst (N := 3) rfl ?_); refine box_event ?hg (N := 3) ?hd (cs := #[.int .i64 a1_0, .int .i64 a1_1]) (t := 45) ?hr ?_; (case hd => rfl); (case hg => rfl); (case hr => first | (go_simp; done) | (go_simp; rfl)); intro gb240 hg w6 hbox hb; have n0_ := Aside0.mk (blk_below (g := gb239) (o := .cells #[.int .i64 a0_0, .int .i64 a0_1] 45 (0, 0)) (by (with_reducible repeat (first | refine blk_drewN ?_ _ | refine blk_drew ?_ | refine blk_alloc ?_ _)); exact BK239.out) hb); have n1_ := Aside0.mk (below_step (by repeat (first | (with_reducible first | exact HB.out | apply below_alloc | apply pw_below_drewN | apply below_drew1 | refine below_set ?_ GE239.out) | exact HB.out)) hb); have n2_ := Aside0.mk (hbox); have n3_ := Aside0.mk ((by rw [hg]; exact (below_size (by repeat (first | (with_reducible first | exact HB.out | apply below_alloc | apply pw_below_drewN | apply below_drew1 | refine below_set ?_ GE239.out) | exact HB.out))) : w.heap.size ≤ gb240)); have n4_ := Aside0.mk ((by rw [hg]; exact (below_size (by repeat (first | (with_reducible first | exact HB.out | apply below_alloc | apply pw_below_drewN | apply below_drew1 | refine below_set ?_ GE239.out) | exact HB.out))) : w.heap.size ≤ gb240)); have n5_ := Aside0.mk ((by rw [hg]; exact Nat.ne_of_lt (blk_lt (g := gb239) (o := .cells #[.int .i64 a0_0, .int .i64 a0_1] 45 (0, 0)) (by (with_reducible repeat (first | refine blk_drewN ?_ _ | refine blk_drew ?_ | refine blk_alloc ?_ _)); exact BK239.out)) : gb239 ≠ gb240)); have n6_ := Aside0.mk ((by rw [hg]; exact Nat.ne_of_gt (blk_lt (g := gb239) (o := .cells #[.int .i64 a0_0, .int .i64 a0_1] 45 (0, 0)) (by (with_reducible repeat (first | refine blk_drewN ?_ _ | refine blk_drew ?_ | refine blk_alloc ?_ _)); exact BK239.out)) : gb240 ≠ gb239)); clear BK239; clear HB; have BK239 := n0_; have HB := n1_; have BK240 := n2_; have GW240 := n3_; have GE240 := n4_; have NB239_240 := n5_; have NB240_239 := n6_; clear n0_ n1_ n2_ n3_ n4_ n5_ n6_; clear hb hbox hg; have hnb7 := NB239_240.out; have hnc7 := NB240_239.out; have hcz8_0 : w6.cell? ⟨gb239, 0, none⟩ = some (.int .i64 a0_0) := (blk_cell BK239.out 0).trans rfl; have hcz8_1 : w6.cell? ⟨gb239, 1, none⟩ = some (.int .i64 a0_1) := (blk_cell BK239.out 1).trans rfl; have hfz8_0 := blk_frozen BK239.out 0; have hfz8_1 := blk_frozen BK239.out 1; have hcz9_0 : w6.cell? ⟨gb240, 0, none⟩ = some (.int .i64 a1_0) := (blk_cell BK240.out 0).trans rfl; have hcz9_1 : w6.cell? ⟨gb240, 1, none⟩ = some (.int .i64 a1_1) := (blk_cell BK240.out 1).trans rfl; have hfz9_0 := blk_frozen BK240.out 0; have hfz9_1 := blk_frozen BK240.out 1))
      go_ret
      exact ⟨by first | rfl | (simp [errW_none, errW_some] <;> rfl) | (simp [*, errW_none, errW_some] <;> rfl), by repeat (first | (with_reducible first | exact HB.out | apply below_alloc | apply pw_below_drewN | apply below_drew1 | refine below_set ?_ GE239.out | refine below_set ?_ GE240.out) | exact HB.out)⟩
    · rw [if_neg c4] at H
      have c4b0 : (a0_1 == a1_1) = false := beq_eq_false_iff_ne.mpr c4
      have c4b1 : (a0_1 != a1_1) = true := bne_iff_ne.mpr c4
      obtain rfl := Option.some.inj H
      go_enter Try.func21, Try.ntmps21
      go_wp2_with (first | ((with_reducible refine gate_dst (N := 2) rfl ?_); refine box_event ?hg (N := 2) ?hd (cs := #[.int .i64 a0_0, .int .i64 a0_1]) (t := 45) ?hr ?_; (case hd => rfl); (case hg => rfl); (case hr => first | (go_simp; done) | (go_simp; rfl)); intro gb239 hg w10 hbox hb; have n0_ := Aside0.mk (below_step (by repeat (first | (with_reducible first | exact HB.out | apply below_alloc | apply pw_below_drewN | apply below_drew1) | exact HB.out)) hb); have n1_ := Aside0.mk (hbox); have n2_ := Aside0.mk ((by rw [hg]; exact (below_size (by repeat (first | (with_reducible first | exact HB.out | apply below_alloc | apply pw_below_drewN | apply below_drew1) | exact HB.out))) : w.heap.size ≤ gb239)); have n3_ := Aside0.mk ((by rw [hg]; exact (below_size (by repeat (first | (with_reducible first | exact HB.out | apply below_alloc | apply pw_below_drewN | apply below_drew1) | exact HB.out))) : w.heap.size ≤ gb239)); clear HB; have HB := n0_; have BK239 := n1_; have GW239 := n2_; have GE239 := n3_; clear n0_ n1_ n2_ n3_; clear hb hbox hg) | ((with_reducible refine gate_dst (N := 3) rfl ?_); refine box_event ?hg (N := 3) ?hd (cs := #[.int .i64 a1_0, .int .i64 a1_1]) (t := 45) ?hr ?_; (case hd => rfl); (case hg => rfl); (case hr => first | (go_simp; done) | (go_simp; rfl)); intro gb240 hg w11 hbox hb; have n0_ := Aside0.mk (blk_below (g := gb239) (o := .cells #[.int .i64 a0_0, .int .i64 a0_1] 45 (0, 0)) (by (with_reducible repeat (first | refine blk_drewN ?_ _ | refine blk_drew ?_ | refine blk_alloc ?_ _)); exact BK239.out) hb); have n1_ := Aside0.mk (below_step (by repeat (first | (with_reducible first | exact HB.out | apply below_alloc | apply pw_below_drewN | apply below_drew1 | refine below_set ?_ GE239.out) | exact HB.out)) hb); have n2_ := Aside0.mk (hbox); have n3_ := Aside0.mk ((by rw [hg]; exact (below_size (by repeat (first | (with_reducible first | exact HB.out | apply below_alloc | apply pw_below_drewN | apply below_drew1 | refine below_set ?_ GE239.out) | exact HB.out))) : w.heap.size ≤ gb240)); have n4_ := Aside0.mk ((by rw [hg]; exact (below_size (by repeat (first | (with_reducible first | exact HB.out | apply below_alloc | apply pw_below_drewN | apply below_drew1 | refine below_set ?_ GE239.out) | exact HB.out))) : w.heap.size ≤ gb240)); have n5_ := Aside0.mk ((by rw [hg]; exact Nat.ne_of_lt (blk_lt (g := gb239) (o := .cells #[.int .i64 a0_0, .int .i64 a0_1] 45 (0, 0)) (by (with_reducible repeat (first | refine blk_drewN ?_ _ | refine blk_drew ?_ | refine blk_alloc ?_ _)); exact BK239.out)) : gb239 ≠ gb240)); have n6_ := Aside0.mk ((by rw [hg]; exact Nat.ne_of_gt (blk_lt (g := gb239) (o := .cells #[.int .i64 a0_0, .int .i64 a0_1] 45 (0, 0)) (by (with_reducible repeat (first | refine blk_drewN ?_ _ | refine blk_drew ?_ | refine blk_alloc ?_ _)); exact BK239.out)) : gb240 ≠ gb239)); clear BK239; clear HB; have BK239 := n0_; have HB := n1_; have BK240 := n2_; have GW240 := n3_; have GE240 := n4_; have NB239_240 := n5_; have NB240_239 := n6_; clear n0_ n1_ n2_ n3_ n4_ n5_ n6_; clear hb hbox hg; have hnb12 := NB239_240.out; have hnc12 := NB240_239.out; have hcz13_0 : w11.cell? ⟨gb239, 0, none⟩ = some (.int .i64 a0_0) := (blk_cell BK239.out 0).trans rfl; have hcz13_1 : w11.cell? ⟨gb239, 1, none⟩ = some (.int .i64 a0_1) := (blk_cell BK239.out 1).trans rfl; have hfz13_0 := blk_frozen BK239.out 0; have hfz13_1 := blk_frozen BK239.out 1; have hcz14_0 : w11.cell? ⟨gb240, 0, none⟩ = some (.int .i64 a1_0) := (blk_cell BK240.out 0).trans rfl; have hcz14_1 : w11.cell? ⟨gb240, 1, none⟩ = some (.int .i64 a1_1) := (blk_cell BK240.out 1).trans rfl; have hfz14_0 := blk_frozen BK240.out 0; have hfz14_1 := blk_frozen BK240.out 1))
      go_ret
      exact ⟨by first | rfl | (simp [errW_none, errW_some] <;> rfl) | (simp [*, errW_none, errW_some] <;> rfl), by repeat (first | (with_reducible first | exact HB.out | apply below_alloc | apply pw_below_drewN | apply below_drew1 | refine below_set ?_ GE239.out | refine below_set ?_ GE240.out) | exact HB.out)⟩
  · rw [if_neg c3] at H
    have c3b0 : (a0_0 == a1_0) = false := beq_eq_false_iff_ne.mpr c3
    have c3b1 : (a0_0 != a1_0) = true := bne_iff_ne.mpr c3
    obtain rfl := Option.some.inj H
    go_enter Try.func21, Try.ntmps21
    go_wp2_with (first | ((with_reducible refine gate_dst (N := 2) rfl ?_); refine box_event ?hg (N := 2) ?hd (cs := #[.int .i64 a0_0, .int .i64 a0_1]) (t := 45) ?hr ?_; (case hd => rfl); (case hg => rfl); (case hr => first | (go_simp; done) | (go_simp; rfl)); intro gb239 hg w15 hbox hb; have n0_ := Aside0.mk (below_step (by repeat (first | (with_reducible first | exact HB.out | apply below_alloc | apply pw_below_drewN | apply below_drew1) | exact HB.out)) hb); have n1_ := Aside0.mk (hbox); have n2_ := Aside0.mk ((by rw [hg]; exact (below_size (by repeat (first | (with_reducible first | exact HB.out | apply below_alloc | apply pw_below_drewN | apply below_drew1) | exact HB.out))) : w.heap.size ≤ gb239)); have n3_ := Aside0.mk ((by rw [hg]; exact (below_size (by repeat (first | (with_reducible first | exact HB.out | apply below_alloc | apply pw_below_drewN | apply below_drew1) | exact HB.out))) : w.heap.size ≤ gb239)); clear HB; have HB := n0_; have BK239 := n1_; have GW239 := n2_; have GE239 := n3_; clear n0_ n1_ n2_ n3_; clear hb hbox hg) | ((with_reducible refine gate_dst (N := 3) rfl ?_); refine box_event ?hg (N := 3) ?hd (cs := #[.int .i64 a1_0, .int .i64 a1_1]) (t := 45) ?hr ?_; (case hd => rfl); (case hg => rfl); (case hr => first | (go_simp; done) | (go_simp; rfl)); intro gb240 hg w16 hbox hb; have n0_ := Aside0.mk (blk_below (g := gb239) (o := .cells #[.int .i64 a0_0, .int .i64 a0_1] 45 (0, 0)) (by (with_reducible repeat (first | refine blk_drewN ?_ _ | refine blk_drew ?_ | refine blk_alloc ?_ _)); exact BK239.out) hb); have n1_ := Aside0.mk (below_step (by repeat (first | (with_reducible first | exact HB.out | apply below_alloc | apply pw_below_drewN | apply below_drew1 | refine below_set ?_ GE239.out) | exact HB.out)) hb); have n2_ := Aside0.mk (hbox); have n3_ := Aside0.mk ((by rw [hg]; exact (below_size (by repeat (first | (with_reducible first | exact HB.out | apply below_alloc | apply pw_below_drewN | apply below_drew1 | refine below_set ?_ GE239.out) | exact HB.out))) : w.heap.size ≤ gb240)); have n4_ := Aside0.mk ((by rw [hg]; exact (below_size (by repeat (first | (with_reducible first | exact HB.out | apply below_alloc | apply pw_below_drewN | apply below_drew1 | refine below_set ?_ GE239.out) | exact HB.out))) : w.heap.size ≤ gb240)); have n5_ := Aside0.mk ((by rw [hg]; exact Nat.ne_of_lt (blk_lt (g := gb239) (o := .cells #[.int .i64 a0_0, .int .i64 a0_1] 45 (0, 0)) (by (with_reducible repeat (first | refine blk_drewN ?_ _ | refine blk_drew ?_ | refine blk_alloc ?_ _)); exact BK239.out)) : gb239 ≠ gb240)); have n6_ := Aside0.mk ((by rw [hg]; exact Nat.ne_of_gt (blk_lt (g := gb239) (o := .cells #[.int .i64 a0_0, .int .i64 a0_1] 45 (0, 0)) (by (with_reducible repeat (first | refine blk_drewN ?_ _ | refine blk_drew ?_ | refine blk_alloc ?_ _)); exact BK239.out)) : gb240 ≠ gb239)); clear BK239; clear HB; have BK239 := n0_; have HB := n1_; have BK240 := n2_; have GW240 := n3_; have GE240 := n4_; have NB239_240 := n5_; have NB240_239 := n6_; clear n0_ n1_ n2_ n3_ n4_ n5_ n6_; clear hb hbox hg; have hnb17 := NB239_240.out; have hnc17 := NB240_239.out; have hcz18_0 : w16.cell? ⟨gb239, 0, none⟩ = some (.int .i64 a0_0) := (blk_cell BK239.out 0).trans rfl; have hcz18_1 : w16.cell? ⟨gb239, 1, none⟩ = some (.int .i64 a0_1) := (blk_cell BK239.out 1).trans rfl; have hfz18_0 := blk_frozen BK239.out 0; have hfz18_1 := blk_frozen BK239.out 1; have hcz19_0 : w16.cell? ⟨gb240, 0, none⟩ = some (.int .i64 a1_0) := (blk_cell BK240.out 0).trans rfl; have hcz19_1 : w16.cell? ⟨gb240, 1, none⟩ = some (.int .i64 a1_1) := (blk_cell BK240.out 1).trans rfl; have hfz19_0 := blk_frozen BK240.out 0; have hfz19_1 := blk_frozen BK240.out 1))
    go_ret
    exact ⟨by first | rfl | (simp [errW_none, errW_some] <;> rfl) | (simp [*, errW_none, errW_some] <;> rfl), by repeat (first | (with_reducible first | exact HB.out | apply below_alloc | apply pw_below_drewN | apply below_drew1 | refine below_set ?_ GE239.out | refine below_set ?_ GE240.out) | exact HB.out)⟩

end Go.Proofs.Ytajhhmoglfgijaa.PFnExactCountAsks
