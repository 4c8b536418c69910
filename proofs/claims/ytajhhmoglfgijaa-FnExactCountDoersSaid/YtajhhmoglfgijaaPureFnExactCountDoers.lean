/-
  The law FnExactCountDoers in plain Lean: for a replica handed in, the value that the code answers is the value that the specification answers.
-/
import Derived.Test.YtajhhmoglfgijaaPFnExactCountDoersx9
import Derived.Test.YtajhhmoglfgijaaPWFnExactCountDoers
import Derived.Test.YtajhhmoglfgijaaGoodFnExactCountDoers
namespace Go.Proofs.Ytajhhmoglfgijaa.Pure
open Go.RowKit Go.Proofs.Ytajhhmoglfgijaa.PFnExactCountDoers Go.Proofs.YtajhhmoglfgijaaW.PrintWords Go.Proofs.YtajhhmoglfgijaaW.PrintLast Go.Proofs.YtajhhmoglfgijaaW.PrintMore Go.Proofs.Ytajhhmoglfgijaa.PW

set_option linter.unusedSimpArgs false
set_option linter.unusedVariables false
def toOp (x : S97) : S93 := ⟨x.f0, x.f1, x.f2, x.f3⟩
def toEntry (x : S99) : S95 := ⟨x.f0, x.f1, ⟨x.f2.f0, x.f2.f1, x.f2.f2, x.f2.f3⟩⟩
theorem szEntryS_ev (l : List (S99)) (n : Int) (h0 : 0 ≤ n) (h1 : n ≤ 1048576) (hl : l.length ≤ 9223372036854775807) : ∃ v : Int, Ev (fun k => laws_szEntryS.f l n) v ∧ (v < 0 ∨ 0 ≤ v ∧ v ≤ n ∧ l.length ≤ 1048576) := by
  unfold laws_szEntryS.f
  rw [wrap_id (by omega) (by omega)]
  by_cases h : n - l.length < 0
  · exact ⟨-1, ev_eq 0 fun _ _ => by rw [if_pos h], Or.inl (by omega)⟩
  · exact ⟨n - l.length, ev_eq 0 fun _ _ => by rw [if_neg h], Or.inr ⟨by omega, by omega, by omega⟩⟩
def toDoer (x : S88) : S70 := ⟨x.f0, x.f1, (x.f2.map toEntry), x.f3⟩
def bndDoer (x : S88) : Prop := x.f2.length ≤ 1048576
def bndDoerI (x : S70) : Prop := x.f2.length ≤ 1048576
theorem szDoer_ev (x : S88) (n : Int) (h0 : 0 ≤ n) (h1 : n ≤ 1048576) (hg : good88 x) : ∃ v : Int, Ev (fun k => laws_szDoer.f x.f0 x.f1 x.f2 x.f3 n) v ∧ (v < 0 ∨ 0 ≤ v ∧ v ≤ n ∧ x.f2.length ≤ 1048576) := by
  unfold laws_szDoer.f
  obtain ⟨v0, e0, b0⟩ := szEntryS_ev x.f2 n (by omega) (by omega) (hg.2.2.1.1)
  by_cases h10 : v0 < 0
  · refine ⟨-1, Ev.bind e0 ?_, Or.inl (by omega)⟩
    simp only [if_pos h10]
    exact Ev.now _
  replace b0 := b0.resolve_left h10
  obtain ⟨b0a, b0b, b0c⟩ := b0
  refine ⟨v0, ?_, Or.inr ⟨by omega, by omega, b0c⟩⟩
  refine Ev.bind e0 ?_
  simp only [if_neg h10]
  exact Ev.now _
theorem szInt64S_ev (l : List (Int)) (n : Int) (h0 : 0 ≤ n) (h1 : n ≤ 1048576) (hl : l.length ≤ 9223372036854775807) : ∃ v : Int, Ev (fun k => laws_szInt64S.f l n) v ∧ (v < 0 ∨ 0 ≤ v ∧ v ≤ n ∧ l.length ≤ 1048576) := by
  unfold laws_szInt64S.f
  rw [wrap_id (by omega) (by omega)]
  by_cases h : n - l.length < 0
  · exact ⟨-1, ev_eq 0 fun _ _ => by rw [if_pos h], Or.inl (by omega)⟩
  · exact ⟨n - l.length, ev_eq 0 fun _ _ => by rw [if_neg h], Or.inr ⟨by omega, by omega, by omega⟩⟩
theorem szBoolS_ev (l : List (Bool)) (n : Int) (h0 : 0 ≤ n) (h1 : n ≤ 1048576) (hl : l.length ≤ 9223372036854775807) : ∃ v : Int, Ev (fun k => laws_szBoolS.f l n) v ∧ (v < 0 ∨ 0 ≤ v ∧ v ≤ n ∧ l.length ≤ 1048576) := by
  unfold laws_szBoolS.f
  rw [wrap_id (by omega) (by omega)]
  by_cases h : n - l.length < 0
  · exact ⟨-1, ev_eq 0 fun _ _ => by rw [if_pos h], Or.inl (by omega)⟩
  · exact ⟨n - l.length, ev_eq 0 fun _ _ => by rw [if_neg h], Or.inr ⟨by omega, by omega, by omega⟩⟩
theorem szDoerS_ev (l : List (S88)) (n : Int) (h0 : 0 ≤ n) (h1 : n ≤ 1048576) (hl : l.length ≤ 9223372036854775807 ∧ ∀ y ∈ l, good88 y) : ∃ v : Int, Ev (fun k => laws_szDoerS.f k l n) v ∧ (v < 0 ∨ 0 ≤ v ∧ v ≤ n ∧ l.length ≤ 1048576 ∧ ∀ y ∈ l, bndDoer y) := by
  unfold laws_szDoerS.f
  rw [wrap_id (by omega) (by omega)]
  by_cases h : n - l.length < 0
  · exact ⟨-1, ev_eq 0 fun _ _ => by rw [if_pos h], Or.inl (by omega)⟩
  have h := ev_szs laws_szDoerS.l0 l z88 (fun y => bndDoer y) (by omega)
    (fun i hi n h0 h1 => by
      obtain ⟨v, ⟨K, hK⟩, hv⟩ := szDoer_ev (rd_T88 l i) n h0 h1 (hl.2 _ (rd_mem _ l i hi))
      refine ⟨v, ?_⟩
      rcases hv with hv | ⟨hv1, hv2, hv3⟩
      · exact Or.inl ⟨hv, K, fun k hk => by have := hK k hk; simp only [laws_szDoerS.l0, if_pos (show (i : Int) < l.length by omega), if_pos (show (0 : Int) ≤ i by omega)]; simp only [this, Option.bind_some, if_pos hv]⟩
      · exact Or.inr ⟨hv1, hv2, hv3, K, fun k hk => by have := hK k hk; simp only [laws_szDoerS.l0, if_pos (show (i : Int) < l.length by omega), if_pos (show (0 : Int) ≤ i by omega)]; simp only [this, Option.bind_some, if_neg (show ¬ v < 0 by omega)]⟩)
    (fun k n i hi => by simp only [laws_szDoerS.l0, if_neg hi]) (n - l.length) (by omega) (by omega)
  obtain ⟨v, hv, h⟩ := h
  refine ⟨v, ?_, ?_⟩
  · simp only [if_neg (show ¬ n - (l.length : Int) < 0 by omega)]
    exact hv
  · rcases h with h | ⟨h1, h2, h3⟩
    · exact Or.inl h
    · exact Or.inr ⟨h1, by omega, by omega, h3⟩
theorem szReplica_ev (x : S27) (n : Int) (h0 : 0 ≤ n) (h1 : n ≤ 1048576) (hg : good27 x) : ∃ v : Int, Ev (fun k => laws_szReplica.f k x.f0 x.f1 x.f2 x.f3 x.f4 x.f5 x.f6 x.f7 x.f8 x.f9 n) v ∧ (v < 0 ∨ 0 ≤ v ∧ v ≤ n ∧ x.f5.length ≤ 1048576 ∧ x.f7.length ≤ 1048576 ∧ x.f8.length ≤ 1048576 ∧ x.f9.length ≤ 1048576 ∧ (∀ y ∈ x.f9, bndDoer y)) := by
  unfold laws_szReplica.f
  obtain ⟨v0, e0, b0⟩ := szEntryS_ev x.f5 n (by omega) (by omega) (hg.2.2.2.2.2.1.1)
  by_cases h10 : v0 < 0
  · refine ⟨-1, Ev.bind e0 ?_, Or.inl (by omega)⟩
    simp only [if_pos h10]
    exact Ev.now _
  replace b0 := b0.resolve_left h10
  obtain ⟨b0a, b0b, b0c⟩ := b0
  obtain ⟨v1, e1, b1⟩ := szInt64S_ev x.f7 v0 (by omega) (by omega) (hg.2.2.2.2.2.2.2.1.1)
  by_cases h11 : v1 < 0
  · refine ⟨-1, ?_, Or.inl (by omega)⟩
    refine Ev.bind e0 ?_
    simp only [if_neg h10]
    refine Ev.bind e1 ?_
    simp only [if_pos h11]
    exact Ev.now _
  replace b1 := b1.resolve_left h11
  obtain ⟨b1a, b1b, b1c⟩ := b1
  obtain ⟨v2, e2, b2⟩ := szBoolS_ev x.f8 v1 (by omega) (by omega) (hg.2.2.2.2.2.2.2.2.1.1)
  by_cases h12 : v2 < 0
  · refine ⟨-1, ?_, Or.inl (by omega)⟩
    refine Ev.bind e0 ?_
    simp only [if_neg h10]
    refine Ev.bind e1 ?_
    simp only [if_neg h11]
    refine Ev.bind e2 ?_
    simp only [if_pos h12]
    exact Ev.now _
  replace b2 := b2.resolve_left h12
  obtain ⟨b2a, b2b, b2c⟩ := b2
  obtain ⟨v3, e3, b3⟩ := szDoerS_ev x.f9 v2 (by omega) (by omega) (hg.2.2.2.2.2.2.2.2.2)
  by_cases h13 : v3 < 0
  · refine ⟨-1, ?_, Or.inl (by omega)⟩
    refine Ev.bind e0 ?_
    simp only [if_neg h10]
    refine Ev.bind e1 ?_
    simp only [if_neg h11]
    refine Ev.bind e2 ?_
    simp only [if_neg h12]
    refine Ev.bind e3 ?_
    simp only [if_pos h13]
    exact Ev.now _
  replace b3 := b3.resolve_left h13
  obtain ⟨b3a, b3b, b3c⟩ := b3
  refine ⟨v3, ?_, Or.inr ⟨by omega, by omega, by first | exact ⟨b0c, b1c, b2c, b3c⟩ | ((repeat' apply And.intro) <;> first | assumption | exact b0c.1 | exact b0c.2 | exact b0c.2.1 | exact b0c.2.2 | exact b0c.2.2.1 | exact b0c.2.2.2 | exact b0c.2.2.2.1 | exact b0c.2.2.2.2 | exact b1c.1 | exact b1c.2 | exact b1c.2.1 | exact b1c.2.2 | exact b1c.2.2.1 | exact b1c.2.2.2 | exact b1c.2.2.2.1 | exact b1c.2.2.2.2 | exact b2c.1 | exact b2c.2 | exact b2c.2.1 | exact b2c.2.2 | exact b2c.2.2.1 | exact b2c.2.2.2 | exact b2c.2.2.2.1 | exact b2c.2.2.2.2 | exact b3c.1 | exact b3c.2 | exact b3c.2.1 | exact b3c.2.2 | exact b3c.2.2.1 | exact b3c.2.2.2 | exact b3c.2.2.2.1 | exact b3c.2.2.2.2)⟩⟩
  refine Ev.bind e0 ?_
  simp only [if_neg h10]
  refine Ev.bind e1 ?_
  simp only [if_neg h11]
  refine Ev.bind e2 ?_
  simp only [if_neg h12]
  refine Ev.bind e3 ?_
  simp only [if_neg h13]
  exact Ev.now _
theorem toOp_ev (x : S97) : Ev (fun k => laws_toOp.f x.f0 x.f1 x.f2 x.f3) (x.f0, x.f1, x.f2, x.f3) := ev_eq 0 fun _ _ => rfl
theorem toEntry_ev (x : S99) : Ev (fun k => laws_toEntry.f x.f0 x.f1 x.f2.f0 x.f2.f1 x.f2.f2 x.f2.f3) (x.f0, x.f1, x.f2.f0, x.f2.f1, x.f2.f2, x.f2.f3) := ev_eq 0 fun _ _ => rfl
theorem toEntryS_ev (l : List (S99)) (hb : l.length ≤ 1048576) : Ev (fun k => laws_toEntryS.f k l) (l.map toEntry) := by
  have hn := hb
  have h := ev_conv laws_toEntryS.l0 toEntry z99 z95 l (by omega)
    (fun k out i h0 h1 h2 => by simp only [laws_toEntryS.l0, laws_toEntry.f, laws_toOp.f, Option.bind_some, if_pos h0, if_pos h1, if_pos h2]; rfl)
    (fun k out i h1 => by simp only [laws_toEntryS.l0, if_neg h1])
  refine Ev.congr (fun k => ?_) h
  unfold laws_toEntryS.f
  rw [if_pos (by omega), if_pos (by simp; omega)]
  try simp
theorem toDoer_ev (x : S88) (hb : x.f2.length ≤ 1048576) : Ev (fun k => laws_toDoer.f k x.f0 x.f1 x.f2 x.f3) (x.f0, x.f1, (x.f2.map toEntry), x.f3) := by
  unfold laws_toDoer.f
  refine Ev.bind (toEntryS_ev x.f2 hb) ?_
  exact Ev.now _
theorem toInt64S_ev (l : List (Int)) (hb : l.length ≤ 1048576) : Ev (fun k => laws_toInt64S.f k l) l := by
  have hn := hb
  have h := ev_conv laws_toInt64S.l0 id (0 : Int) (0 : Int) l (by omega)
    (fun k out i h0 h1 h2 => by simp only [laws_toInt64S.l0, if_pos h0, if_pos h1, if_pos h2]; rfl)
    (fun k out i h1 => by simp only [laws_toInt64S.l0, if_neg h1])
  rw [List.map_id] at h
  refine Ev.congr (fun k => ?_) h
  unfold laws_toInt64S.f
  rw [if_pos (by omega), if_pos (by simp; omega)]
  try simp
theorem toBoolS_ev (l : List (Bool)) (hb : l.length ≤ 1048576) : Ev (fun k => laws_toBoolS.f k l) l := by
  have hn := hb
  have h := ev_conv laws_toBoolS.l0 id false false l (by omega)
    (fun k out i h0 h1 h2 => by simp only [laws_toBoolS.l0, if_pos h0, if_pos h1, if_pos h2]; rfl)
    (fun k out i h1 => by simp only [laws_toBoolS.l0, if_neg h1])
  rw [List.map_id] at h
  refine Ev.congr (fun k => ?_) h
  unfold laws_toBoolS.f
  rw [if_pos (by omega), if_pos (by simp; omega)]
  try simp
theorem toDoerS_ev (l : List (S88)) (hb : l.length ≤ 1048576 ∧ (∀ y ∈ l, bndDoer y)) : Ev (fun k => laws_toDoerS.f k l) (l.map toDoer) := by
  have hn := hb.1
  have h := ev_conv2 laws_toDoerS.l0 toDoer z88 z70 l (by omega)
    (fun i hi => by
      obtain ⟨K, hK⟩ := toDoer_ev (l.getD i z88) (hb.2 _ (rd_mem z88 l i hi))
      refine ⟨K, fun k hk out ho => ?_⟩
      have h2 : (i : Int) < out.length := by omega
      have h0 : (0 : Int) ≤ i := by omega
      have h1 : (i : Int) < l.length := by omega
      have := hK k hk
      simp only [laws_toDoerS.l0, if_pos h0, if_pos h1, if_pos h2, rd_T88, Int.toNat_natCast]
      simp only [this, Option.bind_some]
      rfl)
    (fun k out i h1 => by simp only [laws_toDoerS.l0, if_neg h1])
  refine Ev.congr (fun k => ?_) h
  unfold laws_toDoerS.f
  rw [if_pos (by omega), if_pos (by simp; omega)]
  try simp
theorem toReplica_ev (x : S27) (hb : x.f5.length ≤ 1048576 ∧ x.f7.length ≤ 1048576 ∧ x.f8.length ≤ 1048576 ∧ x.f9.length ≤ 1048576 ∧ (∀ y ∈ x.f9, bndDoer y)) : Ev (fun k => laws_toReplica.f k x.f0 x.f1 x.f2 x.f3 x.f4 x.f5 x.f6 x.f7 x.f8 x.f9) (x.f0, x.f1, x.f2, x.f3, x.f4, (x.f5.map toEntry), x.f6, x.f7, x.f8, (x.f9.map toDoer)) := by
  unfold laws_toReplica.f
  refine Ev.bind (toEntryS_ev x.f5 hb.1) ?_
  refine Ev.bind (toInt64S_ev x.f7 hb.2.1) ?_
  refine Ev.bind (toBoolS_ev x.f8 hb.2.2.1) ?_
  refine Ev.bind (toDoerS_ev x.f9 ⟨hb.2.2.2.1, hb.2.2.2.2⟩) ?_
  exact Ev.now _
theorem eqOp_ev (a0 : Int) (a1 : Int) (a2 : Int) (a3 : Int) : Ev (fun k => laws_eqOp.f a0 a1 a2 a3 a0 a1 a2 a3) true := ev_eq 0 fun _ _ => by simp [laws_eqOp.f]
theorem eqEntry_ev (a0 : Int) (a1 : Int) (a2 : Int) (a3 : Int) (a4 : Int) (a5 : Int) : Ev (fun k => laws_eqEntry.f a0 a1 a2 a3 a4 a5 a0 a1 a2 a3 a4 a5) true := ev_eq 0 fun _ _ => by simp [laws_eqEntry.f, laws_eqOp.f]
theorem eqEntryS_ev (l : List (S95)) (hb : l.length ≤ 1048576) : Ev (fun k => laws_eqEntryS.f k l l) true := by
  have hn := hb
  have h := ev_same laws_eqEntryS.l0 l (by omega)
    (fun i h0 h1 => ⟨0, fun k _ => by simp [laws_eqEntryS.l0, laws_eqEntry.f, laws_eqOp.f, if_pos h0, if_pos h1]⟩)
    (fun k i h1 => by simp only [laws_eqEntryS.l0, if_neg h1])
  refine Ev.congr (fun k => ?_) h
  unfold laws_eqEntryS.f
  rw [if_pos rfl]
theorem eqDoer_ev0 (a0 : Bool) (a1 : Int) (a2 : List (S95)) (a3 : Int) (hb : a2.length ≤ 1048576) : Ev (fun k => laws_eqDoer.f k a0 a1 a2 a3 a0 a1 a2 a3) true := by
  unfold laws_eqDoer.f
  try simp only [if_true, bne_self_eq_false, Bool.false_eq_true, if_false]
  refine Ev.bind (eqEntryS_ev a2 hb) ?_
  simp only [if_true, bne_self_eq_false, Bool.false_eq_true, if_false]
  exact Ev.now _
theorem eqDoer_ev (x : S70) (hb : x.f2.length ≤ 1048576) : Ev (fun k => laws_eqDoer.f k x.f0 x.f1 x.f2 x.f3 x.f0 x.f1 x.f2 x.f3) true := eqDoer_ev0 _ _ _ _ hb
theorem eqInt64S_ev (l : List (Int)) (hb : l.length ≤ 1048576) : Ev (fun k => laws_eqInt64S.f k l l) true := by
  have hn := hb
  have h := ev_same laws_eqInt64S.l0 l (by omega)
    (fun i h0 h1 => ⟨0, fun k _ => by simp [laws_eqInt64S.l0, if_pos h0, if_pos h1]⟩)
    (fun k i h1 => by simp only [laws_eqInt64S.l0, if_neg h1])
  refine Ev.congr (fun k => ?_) h
  unfold laws_eqInt64S.f
  rw [if_pos rfl]
theorem eqBoolS_ev (l : List (Bool)) (hb : l.length ≤ 1048576) : Ev (fun k => laws_eqBoolS.f k l l) true := by
  have hn := hb
  have h := ev_same laws_eqBoolS.l0 l (by omega)
    (fun i h0 h1 => ⟨0, fun k _ => by simp [laws_eqBoolS.l0, if_pos h0, if_pos h1]⟩)
    (fun k i h1 => by simp only [laws_eqBoolS.l0, if_neg h1])
  refine Ev.congr (fun k => ?_) h
  unfold laws_eqBoolS.f
  rw [if_pos rfl]
theorem eqDoerS_ev (l : List (S70)) (hb : l.length ≤ 1048576 ∧ (∀ y ∈ l, bndDoerI y)) : Ev (fun k => laws_eqDoerS.f k l l) true := by
  have hn := hb.1
  have h := ev_same laws_eqDoerS.l0 l (by omega)
    (fun i h0 h1 => by
      obtain ⟨K, hK⟩ := eqDoer_ev (rd_T70 l i) (hb.2 _ (rd_mem _ l i.toNat (by omega)))
      refine ⟨K, fun k hk => ?_⟩
      have := hK k hk
      simp only [laws_eqDoerS.l0, if_pos h0, if_pos h1]
      simp only [this, Option.bind_some, if_true])
    (fun k i h1 => by simp only [laws_eqDoerS.l0, if_neg h1])
  refine Ev.congr (fun k => ?_) h
  unfold laws_eqDoerS.f
  rw [if_pos rfl]
theorem eqReplica_ev0 (a0 : Int) (a1 : Int) (a2 : Int) (a3 : Bool) (a4 : Int) (a5 : List (S95)) (a6 : Int) (a7 : List (Int)) (a8 : List (Bool)) (a9 : List (S70)) (hb : a5.length ≤ 1048576 ∧ a7.length ≤ 1048576 ∧ a8.length ≤ 1048576 ∧ a9.length ≤ 1048576 ∧ (∀ y ∈ a9, bndDoerI y)) : Ev (fun k => laws_eqReplica.f k a0 a1 a2 a3 a4 a5 a6 a7 a8 a9 a0 a1 a2 a3 a4 a5 a6 a7 a8 a9) true := by
  unfold laws_eqReplica.f
  try simp only [if_true, bne_self_eq_false, Bool.false_eq_true, if_false]
  refine Ev.bind (eqEntryS_ev a5 hb.1) ?_
  simp only [if_true, bne_self_eq_false, Bool.false_eq_true, if_false]
  refine Ev.bind (eqInt64S_ev a7 hb.2.1) ?_
  simp only [if_true, bne_self_eq_false, Bool.false_eq_true, if_false]
  refine Ev.bind (eqBoolS_ev a8 hb.2.2.1) ?_
  simp only [if_true, bne_self_eq_false, Bool.false_eq_true, if_false]
  refine Ev.bind (eqDoerS_ev a9 ⟨hb.2.2.2.1, hb.2.2.2.2⟩) ?_
  simp only [if_true, bne_self_eq_false, Bool.false_eq_true, if_false]
  exact Ev.now _
theorem eqIntResult_ev (a0 : Int) (a1 : Int) : Ev (fun k => laws_eqIntResult.f a0 a1 a0 a1) true := ev_eq 0 fun _ _ => by simp [laws_eqIntResult.f]
theorem bndDoer_to (x : S88) (h : bndDoer x) : bndDoerI (toDoer x) := by
  simp only [bndDoer] at h
  simp only [bndDoerI, toDoer, List.length_map, List.mem_map]
  simp_all
def doN (id : Int) (l : List (S70)) : Int := 1 + cntN (fun i => !((i : Int) == id) && (rd_T70 l (i : Int)).f0) l.length
theorem spec_l10Doers_ev (a0_0 : Int) (a0_1 : Int) (a0_2 : Int) (a0_3 : Bool) (a0_4 : Int) (l0_5 : List (S95)) (a0_6 : Int) (l0_7 : List Int) (l0_8 : List Bool) (l0_9 : List (S70)) (hl : l0_9.length ≤ 1048576) : Ev (fun k => q_spec_l10Doers.f k a0_0 a0_1 a0_2 a0_3 a0_4 l0_5 a0_6 l0_7 l0_8 l0_9) (doN a0_0 l0_9) := by
  unfold q_spec_l10Doers.f doN
  have h := ev_cnt (fun k c i => q_spec_l10Doers.l0 k a0_0 a0_1 a0_2 a0_3 a0_4 l0_5 a0_6 l0_7 l0_8 l0_9 c i) l0_9.length (fun i => !((i : Int) == a0_0) && (rd_T70 l0_9 (i : Int)).f0) 1 id hl (by omega) (by omega)
    (fun k c i hi hp => by
      simp only [Bool.and_eq_true, Bool.not_eq_true', beq_eq_false_iff_ne, ne_eq] at hp
      simp only [q_spec_l10Doers.l0, if_pos (show (i : Int) < l0_9.length by omega), if_pos (show (0 : Int) ≤ i by omega), hp.1, hp.2, if_true, if_false])
    (fun k c i hi hp => by
      simp only [q_spec_l10Doers.l0, if_pos (show (i : Int) < l0_9.length by omega), if_pos (show (0 : Int) ≤ i by omega)]
      by_cases h1 : (i : Int) = a0_0
      · simp only [h1, if_true]
      · simp only [beq_eq_false_iff_ne.2 h1, Bool.not_false, Bool.true_and] at hp
        simp only [h1, if_false, hp, Bool.false_eq_true])
    (fun k c => by simp [q_spec_l10Doers.l0])
  simpa using h
theorem impl_doers_ev (a0_0 : Int) (a0_1 : Int) (a0_2 : Int) (a0_3 : Bool) (a0_4 : Int) (l0_5 : List (S95)) (a0_6 : Int) (l0_7 : List Int) (l0_8 : List Bool) (l0_9 : List (S70)) (hl : l0_9.length ≤ 1048576) : Ev (fun k => q_impl_Replica_doers.f k a0_0 a0_1 a0_2 a0_3 a0_4 l0_5 a0_6 l0_7 l0_8 l0_9) (doN a0_0 l0_9) := by
  unfold q_impl_Replica_doers.f doN
  have h := ev_cnt (fun k c i => q_impl_Replica_doers.l0 k a0_0 a0_1 a0_2 a0_3 a0_4 l0_5 a0_6 l0_7 l0_8 l0_9 c i) l0_9.length (fun i => !((i : Int) == a0_0) && (rd_T70 l0_9 (i : Int)).f0) 1 id hl (by omega) (by omega)
    (fun k c i hi hp => by
      simp only [Bool.and_eq_true, Bool.not_eq_true', beq_eq_false_iff_ne, ne_eq] at hp
      simp only [q_impl_Replica_doers.l0, if_pos (show (i : Int) < l0_9.length by omega), if_pos (show (0 : Int) ≤ i by omega), hp.1, hp.2, if_true, if_false])
    (fun k c i hi hp => by
      simp only [q_impl_Replica_doers.l0, if_pos (show (i : Int) < l0_9.length by omega), if_pos (show (0 : Int) ≤ i by omega)]
      by_cases h2 : (rd_T70 l0_9 (i : Int)).f0 = true
      · by_cases h1 : (i : Int) = a0_0
        · rw [if_pos h2, if_pos h1]
        · simp only [beq_eq_false_iff_ne.2 h1, Bool.not_false, Bool.true_and, h2, Bool.true_eq_false] at hp
      · rw [if_neg h2])
    (fun k c => by simp [q_impl_Replica_doers.l0])
  simpa using h
theorem spec_CountDoers_ev (a0_0 : Int) (a0_1 : Int) (a0_2 : Int) (a0_3 : Bool) (a0_4 : Int) (l0_5 : List (S95)) (a0_6 : Int) (l0_7 : List Int) (l0_8 : List Bool) (l0_9 : List (S70)) (hl : l0_9.length ≤ 1048576) : Ev (fun k => spec_CountDoers.f k a0_0 a0_1 a0_2 a0_3 a0_4 l0_5 a0_6 l0_7 l0_8 l0_9) (if repF a0_0 a0_1 a0_2 a0_3 a0_4 l0_5 a0_6 l0_7 l0_8.length l0_9 = 0 then (0, doN a0_0 l0_9) else (repF a0_0 a0_1 a0_2 a0_3 a0_4 l0_5 a0_6 l0_7 l0_8.length l0_9, 0)) := by
  unfold spec_CountDoers.f
  refine Ev.bind (ev_eq 0 fun _ _ => rfl) ?_
  split
  · exact Ev.bind (spec_l10Doers_ev a0_0 a0_1 a0_2 a0_3 a0_4 l0_5 a0_6 l0_7 l0_8 l0_9 hl) (Ev.now _)
  · exact Ev.now _
theorem impl_CountDoers_ev (a0_0 : Int) (a0_1 : Int) (a0_2 : Int) (a0_3 : Bool) (a0_4 : Int) (l0_5 : List (S95)) (a0_6 : Int) (l0_7 : List Int) (l0_8 : List Bool) (l0_9 : List (S70)) (hl : l0_9.length ≤ 1048576) : Ev (fun k => impl_CountDoers.f k a0_0 a0_1 a0_2 a0_3 a0_4 l0_5 a0_6 l0_7 l0_8 l0_9) (if repF a0_0 a0_1 a0_2 a0_3 a0_4 l0_5 a0_6 l0_7 l0_8.length l0_9 = 0 then (0, doN a0_0 l0_9) else (repF a0_0 a0_1 a0_2 a0_3 a0_4 l0_5 a0_6 l0_7 l0_8.length l0_9, 0)) := by
  unfold impl_CountDoers.f
  refine Ev.bind (impl_doers_ev a0_0 a0_1 a0_2 a0_3 a0_4 l0_5 a0_6 l0_7 l0_8 l0_9 hl) ?_
  refine ev_eq 0 fun _ _ => ?_
  unfold impl_counted.f impl_ReplicaFault.f
  simp only [Option.bind_some]
  split <;> rfl
theorem FnExactCountDoers : ∀ (x0 : S27), good27 x0 → ∃ k, laws_FnExactCountDoers.f k x0.f0 x0.f1 x0.f2 x0.f3 x0.f4 x0.f5 x0.f6 x0.f7 x0.f8 x0.f9 = some true := by
  intro x g
  refine Ev.rounds ?_
  unfold laws_FnExactCountDoers.f
  obtain ⟨v, e, hv⟩ := szReplica_ev x 1048576 (by omega) (by omega) g
  refine Ev.bind e ?_
  by_cases h : v < 0
  · simp only [if_pos h]
    exact Ev.now true
  replace hv := hv.resolve_left h
  obtain ⟨_, _, b1, b2, b3, b4, b5⟩ := hv
  simp only [if_neg h]
  have e0 := toReplica_ev x ⟨b1, b2, b3, b4, b5⟩
  have bd : (x.f5.map toEntry).length ≤ 1048576 ∧ x.f7.length ≤ 1048576 ∧ x.f8.length ≤ 1048576 ∧ (x.f9.map toDoer).length ≤ 1048576 ∧ ∀ y ∈ x.f9.map toDoer, bndDoerI y := ⟨by simpa using b1, b2, b3, by simpa using b4, fun y hy => by obtain ⟨z, hz, rfl⟩ := List.mem_map.1 hy; exact bndDoer_to _ (b5 z hz)⟩
  refine Ev.bind e0 (Ev.bind (spec_CountDoers_ev _ _ _ _ _ _ _ _ _ _ bd.2.2.2.1) (Ev.bind e0 (Ev.bind (impl_CountDoers_ev _ _ _ _ _ _ _ _ _ _ bd.2.2.2.1) ?_)))
  refine Ev.bind (eqIntResult_ev _ _) ?_
  simp only [if_true]
  refine Ev.bind e0 (Ev.bind (eqReplica_ev0 _ _ _ _ _ _ _ _ _ _ bd) ?_)
  simp only [if_true]
  exact Ev.now _

end Go.Proofs.Ytajhhmoglfgijaa.Pure
