/-
  The law FnExactSameMachines in plain Lean: for two machines handed in, the value that the code answers is the value that the specification answers.
-/
import Derived.Test.YtompkmjpikabkaaPFnExactSameMachinesx12
import Derived.Test.YtompkmjpikabkaaPWFnExactSameMachines
import Derived.Test.YtompkmjpikabkaaGoodFnExactSameMachines
namespace Go.Proofs.Ytompkmjpikabkaa.Pure
open Go.RowKit Go.Proofs.Ytompkmjpikabkaa.PFnExactSameMachines Go.Proofs.YtompkmjpikabkaaW.PrintWords Go.Proofs.YtompkmjpikabkaaW.PrintLast Go.Proofs.YtompkmjpikabkaaW.PrintMore Go.Proofs.Ytompkmjpikabkaa.PW

set_option linter.unusedSimpArgs false
set_option linter.unusedVariables false
theorem szInt64S_ev (l : List (Int)) (n : Int) (h0 : 0 ≤ n) (h1 : n ≤ 1048576) (hl : l.length ≤ 9223372036854775807) : ∃ v : Int, Ev (fun k => laws_szInt64S.f l n) v ∧ (v < 0 ∨ 0 ≤ v ∧ v ≤ n ∧ l.length ≤ 1048576) := by
  unfold laws_szInt64S.f
  rw [wrap_id (by omega) (by omega)]
  by_cases h : n - l.length < 0
  · exact ⟨-1, ev_eq 0 fun _ _ => by rw [if_pos h], Or.inl (by omega)⟩
  · exact ⟨n - l.length, ev_eq 0 fun _ _ => by rw [if_neg h], Or.inr ⟨by omega, by omega, by omega⟩⟩
def toNode (x : S206) : S146 := ⟨x.f0, x.f1, x.f2⟩
def bndNode (x : S206) : Prop := x.f2.length ≤ 1048576
def bndNodeI (x : S146) : Prop := x.f2.length ≤ 1048576
theorem szNode_ev (x : S206) (n : Int) (h0 : 0 ≤ n) (h1 : n ≤ 1048576) (hg : good206 x) : ∃ v : Int, Ev (fun k => laws_szNode.f x.f0 x.f1 x.f2 n) v ∧ (v < 0 ∨ 0 ≤ v ∧ v ≤ n ∧ x.f2.length ≤ 1048576) := by
  unfold laws_szNode.f
  obtain ⟨v0, e0, b0⟩ := szInt64S_ev x.f2 n (by omega) (by omega) (hg.2.2.1)
  by_cases h10 : v0 < 0
  · refine ⟨-1, Ev.bind e0 ?_, Or.inl (by omega)⟩
    simp only [if_pos h10]
    exact Ev.now _
  replace b0 := b0.resolve_left h10
  obtain ⟨b0a, b0b, b0c⟩ := b0
  refine ⟨v0, ?_, Or.inr ⟨by omega, by omega, b0c⟩⟩
  refine Ev.bind e0 ?_
  simp only [if_neg h10]
  exact Ev.now _
theorem szNodeS_ev (l : List (S206)) (n : Int) (h0 : 0 ≤ n) (h1 : n ≤ 1048576) (hl : l.length ≤ 9223372036854775807 ∧ ∀ y ∈ l, good206 y) : ∃ v : Int, Ev (fun k => laws_szNodeS.f k l n) v ∧ (v < 0 ∨ 0 ≤ v ∧ v ≤ n ∧ l.length ≤ 1048576 ∧ ∀ y ∈ l, bndNode y) := by
  unfold laws_szNodeS.f
  rw [wrap_id (by omega) (by omega)]
  by_cases h : n - l.length < 0
  · exact ⟨-1, ev_eq 0 fun _ _ => by rw [if_pos h], Or.inl (by omega)⟩
  have h := ev_szs laws_szNodeS.l0 l z206 (fun y => bndNode y) (by omega)
    (fun i hi n h0 h1 => by
      obtain ⟨v, ⟨K, hK⟩, hv⟩ := szNode_ev (rd_T206 l i) n h0 h1 (hl.2 _ (rd_mem _ l i hi))
      refine ⟨v, ?_⟩
      rcases hv with hv | ⟨hv1, hv2, hv3⟩
      · exact Or.inl ⟨hv, K, fun k hk => by have := hK k hk; simp only [laws_szNodeS.l0, if_pos (show (i : Int) < l.length by omega), if_pos (show (0 : Int) ≤ i by omega)]; simp only [this, Option.bind_some, if_pos hv]⟩
      · exact Or.inr ⟨hv1, hv2, hv3, K, fun k hk => by have := hK k hk; simp only [laws_szNodeS.l0, if_pos (show (i : Int) < l.length by omega), if_pos (show (0 : Int) ≤ i by omega)]; simp only [this, Option.bind_some, if_neg (show ¬ v < 0 by omega)]⟩)
    (fun k n i hi => by simp only [laws_szNodeS.l0, if_neg hi]) (n - l.length) (by omega) (by omega)
  obtain ⟨v, hv, h⟩ := h
  refine ⟨v, ?_, ?_⟩
  · simp only [if_neg (show ¬ n - (l.length : Int) < 0 by omega)]
    exact hv
  · rcases h with h | ⟨h1, h2, h3⟩
    · exact Or.inl h
    · exact Or.inr ⟨h1, by omega, by omega, h3⟩
def toBlock (x : S209) : S143 := ⟨x.f0, x.f1⟩
theorem szBlockS_ev (l : List (S209)) (n : Int) (h0 : 0 ≤ n) (h1 : n ≤ 1048576) (hl : l.length ≤ 9223372036854775807) : ∃ v : Int, Ev (fun k => laws_szBlockS.f l n) v ∧ (v < 0 ∨ 0 ≤ v ∧ v ≤ n ∧ l.length ≤ 1048576) := by
  unfold laws_szBlockS.f
  rw [wrap_id (by omega) (by omega)]
  by_cases h : n - l.length < 0
  · exact ⟨-1, ev_eq 0 fun _ _ => by rw [if_pos h], Or.inl (by omega)⟩
  · exact ⟨n - l.length, ev_eq 0 fun _ _ => by rw [if_neg h], Or.inr ⟨by omega, by omega, by omega⟩⟩
theorem szForest_ev (x : S44) (n : Int) (h0 : 0 ≤ n) (h1 : n ≤ 1048576) (hg : good44 x) : ∃ v : Int, Ev (fun k => laws_szForest.f k x.f0 x.f1 n) v ∧ (v < 0 ∨ 0 ≤ v ∧ v ≤ n ∧ x.f0.length ≤ 1048576 ∧ (∀ y ∈ x.f0, bndNode y) ∧ x.f1.length ≤ 1048576) := by
  unfold laws_szForest.f
  obtain ⟨v0, e0, b0⟩ := szNodeS_ev x.f0 n (by omega) (by omega) (hg.1)
  by_cases h10 : v0 < 0
  · refine ⟨-1, Ev.bind e0 ?_, Or.inl (by omega)⟩
    simp only [if_pos h10]
    exact Ev.now _
  replace b0 := b0.resolve_left h10
  obtain ⟨b0a, b0b, b0c⟩ := b0
  obtain ⟨v1, e1, b1⟩ := szBlockS_ev x.f1 v0 (by omega) (by omega) (hg.2.1)
  by_cases h11 : v1 < 0
  · refine ⟨-1, ?_, Or.inl (by omega)⟩
    refine Ev.bind e0 ?_
    simp only [if_neg h10]
    refine Ev.bind e1 ?_
    simp only [if_pos h11]
    exact Ev.now _
  replace b1 := b1.resolve_left h11
  obtain ⟨b1a, b1b, b1c⟩ := b1
  refine ⟨v1, ?_, Or.inr ⟨by omega, by omega, by first | exact ⟨b0c, b1c⟩ | ((repeat' apply And.intro) <;> first | assumption | exact b0c.1 | exact b0c.2 | exact b0c.2.1 | exact b0c.2.2 | exact b0c.2.2.1 | exact b0c.2.2.2 | exact b0c.2.2.2.1 | exact b0c.2.2.2.2 | exact b1c.1 | exact b1c.2 | exact b1c.2.1 | exact b1c.2.2 | exact b1c.2.2.1 | exact b1c.2.2.2 | exact b1c.2.2.2.1 | exact b1c.2.2.2.2)⟩⟩
  refine Ev.bind e0 ?_
  simp only [if_neg h10]
  refine Ev.bind e1 ?_
  simp only [if_neg h11]
  exact Ev.now _
def toVol (x : S135) : S125 := ⟨x.f0, x.f1, x.f2⟩
theorem szVolS_ev (l : List (S135)) (n : Int) (h0 : 0 ≤ n) (h1 : n ≤ 1048576) (hl : l.length ≤ 9223372036854775807) : ∃ v : Int, Ev (fun k => laws_szVolS.f l n) v ∧ (v < 0 ∨ 0 ≤ v ∧ v ≤ n ∧ l.length ≤ 1048576) := by
  unfold laws_szVolS.f
  rw [wrap_id (by omega) (by omega)]
  by_cases h : n - l.length < 0
  · exact ⟨-1, ev_eq 0 fun _ _ => by rw [if_pos h], Or.inl (by omega)⟩
  · exact ⟨n - l.length, ev_eq 0 fun _ _ => by rw [if_neg h], Or.inr ⟨by omega, by omega, by omega⟩⟩
theorem szPool_ev (x : S46) (n : Int) (h0 : 0 ≤ n) (h1 : n ≤ 1048576) (hg : good46 x) : ∃ v : Int, Ev (fun k => laws_szPool.f k x.f0.f0 x.f0.f1 x.f1 n) v ∧ (v < 0 ∨ 0 ≤ v ∧ v ≤ n ∧ x.f0.f0.length ≤ 1048576 ∧ (∀ y ∈ x.f0.f0, bndNode y) ∧ x.f0.f1.length ≤ 1048576 ∧ x.f1.length ≤ 1048576) := by
  unfold laws_szPool.f
  obtain ⟨v0, e0, b0⟩ := szForest_ev x.f0 n (by omega) (by omega) (hg.1)
  by_cases h10 : v0 < 0
  · refine ⟨-1, Ev.bind e0 ?_, Or.inl (by omega)⟩
    simp only [if_pos h10]
    exact Ev.now _
  replace b0 := b0.resolve_left h10
  obtain ⟨b0a, b0b, b0c⟩ := b0
  obtain ⟨v1, e1, b1⟩ := szVolS_ev x.f1 v0 (by omega) (by omega) (hg.2.1)
  by_cases h11 : v1 < 0
  · refine ⟨-1, ?_, Or.inl (by omega)⟩
    refine Ev.bind e0 ?_
    simp only [if_neg h10]
    refine Ev.bind e1 ?_
    simp only [if_pos h11]
    exact Ev.now _
  replace b1 := b1.resolve_left h11
  obtain ⟨b1a, b1b, b1c⟩ := b1
  refine ⟨v1, ?_, Or.inr ⟨by omega, by omega, by first | exact ⟨b0c, b1c⟩ | ((repeat' apply And.intro) <;> first | assumption | exact b0c.1 | exact b0c.2 | exact b0c.2.1 | exact b0c.2.2 | exact b0c.2.2.1 | exact b0c.2.2.2 | exact b0c.2.2.2.1 | exact b0c.2.2.2.2 | exact b1c.1 | exact b1c.2 | exact b1c.2.1 | exact b1c.2.2 | exact b1c.2.2.1 | exact b1c.2.2.2 | exact b1c.2.2.2.1 | exact b1c.2.2.2.2)⟩⟩
  refine Ev.bind e0 ?_
  simp only [if_neg h10]
  refine Ev.bind e1 ?_
  simp only [if_neg h11]
  exact Ev.now _
def toSession (x : S149) : S108 := ⟨x.f0, x.f1, x.f2, x.f3⟩
theorem szSessionS_ev (l : List (S149)) (n : Int) (h0 : 0 ≤ n) (h1 : n ≤ 1048576) (hl : l.length ≤ 9223372036854775807) : ∃ v : Int, Ev (fun k => laws_szSessionS.f l n) v ∧ (v < 0 ∨ 0 ≤ v ∧ v ≤ n ∧ l.length ≤ 1048576) := by
  unfold laws_szSessionS.f
  rw [wrap_id (by omega) (by omega)]
  by_cases h : n - l.length < 0
  · exact ⟨-1, ev_eq 0 fun _ _ => by rw [if_pos h], Or.inl (by omega)⟩
  · exact ⟨n - l.length, ev_eq 0 fun _ _ => by rw [if_neg h], Or.inr ⟨by omega, by omega, by omega⟩⟩
theorem szMachine_ev (x : S49) (n : Int) (h0 : 0 ≤ n) (h1 : n ≤ 1048576) (hg : good49 x) : ∃ v : Int, Ev (fun k => laws_szMachine.f k x.f0.f0.f0 x.f0.f0.f1 x.f0.f1 x.f1 n) v ∧ (v < 0 ∨ 0 ≤ v ∧ v ≤ n ∧ x.f0.f0.f0.length ≤ 1048576 ∧ (∀ y ∈ x.f0.f0.f0, bndNode y) ∧ x.f0.f0.f1.length ≤ 1048576 ∧ x.f0.f1.length ≤ 1048576 ∧ x.f1.length ≤ 1048576) := by
  unfold laws_szMachine.f
  obtain ⟨v0, e0, b0⟩ := szPool_ev x.f0 n (by omega) (by omega) (hg.1)
  by_cases h10 : v0 < 0
  · refine ⟨-1, Ev.bind e0 ?_, Or.inl (by omega)⟩
    simp only [if_pos h10]
    exact Ev.now _
  replace b0 := b0.resolve_left h10
  obtain ⟨b0a, b0b, b0c⟩ := b0
  obtain ⟨v1, e1, b1⟩ := szSessionS_ev x.f1 v0 (by omega) (by omega) (hg.2.1)
  by_cases h11 : v1 < 0
  · refine ⟨-1, ?_, Or.inl (by omega)⟩
    refine Ev.bind e0 ?_
    simp only [if_neg h10]
    refine Ev.bind e1 ?_
    simp only [if_pos h11]
    exact Ev.now _
  replace b1 := b1.resolve_left h11
  obtain ⟨b1a, b1b, b1c⟩ := b1
  refine ⟨v1, ?_, Or.inr ⟨by omega, by omega, by first | exact ⟨b0c, b1c⟩ | ((repeat' apply And.intro) <;> first | assumption | exact b0c.1 | exact b0c.2 | exact b0c.2.1 | exact b0c.2.2 | exact b0c.2.2.1 | exact b0c.2.2.2 | exact b0c.2.2.2.1 | exact b0c.2.2.2.2 | exact b1c.1 | exact b1c.2 | exact b1c.2.1 | exact b1c.2.2 | exact b1c.2.2.1 | exact b1c.2.2.2 | exact b1c.2.2.2.1 | exact b1c.2.2.2.2)⟩⟩
  refine Ev.bind e0 ?_
  simp only [if_neg h10]
  refine Ev.bind e1 ?_
  simp only [if_neg h11]
  exact Ev.now _
theorem toVol_ev (x : S135) : Ev (fun k => laws_toVol.f x.f0 x.f1 x.f2) (x.f0, x.f1, x.f2) := ev_eq 0 fun _ _ => rfl
theorem toInt64S_ev (l : List (Int)) (hb : l.length ≤ 1048576) : Ev (fun k => laws_toInt64S.f k l) l := by
  have hn := hb
  have h := ev_conv laws_toInt64S.l0 id (0 : Int) (0 : Int) l (by omega)
    (fun k out i h0 h1 h2 => by simp only [laws_toInt64S.l0, if_pos h0, if_pos h1, if_pos h2]; rfl)
    (fun k out i h1 => by simp only [laws_toInt64S.l0, if_neg h1])
  rw [List.map_id] at h
  refine Ev.congr (fun k => ?_) h
  unfold laws_toInt64S.f
  rw [if_pos (by omega), if_pos (by simp; omega)]
  try simp
theorem toNode_ev (x : S206) (hb : x.f2.length ≤ 1048576) : Ev (fun k => laws_toNode.f k x.f0 x.f1 x.f2) (x.f0, x.f1, x.f2) := by
  unfold laws_toNode.f
  refine Ev.bind (toInt64S_ev x.f2 hb) ?_
  exact Ev.now _
theorem toBlock_ev (x : S209) : Ev (fun k => laws_toBlock.f x.f0 x.f1) (x.f0, x.f1) := ev_eq 0 fun _ _ => rfl
theorem toNodeS_ev (l : List (S206)) (hb : l.length ≤ 1048576 ∧ (∀ y ∈ l, bndNode y)) : Ev (fun k => laws_toNodeS.f k l) (l.map toNode) := by
  have hn := hb.1
  have h := ev_conv2 laws_toNodeS.l0 toNode z206 z146 l (by omega)
    (fun i hi => by
      obtain ⟨K, hK⟩ := toNode_ev (l.getD i z206) (hb.2 _ (rd_mem z206 l i hi))
      refine ⟨K, fun k hk out ho => ?_⟩
      have h2 : (i : Int) < out.length := by omega
      have h0 : (0 : Int) ≤ i := by omega
      have h1 : (i : Int) < l.length := by omega
      have := hK k hk
      simp only [laws_toNodeS.l0, if_pos h0, if_pos h1, if_pos h2, rd_T206, Int.toNat_natCast]
      simp only [this, Option.bind_some]
      rfl)
    (fun k out i h1 => by simp only [laws_toNodeS.l0, if_neg h1])
  refine Ev.congr (fun k => ?_) h
  unfold laws_toNodeS.f
  rw [if_pos (by omega), if_pos (by simp; omega)]
  try simp
theorem toBlockS_ev (l : List (S209)) (hb : l.length ≤ 1048576) : Ev (fun k => laws_toBlockS.f k l) (l.map toBlock) := by
  have hn := hb
  have h := ev_conv laws_toBlockS.l0 toBlock z209 z143 l (by omega)
    (fun k out i h0 h1 h2 => by simp only [laws_toBlockS.l0, laws_toBlock.f, Option.bind_some, if_pos h0, if_pos h1, if_pos h2]; rfl)
    (fun k out i h1 => by simp only [laws_toBlockS.l0, if_neg h1])
  refine Ev.congr (fun k => ?_) h
  unfold laws_toBlockS.f
  rw [if_pos (by omega), if_pos (by simp; omega)]
  try simp
theorem toForest_ev (x : S44) (hb : x.f0.length ≤ 1048576 ∧ (∀ y ∈ x.f0, bndNode y) ∧ x.f1.length ≤ 1048576) : Ev (fun k => laws_toForest.f k x.f0 x.f1) ((x.f0.map toNode), (x.f1.map toBlock)) := by
  unfold laws_toForest.f
  refine Ev.bind (toNodeS_ev x.f0 ⟨hb.1, hb.2.1⟩) ?_
  refine Ev.bind (toBlockS_ev x.f1 hb.2.2) ?_
  exact Ev.now _
theorem toVolS_ev (l : List (S135)) (hb : l.length ≤ 1048576) : Ev (fun k => laws_toVolS.f k l) (l.map toVol) := by
  have hn := hb
  have h := ev_conv laws_toVolS.l0 toVol z135 z125 l (by omega)
    (fun k out i h0 h1 h2 => by simp only [laws_toVolS.l0, laws_toVol.f, Option.bind_some, if_pos h0, if_pos h1, if_pos h2]; rfl)
    (fun k out i h1 => by simp only [laws_toVolS.l0, if_neg h1])
  refine Ev.congr (fun k => ?_) h
  unfold laws_toVolS.f
  rw [if_pos (by omega), if_pos (by simp; omega)]
  try simp
theorem toPool_ev (x : S46) (hb : x.f0.f0.length ≤ 1048576 ∧ (∀ y ∈ x.f0.f0, bndNode y) ∧ x.f0.f1.length ≤ 1048576 ∧ x.f1.length ≤ 1048576) : Ev (fun k => laws_toPool.f k x.f0.f0 x.f0.f1 x.f1) ((x.f0.f0.map toNode), (x.f0.f1.map toBlock), (x.f1.map toVol)) := by
  unfold laws_toPool.f
  refine Ev.bind (toForest_ev x.f0 ⟨hb.1, hb.2.1, hb.2.2.1⟩) ?_
  refine Ev.bind (toVolS_ev x.f1 hb.2.2.2) ?_
  exact Ev.now _
theorem toSession_ev (x : S149) : Ev (fun k => laws_toSession.f x.f0 x.f1 x.f2 x.f3) (x.f0, x.f1, x.f2, x.f3) := ev_eq 0 fun _ _ => rfl
theorem toSessionS_ev (l : List (S149)) (hb : l.length ≤ 1048576) : Ev (fun k => laws_toSessionS.f k l) (l.map toSession) := by
  have hn := hb
  have h := ev_conv laws_toSessionS.l0 toSession z149 z108 l (by omega)
    (fun k out i h0 h1 h2 => by simp only [laws_toSessionS.l0, laws_toSession.f, Option.bind_some, if_pos h0, if_pos h1, if_pos h2]; rfl)
    (fun k out i h1 => by simp only [laws_toSessionS.l0, if_neg h1])
  refine Ev.congr (fun k => ?_) h
  unfold laws_toSessionS.f
  rw [if_pos (by omega), if_pos (by simp; omega)]
  try simp
theorem toMachine_ev (x : S49) (hb : x.f0.f0.f0.length ≤ 1048576 ∧ (∀ y ∈ x.f0.f0.f0, bndNode y) ∧ x.f0.f0.f1.length ≤ 1048576 ∧ x.f0.f1.length ≤ 1048576 ∧ x.f1.length ≤ 1048576) : Ev (fun k => laws_toMachine.f k x.f0.f0.f0 x.f0.f0.f1 x.f0.f1 x.f1) ((x.f0.f0.f0.map toNode), (x.f0.f0.f1.map toBlock), (x.f0.f1.map toVol), (x.f1.map toSession)) := by
  unfold laws_toMachine.f
  refine Ev.bind (toPool_ev x.f0 ⟨hb.1, hb.2.1, hb.2.2.1, hb.2.2.2.1⟩) ?_
  refine Ev.bind (toSessionS_ev x.f1 hb.2.2.2.2) ?_
  exact Ev.now _
theorem eqVol_ev (a0 : Int) (a1 : Int) (a2 : Int) : Ev (fun k => laws_eqVol.f a0 a1 a2 a0 a1 a2) true := ev_eq 0 fun _ _ => by simp [laws_eqVol.f]
theorem eqInt64S_ev (l : List (Int)) (hb : l.length ≤ 1048576) : Ev (fun k => laws_eqInt64S.f k l l) true := by
  have hn := hb
  have h := ev_same laws_eqInt64S.l0 l (by omega)
    (fun i h0 h1 => ⟨0, fun k _ => by simp [laws_eqInt64S.l0, if_pos h0, if_pos h1]⟩)
    (fun k i h1 => by simp only [laws_eqInt64S.l0, if_neg h1])
  refine Ev.congr (fun k => ?_) h
  unfold laws_eqInt64S.f
  rw [if_pos rfl]
theorem eqNode_ev0 (a0 : Int) (a1 : Bool) (a2 : List (Int)) (hb : a2.length ≤ 1048576) : Ev (fun k => laws_eqNode.f k a0 a1 a2 a0 a1 a2) true := by
  unfold laws_eqNode.f
  try simp only [if_true, bne_self_eq_false, Bool.false_eq_true, if_false]
  refine Ev.bind (eqInt64S_ev a2 hb) ?_
  simp only [if_true, bne_self_eq_false, Bool.false_eq_true, if_false]
  exact Ev.now _
theorem eqNode_ev (x : S146) (hb : x.f2.length ≤ 1048576) : Ev (fun k => laws_eqNode.f k x.f0 x.f1 x.f2 x.f0 x.f1 x.f2) true := eqNode_ev0 _ _ _ hb
theorem eqBlock_ev (a0 : Int) (a1 : Int) : Ev (fun k => laws_eqBlock.f a0 a1 a0 a1) true := ev_eq 0 fun _ _ => by simp [laws_eqBlock.f]
theorem eqNodeS_ev (l : List (S146)) (hb : l.length ≤ 1048576 ∧ (∀ y ∈ l, bndNodeI y)) : Ev (fun k => laws_eqNodeS.f k l l) true := by
  have hn := hb.1
  have h := ev_same laws_eqNodeS.l0 l (by omega)
    (fun i h0 h1 => by
      obtain ⟨K, hK⟩ := eqNode_ev (rd_T146 l i) (hb.2 _ (rd_mem _ l i.toNat (by omega)))
      refine ⟨K, fun k hk => ?_⟩
      have := hK k hk
      simp only [laws_eqNodeS.l0, if_pos h0, if_pos h1]
      simp only [this, Option.bind_some, if_true])
    (fun k i h1 => by simp only [laws_eqNodeS.l0, if_neg h1])
  refine Ev.congr (fun k => ?_) h
  unfold laws_eqNodeS.f
  rw [if_pos rfl]
theorem eqBlockS_ev (l : List (S143)) (hb : l.length ≤ 1048576) : Ev (fun k => laws_eqBlockS.f k l l) true := by
  have hn := hb
  have h := ev_same laws_eqBlockS.l0 l (by omega)
    (fun i h0 h1 => ⟨0, fun k _ => by simp [laws_eqBlockS.l0, laws_eqBlock.f, if_pos h0, if_pos h1]⟩)
    (fun k i h1 => by simp only [laws_eqBlockS.l0, if_neg h1])
  refine Ev.congr (fun k => ?_) h
  unfold laws_eqBlockS.f
  rw [if_pos rfl]
theorem eqForest_ev0 (a0 : List (S146)) (a1 : List (S143)) (hb : a0.length ≤ 1048576 ∧ (∀ y ∈ a0, bndNodeI y) ∧ a1.length ≤ 1048576) : Ev (fun k => laws_eqForest.f k a0 a1 a0 a1) true := by
  unfold laws_eqForest.f
  try simp only [if_true, bne_self_eq_false, Bool.false_eq_true, if_false]
  refine Ev.bind (eqNodeS_ev a0 ⟨hb.1, hb.2.1⟩) ?_
  simp only [if_true, bne_self_eq_false, Bool.false_eq_true, if_false]
  refine Ev.bind (eqBlockS_ev a1 hb.2.2) ?_
  simp only [if_true, bne_self_eq_false, Bool.false_eq_true, if_false]
  exact Ev.now _
theorem eqVolS_ev (l : List (S125)) (hb : l.length ≤ 1048576) : Ev (fun k => laws_eqVolS.f k l l) true := by
  have hn := hb
  have h := ev_same laws_eqVolS.l0 l (by omega)
    (fun i h0 h1 => ⟨0, fun k _ => by simp [laws_eqVolS.l0, laws_eqVol.f, if_pos h0, if_pos h1]⟩)
    (fun k i h1 => by simp only [laws_eqVolS.l0, if_neg h1])
  refine Ev.congr (fun k => ?_) h
  unfold laws_eqVolS.f
  rw [if_pos rfl]
theorem eqPool_ev0 (a0 : List (S146)) (a1 : List (S143)) (a2 : List (S125)) (hb : a0.length ≤ 1048576 ∧ (∀ y ∈ a0, bndNodeI y) ∧ a1.length ≤ 1048576 ∧ a2.length ≤ 1048576) : Ev (fun k => laws_eqPool.f k a0 a1 a2 a0 a1 a2) true := by
  unfold laws_eqPool.f
  try simp only [if_true, bne_self_eq_false, Bool.false_eq_true, if_false]
  refine Ev.bind (eqForest_ev0 a0 a1 ⟨hb.1, hb.2.1, hb.2.2.1⟩) ?_
  simp only [if_true, bne_self_eq_false, Bool.false_eq_true, if_false]
  refine Ev.bind (eqVolS_ev a2 hb.2.2.2) ?_
  simp only [if_true, bne_self_eq_false, Bool.false_eq_true, if_false]
  exact Ev.now _
theorem eqSession_ev (a0 : Int) (a1 : Int) (a2 : Int) (a3 : Int) : Ev (fun k => laws_eqSession.f a0 a1 a2 a3 a0 a1 a2 a3) true := ev_eq 0 fun _ _ => by simp [laws_eqSession.f]
theorem eqSessionS_ev (l : List (S108)) (hb : l.length ≤ 1048576) : Ev (fun k => laws_eqSessionS.f k l l) true := by
  have hn := hb
  have h := ev_same laws_eqSessionS.l0 l (by omega)
    (fun i h0 h1 => ⟨0, fun k _ => by simp [laws_eqSessionS.l0, laws_eqSession.f, if_pos h0, if_pos h1]⟩)
    (fun k i h1 => by simp only [laws_eqSessionS.l0, if_neg h1])
  refine Ev.congr (fun k => ?_) h
  unfold laws_eqSessionS.f
  rw [if_pos rfl]
theorem eqMachine_ev0 (a0 : List (S146)) (a1 : List (S143)) (a2 : List (S125)) (a3 : List (S108)) (hb : a0.length ≤ 1048576 ∧ (∀ y ∈ a0, bndNodeI y) ∧ a1.length ≤ 1048576 ∧ a2.length ≤ 1048576 ∧ a3.length ≤ 1048576) : Ev (fun k => laws_eqMachine.f k a0 a1 a2 a3 a0 a1 a2 a3) true := by
  unfold laws_eqMachine.f
  try simp only [if_true, bne_self_eq_false, Bool.false_eq_true, if_false]
  refine Ev.bind (eqPool_ev0 a0 a1 a2 ⟨hb.1, hb.2.1, hb.2.2.1, hb.2.2.2.1⟩) ?_
  simp only [if_true, bne_self_eq_false, Bool.false_eq_true, if_false]
  refine Ev.bind (eqSessionS_ev a3 hb.2.2.2.2) ?_
  simp only [if_true, bne_self_eq_false, Bool.false_eq_true, if_false]
  exact Ev.now _
theorem bndNode_to (x : S206) (h : bndNode x) : bndNodeI (toNode x) := by
  simp only [bndNode] at h
  simp only [bndNodeI, toNode, List.length_map, List.mem_map]
  simp_all
def qV (x y : S125) : Bool := !(!(x.f0 == y.f0) || (!(x.f1 == y.f1) || (!(x.f2 == y.f2))))
def qB (x y : S143) : Bool := !(!(x.f0 == y.f0) || (!(x.f1 == y.f1)))
def qS (x y : S108) : Bool := !(!(x.f0 == y.f0) || (!(x.f1 == y.f1) || (!(x.f2 == y.f2) || (!(x.f3 == y.f3)))))
def qI (x y : Int) : Bool := x == y
def qN (x y : S146) : Bool := (x.f0 == y.f0) && ((x.f1 == y.f1) && eqLB qI 0 x.f2 y.f2)
theorem impl_Vol_ev (a b : List S125) (hn : a.length ≤ 1048576) : Ev (fun k => impl_Vol.f k a b) (eqLB qV z125 a b) :=
  ev_eqLB _ (fun k i => impl_Vol.l0 k a b a.length i) qV z125 a b hn (fun k => rfl)
    (fun h i hi hq => ⟨0, fun k _ => by
      simp only [qV, Bool.not_eq_true'] at hq
      simp only [impl_Vol.l0, rd_T125, Int.toNat_natCast, if_pos (show (i : Int) < a.length by omega), if_pos (show (i : Int) < b.length by omega), if_pos (show (0 : Int) ≤ i by omega), hq, Bool.false_eq_true, if_false]⟩)
    (fun h i hi hq => ⟨0, fun k _ => by
      simp only [qV, Bool.not_eq_false'] at hq
      simp only [impl_Vol.l0, rd_T125, Int.toNat_natCast, if_pos (show (i : Int) < a.length by omega), if_pos (show (i : Int) < b.length by omega), if_pos (show (0 : Int) ≤ i by omega), hq, if_true]⟩)
    (fun k => by simp [impl_Vol.l0])
theorem impl_Block_ev (a b : List S143) (hn : a.length ≤ 1048576) : Ev (fun k => impl_Block.f k a b) (eqLB qB z143 a b) :=
  ev_eqLB _ (fun k i => impl_Block.l0 k a b a.length i) qB z143 a b hn (fun k => rfl)
    (fun h i hi hq => ⟨0, fun k _ => by
      simp only [qB, Bool.not_eq_true'] at hq
      simp only [impl_Block.l0, rd_T143, Int.toNat_natCast, if_pos (show (i : Int) < a.length by omega), if_pos (show (i : Int) < b.length by omega), if_pos (show (0 : Int) ≤ i by omega), hq, Bool.false_eq_true, if_false]⟩)
    (fun h i hi hq => ⟨0, fun k _ => by
      simp only [qB, Bool.not_eq_false'] at hq
      simp only [impl_Block.l0, rd_T143, Int.toNat_natCast, if_pos (show (i : Int) < a.length by omega), if_pos (show (i : Int) < b.length by omega), if_pos (show (0 : Int) ≤ i by omega), hq, if_true]⟩)
    (fun k => by simp [impl_Block.l0])
theorem impl_Session_ev (a b : List S108) (hn : a.length ≤ 1048576) : Ev (fun k => impl_Session.f k a b) (eqLB qS z108 a b) :=
  ev_eqLB _ (fun k i => impl_Session.l0 k a b a.length i) qS z108 a b hn (fun k => rfl)
    (fun h i hi hq => ⟨0, fun k _ => by
      simp only [qS, Bool.not_eq_true'] at hq
      simp only [impl_Session.l0, rd_T108, Int.toNat_natCast, if_pos (show (i : Int) < a.length by omega), if_pos (show (i : Int) < b.length by omega), if_pos (show (0 : Int) ≤ i by omega), hq, Bool.false_eq_true, if_false]⟩)
    (fun h i hi hq => ⟨0, fun k _ => by
      simp only [qS, Bool.not_eq_false'] at hq
      simp only [impl_Session.l0, rd_T108, Int.toNat_natCast, if_pos (show (i : Int) < a.length by omega), if_pos (show (i : Int) < b.length by omega), if_pos (show (0 : Int) ≤ i by omega), hq, if_true]⟩)
    (fun k => by simp [impl_Session.l0])
theorem l5Nums_ev (a b : List Int) (hn : a.length ≤ 1048576) : Ev (fun k => spec_l5Nums.f k a b) (eqLB qI 0 a b) :=
  ev_eqLB _ (fun k i => spec_l5Nums.l0 k a b i) qI 0 a b hn (fun k => rfl)
    (fun h i hi hq => ⟨0, fun k _ => by
      simp only [qI, beq_iff_eq] at hq
      simp only [spec_l5Nums.l0, rd, Int.toNat_natCast, if_pos (show (i : Int) < a.length by omega), if_pos (show (i : Int) < b.length by omega), if_pos (show (0 : Int) ≤ i by omega), hq, if_true]⟩)
    (fun h i hi hq => ⟨0, fun k _ => by
      simp only [qI, beq_eq_false_iff_ne, ne_eq] at hq
      simp only [spec_l5Nums.l0, rd, Int.toNat_natCast, if_pos (show (i : Int) < a.length by omega), if_pos (show (i : Int) < b.length by omega), if_pos (show (0 : Int) ≤ i by omega), hq, if_false]⟩)
    (fun k => by simp [spec_l5Nums.l0])
theorem eqInts_ev (a b : List Int) (hn : a.length ≤ 1048576) : Ev (fun k => slices_Equal_int64_int64.f k a b) (eqLB qI 0 a b) :=
  ev_eqLB _ (fun k i => slices_Equal_int64_int64.l0 k a b i) qI 0 a b hn (fun k => rfl)
    (fun h i hi hq => ⟨0, fun k _ => by
      simp only [qI, beq_iff_eq] at hq
      simp only [slices_Equal_int64_int64.l0, rd, Int.toNat_natCast, if_pos (show (i : Int) < a.length by omega), if_pos (show (i : Int) < b.length by omega), if_pos (show (0 : Int) ≤ i by omega), hq, if_true]⟩)
    (fun h i hi hq => ⟨0, fun k _ => by
      simp only [qI, beq_eq_false_iff_ne, ne_eq] at hq
      simp only [slices_Equal_int64_int64.l0, rd, Int.toNat_natCast, if_pos (show (i : Int) < a.length by omega), if_pos (show (i : Int) < b.length by omega), if_pos (show (0 : Int) ≤ i by omega), hq, if_false]⟩)
    (fun k => by simp [slices_Equal_int64_int64.l0])
theorem sameNode_ev (x y : S146) (hn : x.f2.length ≤ 1048576) : Ev (fun k => impl_SamePools_1.f k x.f0 x.f1 x.f2 y.f0 y.f1 y.f2) (qN x y) := by
  unfold impl_SamePools_1.f qN
  by_cases h0 : x.f0 = y.f0
  · simp only [h0, if_true, beq_self_eq_true, Bool.true_and]
    by_cases h1 : (x.f1 == y.f1) = true
    · simp only [h1, if_true, Bool.true_and]
      exact Ev.bind (eqInts_ev _ _ hn) (Ev.now _)
    · rw [Bool.not_eq_true] at h1
      simp only [h1, Bool.false_eq_true, if_false, Bool.false_and]
      exact Ev.now _
  · simp only [h0, if_false]
    have : (x.f0 == y.f0) = false := by simpa using h0
    rw [this, Bool.false_and]
    exact Ev.now _
theorem impl_Nodes_ev (a b : List S146) (hn : a.length ≤ 1048576 ∧ ∀ y ∈ a, bndNodeI y) : Ev (fun k => q_slices_EqualFunc_impl_Node_impl_Node_impl_Node_impl_Node_111.f k a b) (eqLB qN z146 a b) :=
  ev_eqLB _ (fun k i => q_slices_EqualFunc_impl_Node_impl_Node_impl_Node_impl_Node_111.l0 k a b i) qN z146 a b hn.1 (fun k => rfl)
    (fun h i hi hq => by
      obtain ⟨K, hK⟩ := sameNode_ev (a.getD i z146) (b.getD i z146) (hn.2 _ (rd_mem _ a i hi))
      refine ⟨K, fun k hk => ?_⟩
      have := hK k hk
      simp only [q_slices_EqualFunc_impl_Node_impl_Node_impl_Node_impl_Node_111.l0, rd_T146, Int.toNat_natCast, if_pos (show (i : Int) < a.length by omega), if_pos (show (i : Int) < b.length by omega), if_pos (show (0 : Int) ≤ i by omega)]
      simp only [this, Option.bind_some, hq, if_true])
    (fun h i hi hq => by
      obtain ⟨K, hK⟩ := sameNode_ev (a.getD i z146) (b.getD i z146) (hn.2 _ (rd_mem _ a i hi))
      refine ⟨K, fun k hk => ?_⟩
      have := hK k hk
      simp only [q_slices_EqualFunc_impl_Node_impl_Node_impl_Node_impl_Node_111.l0, rd_T146, Int.toNat_natCast, if_pos (show (i : Int) < a.length by omega), if_pos (show (i : Int) < b.length by omega), if_pos (show (0 : Int) ≤ i by omega)]
      simp only [this, Option.bind_some, hq, Bool.false_eq_true, if_false])
    (fun k => by simp [q_slices_EqualFunc_impl_Node_impl_Node_impl_Node_impl_Node_111.l0])
theorem impl_SamePools_ev (n0 n1 : List S146) (b0 b1 : List S143) (v0 v1 : List S125) (hn : n0.length ≤ 1048576 ∧ ∀ y ∈ n0, bndNodeI y) (hb : b0.length ≤ 1048576) (hv : v0.length ≤ 1048576) :
    Ev (fun k => impl_SamePools.f k n0 b0 v0 n1 b1 v1) (eqLB qV z125 v0 v1 && (eqLB qB z143 b0 b1 && eqLB qN z146 n0 n1)) := by
  unfold impl_SamePools.f
  refine Ev.bind (impl_Vol_ev _ _ hv) ?_
  cases eqLB qV z125 v0 v1 with
  | false => simp only [Bool.false_eq_true, if_false, Bool.false_and]; exact Ev.now _
  | true =>
    simp only [if_true, Bool.true_and]
    refine Ev.bind (impl_Block_ev _ _ hb) ?_
    cases eqLB qB z143 b0 b1 with
    | false => simp only [Bool.false_eq_true, if_false, Bool.false_and]; exact Ev.now _
    | true =>
      simp only [if_true, Bool.true_and]
      exact Ev.bind (impl_Nodes_ev _ _ hn) (Ev.now _)
theorem spec_SamePools_ev (n0 n1 : List S146) (b0 b1 : List S143) (v0 v1 : List S125) (hn : n0.length ≤ 1048576 ∧ ∀ y ∈ n0, bndNodeI y) (hb : b0.length ≤ 1048576) (hv : v0.length ≤ 1048576) :
    Ev (fun k => spec_SamePools.f k n0 b0 v0 n1 b1 v1) (eqLB qV z125 v0 v1 && (eqLB qB z143 b0 b1 && eqLB qN z146 n0 n1)) := by
  unfold spec_SamePools.f
  by_cases e1 : v0.length = v1.length
  case neg => 
    rw [show eqLB qV z125 v0 v1 = false by simp [eqLB, e1], Bool.false_and]
    exact ev_eq 0 fun k _ => by rw [if_neg (by omega)]
  by_cases e2 : n0.length = n1.length
  case neg => 
    rw [show eqLB qN z146 n0 n1 = false by simp [eqLB, e2], Bool.and_false, Bool.and_false]
    exact ev_eq 0 fun k _ => by rw [if_pos (by omega), if_neg (by omega)]
  by_cases e3 : b0.length = b1.length
  case neg => 
    rw [show eqLB qB z143 b0 b1 = false by simp [eqLB, e3], Bool.false_and, Bool.and_false]
    exact ev_eq 0 fun k _ => by rw [if_pos (by omega), if_pos (by omega), if_neg (by omega)]
  refine Ev.congr (f := fun k => spec_SamePools.l0 k n0 b0 v0 n1 b1 v1 0) (fun k => by rw [if_pos (by omega), if_pos (by omega), if_pos (by omega)]) ?_
  have eN : eqLB qN z146 n0 n1 = allN (fun i => qN (n0.getD i z146) (n1.getD i z146)) n0.length := by simp [eqLB, e2]
  have eB : eqLB qB z143 b0 b1 = allN (fun i => qB (b0.getD i z143) (b1.getD i z143)) b0.length := by simp [eqLB, e3]
  have eV : eqLB qV z125 v0 v1 = allN (fun i => qV (v0.getD i z125) (v1.getD i z125)) v0.length := by simp [eqLB, e1]
  have h2 := ev_all (fun k i => spec_SamePools.l2 k n0 b0 v0 n1 b1 v1 v0.length b0.length i) n0.length (fun i => qN (n0.getD i z146) (n1.getD i z146)) false true hn.1
    (fun i hi hq => by
      obtain ⟨K, hK⟩ := l5Nums_ev (n0.getD i z146).f2 (n1.getD i z146).f2 (hn.2 _ (rd_mem _ n0 i hi))
      refine ⟨K, fun k hk => ?_⟩
      have := hK k hk
      simp only [qN, Bool.and_eq_true, beq_iff_eq] at hq
      simp only [spec_SamePools.l2, rd_T146, Int.toNat_natCast, if_pos (show (i : Int) < n0.length by omega), if_pos (show (i : Int) < n1.length by omega), if_pos (show (0 : Int) ≤ i by omega), hq.1, hq.2.1, if_true, beq_self_eq_true, bne_self_eq_false, Bool.false_eq_true, if_false]
      simp only [this, Option.bind_some, hq.2.2, if_true])
    (fun i hi hq => by
      obtain ⟨K, hK⟩ := l5Nums_ev (n0.getD i z146).f2 (n1.getD i z146).f2 (hn.2 _ (rd_mem _ n0 i hi))
      refine ⟨K, fun k hk => ?_⟩
      have := hK k hk
      simp only [spec_SamePools.l2, rd_T146, Int.toNat_natCast, if_pos (show (i : Int) < n0.length by omega), if_pos (show (i : Int) < n1.length by omega), if_pos (show (0 : Int) ≤ i by omega)]
      by_cases c1 : (n0.getD i z146).f0 = (n1.getD i z146).f0
      · by_cases c2 : (n0.getD i z146).f1 = (n1.getD i z146).f1
        · simp only [qN, c1, c2, beq_self_eq_true, Bool.true_and] at hq
          simp only [c1, c2, if_true, beq_self_eq_true, Bool.false_eq_true, if_false, this, Option.bind_some, hq]
        · simp only [c1, if_true, beq_eq_false_iff_ne.2 c2, Bool.false_eq_true, if_false]
      · simp only [c1, if_false])
    ⟨0, fun k _ => by simp [spec_SamePools.l2]⟩
  obtain ⟨K2, h2⟩ := h2
  have h1 := ev_all (fun k i => spec_SamePools.l1 k n0 b0 v0 n1 b1 v1 v0.length i) b0.length (fun i => qB (b0.getD i z143) (b1.getD i z143)) false _ hb
    (fun i hi hq => ⟨0, fun k _ => by
      simp only [qB, Bool.not_eq_true'] at hq
      simp only [spec_SamePools.l1, rd_T143, Int.toNat_natCast, if_pos (show (i : Int) < b0.length by omega), if_pos (show (i : Int) < b1.length by omega), if_pos (show (0 : Int) ≤ i by omega), hq, Bool.false_eq_true, if_false]⟩)
    (fun i hi hq => ⟨0, fun k _ => by
      simp only [qB, Bool.not_eq_false'] at hq
      simp only [spec_SamePools.l1, rd_T143, Int.toNat_natCast, if_pos (show (i : Int) < b0.length by omega), if_pos (show (i : Int) < b1.length by omega), if_pos (show (0 : Int) ≤ i by omega), hq, if_true]⟩)
    ⟨K2, fun k hk => by simp only [spec_SamePools.l1, if_neg (show ¬ (b0.length : Int) < b0.length by omega)]; exact h2 k hk⟩
  obtain ⟨K1, h1⟩ := h1
  have h0 := ev_all (fun k i => spec_SamePools.l0 k n0 b0 v0 n1 b1 v1 i) v0.length (fun i => qV (v0.getD i z125) (v1.getD i z125)) false _ hv
    (fun i hi hq => ⟨0, fun k _ => by
      simp only [qV, Bool.not_eq_true'] at hq
      simp only [spec_SamePools.l0, rd_T125, Int.toNat_natCast, if_pos (show (i : Int) < v0.length by omega), if_pos (show (i : Int) < v1.length by omega), if_pos (show (0 : Int) ≤ i by omega), hq, Bool.false_eq_true, if_false]⟩)
    (fun i hi hq => ⟨0, fun k _ => by
      simp only [qV, Bool.not_eq_false'] at hq
      simp only [spec_SamePools.l0, rd_T125, Int.toNat_natCast, if_pos (show (i : Int) < v0.length by omega), if_pos (show (i : Int) < v1.length by omega), if_pos (show (0 : Int) ≤ i by omega), hq, if_true]⟩)
    ⟨K1, fun k hk => by simp only [spec_SamePools.l0, if_neg (show ¬ (v0.length : Int) < v0.length by omega)]; exact h1 k hk⟩
  rw [eN, eB, eV]
  have hb3 : ∀ a b c : Bool, (a && (b && c)) = (if a = true then (if b = true then (if c = true then true else false) else false) else false) := by
    intro a b c; cases a <;> cases b <;> cases c <;> rfl
  rw [hb3]
  exact h0
theorem spec_SameMachines_ev (n0 n1 : List S146) (b0 b1 : List S143) (v0 v1 : List S125) (s0 s1 : List S108) (hn : n0.length ≤ 1048576 ∧ ∀ y ∈ n0, bndNodeI y) (hb : b0.length ≤ 1048576) (hv : v0.length ≤ 1048576) (hs : s0.length ≤ 1048576) :
    Ev (fun k => spec_SameMachines.f k n0 b0 v0 s0 n1 b1 v1 s1) ((eqLB qV z125 v0 v1 && (eqLB qB z143 b0 b1 && eqLB qN z146 n0 n1)) && eqLB qS z108 s0 s1) := by
  unfold spec_SameMachines.f
  refine Ev.bind (spec_SamePools_ev _ _ _ _ _ _ hn hb hv) ?_
  cases (eqLB qV z125 v0 v1 && (eqLB qB z143 b0 b1 && eqLB qN z146 n0 n1)) with
  | false =>
    simp only [Bool.false_eq_true, if_false, Bool.false_and]
    exact ev_add 1 fun k => by simp only [spec_SameMachines.j0, if_true]
  | true =>
    simp only [if_true, Bool.true_and]
    refine Ev.step (f := fun k => if (s0.length : Int) = (s1.length : Int) then spec_SameMachines.l0 k 0 n0 b0 v0 s0 n1 b1 v1 s1 else some false) (fun k => by
      simp only [spec_SameMachines.j0]
      by_cases h : (s0.length : Int) = (s1.length : Int)
      · rw [if_pos h, if_neg (by simpa using h)]
      · rw [if_neg h, if_pos (by simpa using h)]) ?_
    exact ev_eqLB _ (fun k i => spec_SameMachines.l0 k i n0 b0 v0 s0 n1 b1 v1 s1) qS z108 s0 s1 hs (fun k => rfl)
      (fun h i hi hq => ⟨0, fun k _ => by
        simp only [qS, Bool.not_eq_true'] at hq
        simp only [spec_SameMachines.l0, rd_T108, Int.toNat_natCast, if_pos (show (i : Int) < s0.length by omega), if_pos (show (i : Int) < s1.length by omega), if_pos (show (0 : Int) ≤ i by omega), hq, Bool.false_eq_true, if_false]⟩)
      (fun h i hi hq => ⟨0, fun k _ => by
        simp only [qS, Bool.not_eq_false'] at hq
        simp only [spec_SameMachines.l0, rd_T108, Int.toNat_natCast, if_pos (show (i : Int) < s0.length by omega), if_pos (show (i : Int) < s1.length by omega), if_pos (show (0 : Int) ≤ i by omega), hq, if_true]⟩)
      (fun k => by simp [spec_SameMachines.l0])
theorem impl_SameMachines_ev (n0 n1 : List S146) (b0 b1 : List S143) (v0 v1 : List S125) (s0 s1 : List S108) (hn : n0.length ≤ 1048576 ∧ ∀ y ∈ n0, bndNodeI y) (hb : b0.length ≤ 1048576) (hv : v0.length ≤ 1048576) (hs : s0.length ≤ 1048576) :
    Ev (fun k => impl_SameMachines.f k n0 b0 v0 s0 n1 b1 v1 s1) ((eqLB qV z125 v0 v1 && (eqLB qB z143 b0 b1 && eqLB qN z146 n0 n1)) && eqLB qS z108 s0 s1) := by
  unfold impl_SameMachines.f
  refine Ev.bind (impl_SamePools_ev _ _ _ _ _ _ hn hb hv) ?_
  cases (eqLB qV z125 v0 v1 && (eqLB qB z143 b0 b1 && eqLB qN z146 n0 n1)) with
  | false => simp only [Bool.false_eq_true, if_false, Bool.false_and]; exact Ev.now _
  | true => simp only [if_true, Bool.true_and]; exact Ev.bind (impl_Session_ev _ _ hs) (Ev.now _)
theorem FnExactSameMachines : ∀ (x0 : S49) (x1 : S49), good49 x0 → good49 x1 → ∃ k, laws_FnExactSameMachines.f k x0.f0.f0.f0 x0.f0.f0.f1 x0.f0.f1 x0.f1 x1.f0.f0.f0 x1.f0.f0.f1 x1.f0.f1 x1.f1 = some true := by
  intro x y gx gy
  refine Ev.rounds ?_
  unfold laws_FnExactSameMachines.f
  obtain ⟨v, e, hv⟩ := szMachine_ev x 1048576 (by omega) (by omega) gx
  refine Ev.bind e ?_
  by_cases h : v < 0
  · simp only [if_pos h]
    exact Ev.now true
  replace hv := hv.resolve_left h
  obtain ⟨u0, u1, bx⟩ := hv
  simp only [if_neg h]
  obtain ⟨v2, e2, hv2⟩ := szMachine_ev y v (by omega) (by omega) gy
  refine Ev.bind e2 ?_
  by_cases h2 : v2 < 0
  · simp only [if_pos h2]
    exact Ev.now true
  replace hv2 := hv2.resolve_left h2
  obtain ⟨_, _, b_y⟩ := hv2
  simp only [if_neg h2]
  have ex := toMachine_ev x bx
  have ey := toMachine_ev y b_y
  have bn : (x.f0.f0.f0.map toNode).length ≤ 1048576 ∧ ∀ z ∈ x.f0.f0.f0.map toNode, bndNodeI z := ⟨by simpa using bx.1, fun z hz => by obtain ⟨z0, hz0, rfl⟩ := List.mem_map.1 hz; exact bndNode_to _ (bx.2.1 z0 hz0)⟩
  have bm : (y.f0.f0.f0.map toNode).length ≤ 1048576 ∧ ∀ z ∈ y.f0.f0.f0.map toNode, bndNodeI z := ⟨by simpa using b_y.1, fun z hz => by obtain ⟨z0, hz0, rfl⟩ := List.mem_map.1 hz; exact bndNode_to _ (b_y.2.1 z0 hz0)⟩
  refine Ev.bind ex (Ev.bind ey (Ev.bind (spec_SameMachines_ev _ _ _ _ _ _ _ _ bn (by simpa using bx.2.2.1) (by simpa using bx.2.2.2.1) (by simpa using bx.2.2.2.2)) (Ev.bind ex (Ev.bind ey (Ev.bind (impl_SameMachines_ev _ _ _ _ _ _ _ _ bn (by simpa using bx.2.2.1) (by simpa using bx.2.2.2.1) (by simpa using bx.2.2.2.2)) ?_)))))
  simp only [if_true, bne_self_eq_false, Bool.false_eq_true, if_false]
  refine Ev.bind ex (Ev.bind (eqMachine_ev0 _ _ _ _ ⟨bn.1, bn.2, by simpa using bx.2.2.1, by simpa using bx.2.2.2.1, by simpa using bx.2.2.2.2⟩) ?_)
  simp only [if_true]
  refine Ev.bind ey (Ev.bind (eqMachine_ev0 _ _ _ _ ⟨bm.1, bm.2, by simpa using b_y.2.2.1, by simpa using b_y.2.2.2.1, by simpa using b_y.2.2.2.2⟩) ?_)
  simp only [if_true]
  exact Ev.now _

end Go.Proofs.Ytompkmjpikabkaa.Pure
