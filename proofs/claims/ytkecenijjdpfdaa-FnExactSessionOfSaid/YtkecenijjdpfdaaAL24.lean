/-
  Loops by a state of one's own; no conditions beyond each lemma's own.
-/
import Derived.Test.YtkecenijjdpfdaaAL20
namespace Go.Proofs.Ytkecenijjdpfdaa.AL
open Go
set_option linter.unusedVariables false
set_option linter.unusedSimpArgs false
section
variable {P : Program} {T : Tab} {mc : Nat → Bool} {Q : AX → List AV → Heap → Prop} {k : List It} {t : List AV} {H : Heap}
/-- A loop whose rounds go from state to state. -/
theorem lp_st (hT : TOk P T) {σ : Type} {b : Code} (I : σ → List AV) (J : σ → Heap) (V : σ → Prop) (μ : σ → Nat) (hd : dAll mc b = true) (s0 : σ) (hv : V s0) (h0 : Wk H t H (I s0) (J s0))
    (round : ∀ s, V s → R P T mc (LQ (fun t H' => ∃ s', V s' ∧ μ s' < μ s ∧ Wk H t H' (I s') (J s')) (cont P T mc Q k)) [.code b] (I s) (J s)) : Lp P T mc Q b k t H := by
  refine lp_run hT hd (σ := { s : σ // V s }) (fun s => I s.1) (fun s => J s.1) (fun s => μ s.1) (fun s => ?_) ⟨s0, hv⟩ h0
  obtain ⟨s, hV⟩ := s
  refine lp_up.mono_ (round s hV) fun x t' H' hx => ?_
  cases x with
  | normal => obtain ⟨s', h1, h2, h3⟩ := hx; exact ⟨⟨s', h1⟩, h2, h3⟩
  | ret => exact hx
  | exit id => exact hx
end
end Go.Proofs.Ytkecenijjdpfdaa.AL
