/-
  FnExactSameMachines: the law over its arguments as data: for every input it answers true, and each argument reads as it did. Conditions: the row's own (none of ours).
-/
import Derived.Test.YtompkmjpikabkaaRows
import Derived.Test.YtompkmjpikabkaaPFnExactSameMachinesx12
import Derived.Test.YtompkmjpikabkaaPureFnExactSameMachines
import Derived.WalkKit
import Derived.ProofKit
import Derived.OpenShut
import Derived.ShutString
import Derived.ChangeOld
import Derived.Below
import Derived.Carry
import Derived.SizedLaws
import Derived.Test.YtompkmjpikabkaaOpnFnExactSameMachines
namespace Go.Proofs.Ytompkmjpikabkaa.fnExactSameMachines
open Go.ChangeShapes Go.WideShapes Go.ChangeAt Go.RowKit Go.Proofs.Ytompkmjpikabkaa.Opn Go.Proofs.Ytompkmjpikabkaa.PFnExactSameMachines Go.Proofs.YtompkmjpikabkaaW.PrintWords
set_option linter.unusedVariables false
set_option linter.unusedSimpArgs false
theorem own : ownKnob Try.prog.godebug = none := by kernel_rfl
theorem laidOut : laidOutB Try.prog = true := by kernel_rfl
set_option maxRecDepth 100000 in
theorem lifted (os : Os) (started : os.Started) (H : Type) (enc : TypeId × Value → H) :
    ReturnsInHanded {} Try.checked os 4 .any (Rows.fnExactSameMachinesSpec.pre6 enc Try.prog Try.f4 Rows.fnExactSameMachinesRow.domain false) (Rows.fnExactSameMachinesSpec.post enc Try.prog Try.f4 false true false false) := by
  refine returnsInHanded_of_change_sized (C := Try.checked) own started (by kernel_rfl) Try.func4
    (ChangeSpec.witness6 (enc := enc) (C := Try.checked) false ⟨#[], #[.agg #[.slice none 0 0, .slice none 0 0, .slice none 0 0, .slice none 0 0], .agg #[.slice none 0 0, .slice none 0 0, .slice none 0 0, .slice none 0 0]], []⟩ 8 (by kernel_rfl) (by kernel_rfl) (by kernel_rfl) (by kernel_rfl)) ?_
  intro W base args ds gs before hval0 hW hcnd hsz0 _
  have hval : ∀ (j : Nat) t v, Try.f4.params[j]? = some t → args[j]? = some v → Value.okWide Try.prog W .any base t v := hval0
  have hW' := hW
  obtain ⟨p, q, hA0, hV, rfl, hfz, hnd⟩ := hW
  have hA : DataW.TrodAll enc Try.prog W 0 (fun _ => true) true Try.f4.params.toList args.toList ds p := hA0
  rw [Try.params4] at hA hval
  obtain ⟨v0, vs0, d0, ds0, p0, q0, hargs, rfl, rfl, h0, r0⟩ := trodAll_cons hA
  obtain ⟨v1, vs1, d1, ds1, p1, q1, rfl, rfl, rfl, h1, r1⟩ := trodAll_cons r0
  obtain ⟨rfl, rfl, rfl⟩ := trodAll_nil r1
  obtain rfl : args = #[v0, v1] := by cases args; simp_all
  obtain ⟨rfl, rfl⟩ := trodVars_none hV
  have k0 := h0
  have lt0 : ∀ x ∈ p0, x.block < W.heap.size := by obtain ⟨m, hm⟩ := k0; exact DataW.trod_lt m _ _ _ hm
  obtain ⟨f0, hf0⟩ := h0
  obtain ⟨x0, hK0, hG0⟩ := opn49.op hf0
  have e0 := k49_open hK0
  obtain ⟨A0_0, c0_0, A0_1, c0_1, A0_2, c0_2, A0_3, c0_3, e0, hc0_0, hr0_0, hc0_1, hr0_1, hc0_2, hr0_2, hc0_3, hr0_3⟩ := e0
  obtain rfl := agg_cells Try.underlying49 (hval 0 49 v0 rfl rfl) e0
  have k1 := h1
  have lt1 : ∀ x ∈ p1, x.block < W.heap.size := by obtain ⟨m, hm⟩ := k1; exact DataW.trod_lt m _ _ _ hm
  obtain ⟨f1, hf1⟩ := h1
  obtain ⟨x1, hK1, hG1⟩ := opn49.op hf1
  have e1 := k49_open hK1
  obtain ⟨A1_0, c1_0, A1_1, c1_1, A1_2, c1_2, A1_3, c1_3, e1, hc1_0, hr1_0, hc1_1, hr1_1, hc1_2, hr1_2, hc1_3, hr1_3⟩ := e1
  obtain rfl := agg_cells Try.underlying49 (hval 1 49 v1 rfl rfl) e1
  clear hA0 hval0 hsz0
  obtain ⟨k, hk⟩ := Pure.FnExactSameMachines x0 x1 hG0 hG1
  refine (laws_FnExactSameMachines.calls k A0_0 c0_0 x0.f0.f0.f0 A0_1 c0_1 x0.f0.f0.f1 A0_2 c0_2 x0.f0.f1 A0_3 c0_3 x0.f1 A1_0 c1_0 x1.f0.f0.f0 A1_1 c1_1 x1.f0.f0.f1 A1_2 c1_2 x1.f0.f1 A1_3 c1_3 x1.f1 true W hr0_0 hc0_0 hr0_1 hc0_1 hr0_2 hc0_2 hr0_3 hc0_3 hr1_0 hc1_0 hr1_1 hc1_1 hr1_2 hc1_2 hr1_3 hc1_3 hk rfl).mono fun e W' ⟨he, bel0⟩ => ?_
  have bel : Below W.heap.size W W' := bel0
  subst he
  exact ⟨_, rfl, _, _, _, [], _, [], hW', trodAll_mk1 (shut_bool Try.underlying4 _), (trodAll_cons_mk (Below.trod laidOut (by kernel_rfl) (of_decide_eq_true (by kernel_rfl)) k0 bel lt0) (trodAll_cons_mk (Below.trod laidOut (by kernel_rfl) (of_decide_eq_true (by kernel_rfl)) k1 bel lt1) trodAll_mk0)), rfl, bel.frame _, fun h => by cases h⟩
theorem over : Rows.fnExactSameMachinesRow.holds Try.pinned (OpenSpec.ofChange Rows.fnExactSameMachinesSpec) :=
  OpenClaim.holds_of_wide 4 Try.f4 rfl rfl rfl rfl rfl rfl rfl ⟨rfl, rfl, rfl, rfl, rfl⟩ rfl rfl rfl rfl rfl (by kernel_rfl) Try.func4 (by kernel_rfl)
    (of_decide_eq_true (by kernel_rfl)) (by unfold Func.isWrapper; first | (rw [if_pos (by decide +kernel)]; kernel_rfl) | (rw [if_neg (by decide +kernel)]; exact ⟨rfl, rfl⟩))
    (fun os started H enc _ => lifted os started H enc)
theorem proved : Rows.FnExactSameMachinesSaid := over
#print axioms proved
end Go.Proofs.Ytompkmjpikabkaa.fnExactSameMachines
namespace Go.Proofs.Ytompkmjpikabkaa
/-- The row, under a short name, for the claim. -/
theorem fnExactSameMachines_holds : Rows.FnExactSameMachinesSaid := fnExactSameMachines.proved
end Go.Proofs.Ytompkmjpikabkaa
