/-
  FnExactCountDoers: the law over its arguments as data: for every input it answers true, and each argument reads as it did. Conditions: the row's own (none of ours).
-/
import Derived.Test.YtajhhmoglfgijaaRows
import Derived.Test.YtajhhmoglfgijaaPFnExactCountDoersx9
import Derived.Test.YtajhhmoglfgijaaPureFnExactCountDoers
import Derived.WalkKit
import Derived.ProofKit
import Derived.OpenShut
import Derived.ShutString
import Derived.ChangeOld
import Derived.Below
import Derived.Carry
import Derived.SizedLaws
import Derived.Test.YtajhhmoglfgijaaOpnFnExactCountDoers
namespace Go.Proofs.Ytajhhmoglfgijaa.fnExactCountDoers
open Go.ChangeShapes Go.WideShapes Go.ChangeAt Go.RowKit Go.Proofs.Ytajhhmoglfgijaa.Opn Go.Proofs.Ytajhhmoglfgijaa.PFnExactCountDoers Go.Proofs.YtajhhmoglfgijaaW.PrintWords
set_option linter.unusedVariables false
set_option linter.unusedSimpArgs false
theorem own : ownKnob Try.prog.godebug = none := by kernel_rfl
theorem laidOut : laidOutB Try.prog = true := by kernel_rfl
set_option maxRecDepth 100000 in
theorem lifted (os : Os) (started : os.Started) (H : Type) (enc : TypeId × Value → H) :
    ReturnsInHanded {} Try.checked os 6 .any (Rows.fnExactCountDoersSpec.pre6 enc Try.prog Try.f6 Rows.fnExactCountDoersRow.domain false) (Rows.fnExactCountDoersSpec.post enc Try.prog Try.f6 false true false false) := by
  refine returnsInHanded_of_change_sized (C := Try.checked) own started (by kernel_rfl) Try.func6
    (ChangeSpec.witness6 (enc := enc) (C := Try.checked) false ⟨#[], #[.agg #[.int .i64 0, .int .i64 0, .int .i64 0, .bool false, .int .i64 0, .slice none 0 0, .int .i64 0, .slice none 0 0, .slice none 0 0, .slice none 0 0]], []⟩ 8 (by kernel_rfl) (by kernel_rfl) (by kernel_rfl) (by kernel_rfl)) ?_
  intro W base args ds gs before hval0 hW hcnd hsz0 _
  have hval : ∀ (j : Nat) t v, Try.f6.params[j]? = some t → args[j]? = some v → Value.okWide Try.prog W .any base t v := hval0
  have hW' := hW
  obtain ⟨p, q, hA0, hV, rfl, hfz, hnd⟩ := hW
  have hA : DataW.TrodAll enc Try.prog W 0 (fun _ => true) true Try.f6.params.toList args.toList ds p := hA0
  rw [Try.params6] at hA hval
  obtain ⟨v0, vs0, d0, ds0, p0, q0, hargs, rfl, rfl, h0, r0⟩ := trodAll_cons hA
  obtain ⟨rfl, rfl, rfl⟩ := trodAll_nil r0
  obtain rfl : args = #[v0] := by cases args; simp_all
  obtain ⟨rfl, rfl⟩ := trodVars_none hV
  have k0 := h0
  have lt0 : ∀ x ∈ p0, x.block < W.heap.size := by obtain ⟨m, hm⟩ := k0; exact DataW.trod_lt m _ _ _ hm
  obtain ⟨f0, hf0⟩ := h0
  obtain ⟨x0, hK0, hG0⟩ := opn27.op hf0
  have e0 := k27_open hK0
  obtain ⟨A0_5, c0_5, A0_7, c0_7, A0_8, c0_8, A0_9, c0_9, e0, hc0_5, hr0_5, hc0_7, hr0_7, hc0_8, hr0_8, hc0_9, hr0_9⟩ := e0
  obtain rfl := agg_cells Try.underlying27 (hval 0 27 v0 rfl rfl) e0
  clear hA0 hval0 hsz0
  obtain ⟨k, hk⟩ := Pure.FnExactCountDoers x0 hG0
  refine (laws_FnExactCountDoers.calls k x0.f0 x0.f1 x0.f2 x0.f3 x0.f4 A0_5 c0_5 x0.f5 x0.f6 A0_7 c0_7 x0.f7 A0_8 c0_8 x0.f8 A0_9 c0_9 x0.f9 true W hr0_5 hc0_5 hr0_7 hc0_7 hr0_8 hc0_8 hr0_9 hc0_9 hk rfl).mono fun e W' ⟨he, bel0⟩ => ?_
  have bel : Below W.heap.size W W' := bel0
  subst he
  exact ⟨_, rfl, _, _, _, [], _, [], hW', trodAll_mk1 (shut_bool Try.underlying4 _), (trodAll_cons_mk (Below.trod laidOut (by kernel_rfl) (of_decide_eq_true (by kernel_rfl)) k0 bel lt0) trodAll_mk0), rfl, bel.frame _, fun h => by cases h⟩
theorem over : Rows.fnExactCountDoersRow.holds Try.pinned (OpenSpec.ofChange Rows.fnExactCountDoersSpec) :=
  OpenClaim.holds_of_wide 6 Try.f6 rfl rfl rfl rfl rfl rfl rfl ⟨rfl, rfl, rfl, rfl, rfl⟩ rfl rfl rfl rfl rfl (by kernel_rfl) Try.func6 (by kernel_rfl)
    (of_decide_eq_true (by kernel_rfl)) (by unfold Func.isWrapper; first | (rw [if_pos (by decide +kernel)]; kernel_rfl) | (rw [if_neg (by decide +kernel)]; exact ⟨rfl, rfl⟩))
    (fun os started H enc _ => lifted os started H enc)
theorem proved : Rows.FnExactCountDoersSaid := over
#print axioms proved
end Go.Proofs.Ytajhhmoglfgijaa.fnExactCountDoers
namespace Go.Proofs.Ytajhhmoglfgijaa
/-- The row, under a short name, for the claim. -/
theorem fnExactCountDoers_holds : Rows.FnExactCountDoersSaid := fnExactCountDoers.proved
end Go.Proofs.Ytajhhmoglfgijaa
