/-
  FnExactSessionOf: the law over its arguments as data: for every input it answers true, and each argument reads as it did. Conditions: the row's own (none of ours).
-/
import Derived.Test.YtkecenijjdpfdaaRows
import Derived.Test.YtkecenijjdpfdaaALK1
import Derived.Test.YtkecenijjdpfdaaALK2
import Derived.Test.YtkecenijjdpfdaaALS1
import Derived.WalkKit
import Derived.ProofKit
import Derived.OpenShut
import Derived.ShutString
import Derived.ChangeOld
import Derived.Below
import Derived.Carry
import Derived.SizedLaws
import Derived.JoinedOf
namespace Go.Proofs.Ytkecenijjdpfdaa.fnExactSessionOf
open Go.ChangeShapes Go.WideShapes Go.ChangeAt Go.RowKit Go.Proofs.Ytkecenijjdpfdaa.AL
set_option linter.unusedVariables false
set_option linter.unusedSimpArgs false
theorem own : ownKnob Try.prog.godebug = none := k_own
theorem laidOut : laidOutB Try.prog = true := k_laid
theorem k_in : (Rows.fnExactSessionOfRow.inPlace == Try.prog.inPlace 8) = true := by kernel_rfl
theorem k_unf : (Rows.fnExactSessionOfRow.unfollowed == Try.prog.unfollowed 8) = true := by kernel_rfl
theorem k_rec : (Rows.fnExactSessionOfRow.recurses == Try.prog.recurses 8) = true := by kernel_rfl
theorem k_named : (Rows.fnExactSessionOfRow.named == Try.prog.varsNamed 8) = true := by kernel_rfl
theorem k_plain2 : (Rows.fnExactSessionOfRow.plainKeys == Try.prog.plainKeys) = true := k_plain
theorem k_lifts2 : (Rows.fnExactSessionOfRow.lifted == Try.prog.liftsFinal) = true := k_lifts
theorem closed : joinedFacts Try.prog 8 Try.f8 Rows.fnExactSessionOfSpec Rows.fnExactSessionOfRow = true := by
  unfold joinedFacts
  simp only [Bool.and_eq_true]
  repeat' (with_reducible apply And.intro)
  all_goals first | with_reducible exact k_laid | with_reducible exact k_maps | with_reducible exact k_stops | with_reducible exact k_enter | with_reducible exact k_in | with_reducible exact k_unf | with_reducible exact k_rec | with_reducible exact k_named | with_reducible exact k_plain2 | with_reducible exact k_lifts2 | kernel_rfl
set_option maxRecDepth 100000 in
theorem lifted (os : Os) (started : os.Started) (H : Type) (enc : TypeId × Value → H) :
    ReturnsInHanded {} Try.checked os 8 .any (Rows.fnExactSessionOfSpec.pre6 enc Try.prog Try.f8 Rows.fnExactSessionOfRow.domain false) (Rows.fnExactSessionOfSpec.post enc Try.prog Try.f8 false true false false) := by
  refine returnsInHanded_of_change_sized (C := Try.checked) own started (by kernel_rfl) Try.func8
    (ChangeSpec.witness6 (enc := enc) (C := Try.checked) false ⟨#[], #[.agg #[.slice none 0 0, .slice none 0 0, .slice none 0 0, .slice none 0 0], .int .i64 0], []⟩ 8 (by kernel_rfl) (by kernel_rfl) (by kernel_rfl) (by kernel_rfl)) ?_
  intro W base args ds gs before hval0 hW hcnd hsz0 _
  have hval : ∀ (j : Nat) t v, Try.f8.params[j]? = some t → args[j]? = some v → Value.okWide Try.prog W .any base t v := hval0
  have hW' := hW
  obtain ⟨p, q, hA0, hV, rfl, hfz, hnd⟩ := hW
  have hA : DataW.TrodAll enc Try.prog W 0 (fun _ => true) true Try.f8.params.toList args.toList ds p := hA0
  rw [Try.params8] at hA hval
  obtain ⟨v0, vs0, d0, ds0, p0, q0, hargs, rfl, rfl, h0, r0⟩ := trodAll_cons hA
  obtain ⟨v1, vs1, d1, ds1, p1, q1, rfl, rfl, rfl, h1, r1⟩ := trodAll_cons r0
  obtain ⟨rfl, rfl, rfl⟩ := trodAll_nil r1
  obtain rfl : args = #[v0, v1] := by cases args; simp_all
  obtain ⟨rfl, rfl⟩ := trodVars_none hV
  have k0 := h0
  have lt0 : ∀ x ∈ p0, x.block < W.heap.size := by obtain ⟨m, hm⟩ := k0; exact DataW.trod_lt m _ _ _ hm
  obtain ⟨f0, hf0⟩ := h0
  obtain ⟨x0, hK0, hG0⟩ := ao77.op hf0
  have y0 : VR (fun _ => none) (· < W.heap.size) W (.agg (eMachine x0)) v0 := by
    rw [agg_cells Try.underlying77 (hval 0 77 v0 rfl rfl) rfl]
    exact .agg _ _ hK0.1 hK0.2
  have k1 := h1
  have lt1 : ∀ x ∈ p1, x.block < W.heap.size := by obtain ⟨m, hm⟩ := k1; exact DataW.trod_lt m _ _ _ hm
  obtain ⟨x1, rfl, rfl, rfl, w1⟩ := open_int Try.underlying2 (hval 1 2 v1 rfl rfl) h1
  clear hA0 hval0 hsz0
  refine (law_calls (lawFnExactSessionOf x0 x1 hG0 w1) (.cons y0 (.cons (.int _ _) .nil))).mono fun e W' ⟨he, bel0⟩ => ?_
  have bel : Below W.heap.size W W' := bel0
  subst he
  exact ⟨_, rfl, _, _, _, [], _, [], hW', trodAll_mk1 (shut_bool Try.underlying4 _), (trodAll_cons_mk (Below.trod laidOut (by kernel_rfl) (of_decide_eq_true (by kernel_rfl)) k0 bel lt0) (trodAll_cons_mk (shut_int Try.underlying2 w1) trodAll_mk0)), rfl, bel.frame _, fun h => by cases h⟩
theorem over : Rows.fnExactSessionOfRow.holds Try.pinned (OpenSpec.ofChange Rows.fnExactSessionOfSpec) :=
  OpenClaim.holds_of_wide 8 Try.f8 rfl rfl rfl rfl rfl rfl rfl ⟨rfl, rfl, rfl, rfl, rfl⟩ rfl rfl rfl rfl rfl (by kernel_rfl) Try.func8 closed
    (of_decide_eq_true (by kernel_rfl)) (by unfold Func.isWrapper; first | (rw [if_pos (by decide +kernel)]; kernel_rfl) | (rw [if_neg (by decide +kernel)]; exact ⟨rfl, rfl⟩))
    (fun os started H enc _ => lifted os started H enc)
theorem proved : Rows.FnExactSessionOfSaid := over
#print axioms proved
end Go.Proofs.Ytkecenijjdpfdaa.fnExactSessionOf
namespace Go.Proofs.Ytkecenijjdpfdaa
/-- The row, under a short name, for the claim. -/
theorem fnExactSessionOf_holds : Rows.FnExactSessionOfSaid := fnExactSessionOf.proved
end Go.Proofs.Ytkecenijjdpfdaa
