/-
  Whole functions over abstract values and blocks: what their code leads to, loops, and what is kept of the blocks behind a call; no conditions beyond each lemma's own.
-/
import Derived.Test.YtkecenijjdpfdaaAL14
namespace Go.Proofs.Ytkecenijjdpfdaa.AL
open Go
set_option linter.unusedVariables false
set_option linter.unusedSimpArgs false

/-- Does it change the blocks? -/
def flagOf (mc : Bool) : Op → Bool
  | .box .. | .alloc _ | .buildSlice .. | .makeSlice .. | .store .. => true
  | .call { callee := .builtin .append, .. } | .call { callee := .builtin .copy, .. } | .call { callee := .builtin .clear, .. } => true
  | .call { callee := .value _, .. } => mc
  | _ => false

/-- mc: regions in which calls change the blocks. -/
def vc (P : Program) (T : Tab) (mc : Nat → Bool) : Code → (AX → List AV → Heap → Prop) → List AV → Heap → Prop
  | .skip, Q, t, H => Q .normal t H
  | .region id ops draw, Q, t, H => if draw = true then vcD P T ops ops.toList (ops.toList.map fun o => flagOf (mc id) o.op) t H (Q .normal) else vcOps P T ops ops.toList t H (Q .normal)
  | .seq a b, Q, t, H => vc P T mc a (thenQ (vc P T mc b Q) Q) t H
  | .cond c x y, Q, t, H =>
    match ev t c with
    | .bool b => (b = true → vc P T mc x Q t H) ∧ (b = false → vc P T mc y Q t H)
    | _ => False
  | .block id b, Q, t, H => vc P T mc b (inBlockQ id Q) t H
  | .loop b, Q, t, H => AWp P (.loop b) Q t H
  | .exit id, Q, t, H => Q (.exit id) t H
  | .ret, Q, t, H => Q .ret t H
  | _, _, _, _ => False

def dAll (mc : Nat → Bool) : Code → Bool
  | .region id ops draw => !draw || dOk ops (ops.toList.map fun o => flagOf (mc id) o.op)
  | .seq a b => dAll mc a && dAll mc b
  | .cond _ a b => dAll mc a && dAll mc b
  | .block _ a => dAll mc a
  | _ => true

section
variable {P : Program} {T : Tab} (hT : TOk P T)

include hT in
theorem vc_ok {mc : Nat → Bool} : ∀ (c : Code) (Q : AX → List AV → Heap → Prop) (t : List AV) (H : Heap), dAll mc c = true → vc P T mc c Q t H → AWp P c Q t H
  | .skip, Q, t, H, _, h => awp_skip h
  | .region id ops draw, Q, t, H, hd, h => by
    unfold vc at h
    cases draw with
    | true =>
      rw [if_pos rfl] at h
      exact vcD_ok hT (by simpa [dAll] using hd) h
    | false =>
      rw [if_neg (by simp)] at h
      exact fun ρ F w a r f tr hde => wp_region_list (vcOps_ok hT _ _ _ h ρ F w a r f tr hde)
  | .seq a b, Q, t, H, hd, h => by
    simp only [dAll, Bool.and_eq_true] at hd
    exact awp_seq ((vc_ok a _ t H hd.1 h).mono fun x t' H' hx => by
      cases x with
      | normal => exact vc_ok b Q t' H' hd.2 hx
      | ret => exact hx
      | exit id => exact hx)
  | .cond c x y, Q, t, H, hd, h => by
    simp only [dAll, Bool.and_eq_true] at hd
    unfold vc at h
    split at h
    · rename_i b hb
      exact awp_cond hb (fun e => vc_ok x Q t H hd.1 (h.1 e)) (fun e => vc_ok y Q t H hd.2 (h.2 e))
    · cases h
  | .block id b, Q, t, H, hd, h => awp_block (vc_ok b _ t H hd h)
  | .loop b, Q, t, H, _, h => h
  | .exit id, Q, t, H, _, h => awp_exit h
  | .ret, Q, t, H, _, h => awp_ret h
  | .rangeFunc .., _, _, _, _, h => by simp [vc] at h
  | .scope _, _, _, _, _, h => by simp [vc] at h
  | .label _, _, _, _, _, h => by simp [vc] at h
  | .goto _, _, _, _, _, h => by simp [vc] at h
  | .refuse _, _, _, _, _, h => by simp [vc] at h

/-! ### Results -/
def retOne (T : Tab) (t : List AV) (H : Heap) : ResultVar → Option (Prop × AV)
  | .tmp d => some (True, t.getD d .any)
  | .cell d ty =>
    match T ty with
    | some ti =>
      match rd H (t.getD d .any) ti.size with
      | some cs => some (cs.length = ti.size ∧ (match ti.kind with | .struct _ => True | _ => ti.size = 1), joinT ti cs)
      | none => none
    | none => none

def retAll (T : Tab) (t : List AV) (H : Heap) : List ResultVar → Option (Prop × List AV)
  | [] => some (True, [])
  | r :: rs =>
    match retOne T t H r, retAll T t H rs with
    | some (c, v), some (d, vs) => some (c ∧ d, v :: vs)
    | _, _ => none

def oneOf : List AV → AV
  | [v] => v
  | vs => .tup vs

def resF (a : Array Value) : ResultVar → Sem Value
  | .tmp t => pure (a.getD t undef)
  | .cell d t => do loadVar t (← asAddr (a.getD d undef))

theorem results_eq (fn : Func) (a : Array Value) : results fn a = (do let vs ← fn.results.mapM (resF a); pure (if h : vs.size = 1 then vs[0] else .tuple vs)) := by
  unfold results
  congr 1

include hT in
theorem ret_one {ρ : Ren} {F : Nat → Prop} {H : Heap} {w : World} {t : List AV} {a : Array Value} (r : Rel ρ F H w) (tr : TR ρ F w t a) {x : ResultVar} {C : Prop} {v : AV} (h : retOne T t H x = some (C, v)) (hC : C) :
    ∃ u, (resF a x).run P w = .ok u w ∧ VR ρ F w v u := by
  have get : ∀ d, VR ρ F w (t.getD d .any) (a.getD d undef) := fun d => ev_ok (a := ⟨a, []⟩) tr (.tmp d)
  cases x with
  | tmp d =>
    simp only [retOne, Option.some.injEq, Prod.mk.injEq] at h
    obtain ⟨_, rfl⟩ := h
    exact ⟨_, rfl, get d⟩
  | cell d ty =>
    simp only [retOne] at h
    split at h
    · rename_i ti hti
      split at h
      · rename_i cs hr
        simp only [Option.some.injEq, Prod.mk.injEq] at h
        obtain ⟨rfl, rfl⟩ := h
        obtain ⟨hn, h1⟩ := hC
        obtain ⟨A, us, hu, hsp, hvr, hcf⟩ := rd_ok r (get d) hr hn
        have hl := run_loads (P := P) hsp hcf
        rw [← hvr.1, hn] at hl
        unfold joinT
        cases hk : ti.kind
        case struct fl => exact ⟨.agg us.toArray, by simp [resF, hu, asAddr, loadVar, run_agg hT hti, hk, run_size hT hti, hl], .agg _ _ hvr.1 hvr.2⟩
        all_goals
          rw [hk] at h1
          simp only at h1
          rw [h1] at hn
          obtain ⟨x, rfl⟩ : ∃ x, cs = [x] := by match cs, hn with | [x], _ => exact ⟨x, rfl⟩
          obtain ⟨v, rfl⟩ : ∃ v, us = [v] := by have := hvr.1; match us, this with | [v], _ => exact ⟨v, rfl⟩
          have hc0 := hcf 0 v rfl
          have hA : (⟨A.block, A.off + (0 + 0), none⟩ : Addr) = A := by obtain ⟨b, off, sp⟩ := A; simp only at hsp; subst hsp; rfl
          rw [hA] at hc0
          exact ⟨v, by simp [resF, hu, asAddr, loadVar, run_agg hT hti, hk, hc0], hvr.2 0 x v rfl rfl⟩
      · cases h
    · cases h

include hT in
theorem ret_all {ρ : Ren} {F : Nat → Prop} {H : Heap} {w : World} {t : List AV} {a : Array Value} (r : Rel ρ F H w) (tr : TR ρ F w t a) : ∀ (rs : List ResultVar) (C : Prop) (vs : List AV), retAll T t H rs = some (C, vs) → C →
    ∃ us, (rs.mapM (resF a)).run P w = .ok us w ∧ VRs ρ F w vs us
  | [], C, vs, h, hC => by
    simp only [retAll, Option.some.injEq, Prod.mk.injEq] at h
    obtain ⟨_, rfl⟩ := h
    exact ⟨[], by simp, .nil⟩
  | x :: rs, C, vs, h, hC => by
    simp only [retAll] at h
    split at h
    · rename_i c v d vs' h1 h2
      simp only [Option.some.injEq, Prod.mk.injEq] at h
      obtain ⟨rfl, rfl⟩ := h
      obtain ⟨u, h3, h4⟩ := ret_one hT r tr h1 hC.1
      obtain ⟨us, h5, h6⟩ := ret_all r tr rs _ _ h2 hC.2
      exact ⟨u :: us, by rw [List.mapM_cons, Sem.run_bind, h3]; simp only [Result.andThen_ok]; rw [Sem.run_bind, h5]; rfl, .cons h4 h6⟩
    · cases h

/-- What may be forgotten: from slots and blocks to others that stand for the same memory; seen from where there were the blocks H0. -/
def Wk (H0 : Heap) (t : List AV) (H : Heap) (t' : List AV) (H' : Heap) : Prop :=
  ∀ ρ0 F0 w0, Rel ρ0 F0 H0 w0 → Fresh ρ0 H0 → ∀ ρ F w (us : Array Value), Rel ρ F H w → Fresh ρ H → TR ρ F w t us → Ext ρ0 F0 H0 w0 ρ F H w →
    ∃ ρ' F', Rel ρ' F' H' w ∧ Fresh ρ' H' ∧ TR ρ' F' w t' us ∧ Ext ρ0 F0 H0 w0 ρ' F' H' w

theorem Wk.refl {H0 H : Heap} {t : List AV} : Wk H0 t H t H := fun ρ0 F0 w0 _ _ ρ F w us r f tr e => ⟨ρ, F, r, f, tr, e⟩
theorem Wk.trans {H0 H H1 H2 : Heap} {t t1 t2 : List AV} (h : Wk H0 t H t1 H1) (k : Wk H0 t1 H1 t2 H2) : Wk H0 t H t2 H2 :=
  fun ρ0 F0 w0 r0 f0 ρ F w us r f tr e => by
    obtain ⟨ρ1, F1, r1, f1, tr1, e1⟩ := h ρ0 F0 w0 r0 f0 ρ F w us r f tr e
    exact k ρ0 F0 w0 r0 f0 ρ1 F1 w us r1 f1 tr1 e1

/-- Slots may be forgotten. -/
theorem Wk.any {H0 H : Heap} {t t' : List AV} (hl : t'.length = t.length) (h : ∀ (i : Nat) x, t'[i]? = some x → x = .any ∨ t[i]? = some x) : Wk H0 t H t' H :=
  fun ρ0 F0 w0 r0 f0 ρ F w us r f tr e => ⟨ρ, F, r, f, ⟨by rw [hl]; exact tr.1, fun i x u hx hu => by
    rcases h i x hx with rfl | h
    · exact .any _
    · exact tr.2 i x u h hu⟩, e⟩

include hT in
/-- A function's contract out of its code. -/
theorem adet_of {f : FuncId} {fn : Func} {c : Code} {mc : Nat → Bool} {args : List AV} {H : Heap} {v : AV} {H' : Heap} (hf : P.funcs[f]? = some fn) (hb : fn.body = some c) (hn : fnOk P f = true) (hd : dAll mc c = true)
    (h : vc P T mc c (fun x t1 H1 => (match x with | .exit _ => False | _ => True) ∧ ∃ C vs, retAll T t1 H1 fn.results.toList = some (C, vs) ∧ C ∧ Wk H [oneOf vs] H1 [v] H') (args ++ List.replicate (fn.ntmps - args.length) .any) H) : ADet P f args H v H' := by
  refine ⟨hn, fun ρ F w cargs r fr hv => ?_⟩
  have tr : TR ρ F w (args ++ List.replicate (fn.ntmps - args.length) .any) (cargs.toArray ++ Array.replicate (fn.ntmps - cargs.toArray.size) undef) := by
    refine ⟨by simp [hv.1], fun i x u hx hu => ?_⟩
    rcases Nat.lt_or_ge i args.length with hi | hi
    · rw [List.getElem?_append_left hi] at hx
      rw [Array.getElem?_append_left (by simp; rw [← hv.1]; exact hi)] at hu
      exact hv.2 i x u hx (by simpa using hu)
    · rw [List.getElem?_append_right hi, List.getElem?_replicate] at hx
      split at hx
      · cases hx; exact .any _
      · cases hx
  refine calls_of_wp hf hb (wp_mono (vc_ok hT c _ _ H hd h ρ F w ⟨_, []⟩ r fr tr rfl) ?_)
  rintro e a' w' ⟨x, t', H1, ρ1, F1, rfl, ⟨hx, C, vs, h1, h2, h3⟩, r1, f1, tr1, hd1, e1⟩
  obtain ⟨us, h4, h5⟩ := ret_all hT r1 tr1 fn.results.toList C vs h1 h2
  have hres : ∃ u, (results fn a'.tmps).run P w' = .ok u w' ∧ VR ρ1 F1 w' (oneOf vs) u := by
    have hm : (fn.results.mapM (resF a'.tmps)).run P w' = .ok us.toArray w' := by
      rw [Array.mapM_eq_mapM_toList]
      simp only [Sem.run_map]
      rw [h4]; rfl
    rw [results_eq, Sem.run_bind, hm]
    refine ⟨_, rfl, ?_⟩
    match vs, us, h5 with
    | [x], [u], h5 => exact h5.2 0 x u rfl rfl
    | [], [], h5 => exact .tup _ _ h5.1 h5.2
    | x :: y :: l, u :: v :: us, h5 =>
      rw [dif_neg (by simp)]
      exact .tup _ _ h5.1 h5.2
    | [x], u :: v :: us, h5 => exact absurd h5.1 (by simp)
    | [], u :: us, h5 => exact absurd h5.1 (by simp)
    | x :: l, [], h5 => exact absurd h5.1 (by simp)
    | x :: y :: l, [u], h5 => exact absurd h5.1 (by simp)
  obtain ⟨u, h6, h7⟩ := hres
  obtain ⟨ρ', F', r', f', tr', e'⟩ := h3 ρ F w r fr ρ1 F1 w' #[u] r1 f1 ⟨rfl, fun i x y hx hy => by
    cases i with
    | zero => simp at hx hy; subst hx; subst hy; exact h7
    | succ i => simp at hx⟩ e1
  have hv' : VR ρ' F' w' v u := tr'.2 0 v u rfl rfl
  cases x with
  | exit id => exact hx.elim
  | normal => exact ⟨hd1, u, h6, u, ρ', F', rfl, hv', r', f', e'⟩
  | ret => exact ⟨hd1, u, h6, u, ρ', F', rfl, hv', r', f', e'⟩

/-- A loop: each round begins where its state says, and comes to a smaller one. -/
theorem awp_loop {σ : Type} {c : Code} {Q : AX → List AV → Heap → Prop} (I : σ → List AV) (J : σ → Heap) (μ : σ → Nat) (H0 : Heap)
    (round : ∀ s, AWp P c (fun x t H => match x with | .normal => ∃ s', μ s' < μ s ∧ Wk H0 t H (I s') (J s') | x => Q x t H) (I s) (J s))
    (s0 : σ) {t : List AV} (hb : Wk H0 t H0 (I s0) (J s0)) : AWp P (.loop c) Q t H0 := by
  intro ρ F w a r f tr hd
  let R : Nat → Act → World → Prop := fun n a' w' => ∃ s ρ' F', μ s = n ∧ Rel ρ' F' (J s) w' ∧ Fresh ρ' (J s) ∧ TR ρ' F' w' (I s) a'.tmps ∧ a'.defers = [] ∧ Ext ρ F H0 w ρ' F' (J s) w'
  have hleast : ∀ a' w', (∃ n, R n a' w') → ∃ n, R n a' w' ∧ ∀ m, R m a' w' → n ≤ m := by
    rintro a' w' ⟨n, hn⟩
    induction n using Nat.strongRecOn with
    | _ n ih =>
      by_cases h : ∃ m, m < n ∧ R m a' w'
      · obtain ⟨m, hm, hr⟩ := h; exact ih m hm hr
      · exact ⟨n, hn, fun m hm => Nat.le_of_not_lt fun hlt => h ⟨m, hlt, hm⟩⟩
  classical
  let μ' : Act → World → Nat := fun a' w' => if h : ∃ n, R n a' w' then (hleast a' w' h).choose else 0
  have hμ : ∀ a' w' n, R n a' w' → R (μ' a' w') a' w' ∧ μ' a' w' ≤ n := by
    intro a' w' n hn
    have h : ∃ n, R n a' w' := ⟨n, hn⟩
    have := (hleast a' w' h).choose_spec
    simp only [μ', dif_pos h]
    exact ⟨this.1, this.2 n hn⟩
  refine wp_loop (fun a' w' => ∃ n, R n a' w') μ' ?_ ?_
  · obtain ⟨ρ', F', h1, h2, h3, h4⟩ := hb ρ F w r f ρ F w a.tmps r f tr .refl
    exact ⟨_, s0, ρ', F', rfl, h1, h2, h3, hd, h4⟩
  · rintro a1 w1 ⟨n, hn⟩
    obtain ⟨⟨s, ρ1, F1, hs, r1, f1, tr1, hd1, e1⟩, _⟩ := hμ a1 w1 n hn
    refine wp_mono (round s ρ1 F1 w1 a1 r1 f1 tr1 hd1) ?_
    rintro e a2 w2 ⟨x, t2, H2, ρ2, F2, rfl, hq, r2, f2, tr2, hd2, e2⟩
    cases x with
    | normal =>
      obtain ⟨s', hlt, hwk⟩ := hq
      obtain ⟨ρ', F', h1, h2, h3, h4⟩ := hwk ρ F w r f ρ2 F2 w2 a2.tmps r2 f2 tr2 (e1.trans e2)
      have hr : R (μ s') a2 w2 := ⟨s', ρ', F', rfl, h1, h2, h3, hd2, h4⟩
      refine ⟨⟨_, hr⟩, ?_⟩
      have := (hμ a2 w2 _ hr).2
      omega
    | ret => exact ⟨.ret, t2, H2, ρ2, F2, rfl, hq, r2, f2, tr2, hd2, e1.trans e2⟩
    | exit id => exact ⟨.exit id, t2, H2, ρ2, F2, rfl, hq, r2, f2, tr2, hd2, e1.trans e2⟩
end
end Go.Proofs.Ytkecenijjdpfdaa.AL
