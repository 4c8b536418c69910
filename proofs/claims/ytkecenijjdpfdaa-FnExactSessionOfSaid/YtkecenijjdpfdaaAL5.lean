/-
  The table of types held against the program, and what it is that an operation does as told; no conditions beyond each lemma's own.
-/
import Derived.Test.YtkecenijjdpfdaaAL4
namespace Go.Proofs.Ytkecenijjdpfdaa.AL
open Go
set_option linter.unusedVariables false
set_option linter.unusedSimpArgs false

def zcB : Value → AV → Bool
  | .int k n, .int k' n' => k == k' && n == n'
  | .bool b, .bool b' => b == b'
  | .slice none 0 0, .snil => true
  | .pointer none, .nilp => true
  | _, _ => false
def zcsB : List Value → List AV → Bool
  | [], [] => true
  | v :: vs, x :: xs => zcB v x && zcsB vs xs
  | _, _ => false
def kindB (P : Program) : TypeDesc → TK → Bool
  | .int k, .int k' => k == k'
  | .bool, .bool => true
  | .struct fs, .struct l => (fs.toList.map fun f => (f.offset, f.type)) == l && fs.toList.all fun f => (P.info? f.type).isSome
  | .slice e, .slice e' => e == e'
  | .pointer _, .other => true
  | .func .., .other => true
  | _, _ => false
def tiB (P : Program) (t : TypeId) (ti : TI) : Bool :=
  match P.info? t, P.underlying t with
  | some i, some d => i.size == ti.size && i.bytes == ti.bytes && (match i.zero with | some z => zcsB z.cells.toList ti.zero | none => false) && ti.zero.length == ti.size && kindB P d ti.kind
  | _, _ => false

/-- Structs of numbers and bools are compared cell by cell. -/
def EqOk (P : Program) (t : TypeId) (zero : List AV) : Prop :=
  ∀ l l' : List AV, likeL l zero = true → likeL l' zero = true → ∀ (w : World) (x y : Operand),
    (do eqGuard .eql t x y (.agg (l.map conc).toArray) (.agg (l'.map conc).toArray); binOp .eql t (.agg (l.map conc).toArray) (.agg (l'.map conc).toArray) : Sem Value).run P w = .ok (.bool (eqL l l')) w ∧
    (do eqGuard .neq t x y (.agg (l.map conc).toArray) (.agg (l'.map conc).toArray); binOp .neq t (.agg (l.map conc).toArray) (.agg (l'.map conc).toArray) : Sem Value).run P w = .ok (.bool (!eqL l l')) w

structure TOk (P : Program) (T : Tab) : Prop where
  ok : ∀ t ti, T t = some ti → tiB P t ti = true
  eq : ∀ t ti, T t = some ti → ti.eqs = true → EqOk P t ti.zero
  mixed : P.follows .mixedOrders = true

theorem zcB_spec {v : Value} {x : AV} (h : zcB v x = true) : v = conc x ∧ isConc x = true := by
  unfold zcB at h
  split at h <;> simp_all [conc, isConc]

theorem zcsB_spec : ∀ {vs : List Value} {xs : List AV}, zcsB vs xs = true → vs = xs.map conc ∧ xs.all isConc = true
  | [], [], _ => ⟨rfl, rfl⟩
  | v :: vs, x :: xs, h => by
    simp only [zcsB, Bool.and_eq_true] at h
    obtain ⟨h1, h2⟩ := h
    obtain ⟨a, b⟩ := zcB_spec h1
    obtain ⟨c, d⟩ := zcsB_spec h2
    exact ⟨by rw [a, c]; rfl, by simp [b, d]⟩
  | [], _ :: _, h => by simp [zcsB] at h
  | _ :: _, [], h => by simp [zcsB] at h

structure TIs (P : Program) (t : TypeId) (ti : TI) (i : TypeInfo) (d : TypeDesc) (z : Value) : Prop where
  info : P.info? t = some i
  und : P.underlying t = some d
  size : i.size = ti.size
  bytes : i.bytes = ti.bytes
  zero : i.zero = some z
  zcells : z.cells.toList = ti.zero.map conc
  zconc : ti.zero.all isConc = true
  zlen : ti.zero.length = ti.size
  kind : kindB P d ti.kind = true

theorem tiB_spec {P : Program} {t : TypeId} {ti : TI} (h : tiB P t ti = true) : ∃ i d z, TIs P t ti i d z := by
  unfold tiB at h
  split at h
  · rename_i i d hi hd
    simp only [Bool.and_eq_true, beq_iff_eq] at h
    obtain ⟨⟨⟨⟨h1, h2⟩, h3⟩, h4⟩, h5⟩ := h
    split at h3
    · rename_i z hz
      obtain ⟨a, b⟩ := zcsB_spec h3
      exact ⟨i, d, z, hi, hd, h1, h2, hz, a, b, h4, h5⟩
    · cases h3
  · cases h

theorem TOk.get {P : Program} {T : Tab} (h : TOk P T) {t : TypeId} {ti : TI} (ht : T t = some ti) : ∃ i d z, TIs P t ti i d z := tiB_spec (h.ok t ti ht)

theorem kind_get {T : Tab} {t : TypeId} {k : TK} (h : kindOf T t = some k) : ∃ ti, T t = some ti ∧ ti.kind = k := by
  unfold kindOf at h
  cases hT : T t with
  | none => rw [hT] at h; cases h
  | some ti => rw [hT] at h; exact ⟨ti, rfl, by simpa using h⟩

theorem TOk.slice {P : Program} {T : Tab} (h : TOk P T) {t e : TypeId} (ht : kindOf T t = some (.slice e)) : P.underlying t = some (.slice e) := by
  obtain ⟨ti, h1, h2⟩ := kind_get ht
  obtain ⟨i, d, z, k⟩ := h.get h1
  have := k.kind
  rw [h2] at this
  cases d <;> simp [kindB] at this
  subst this
  exact k.und

theorem conc_vr {ρ : Ren} {F : Nat → Prop} {w : World} {x : AV} (h : isConc x = true) : VR ρ F w x (conc x) := by
  cases x <;> simp [isConc] at h <;> simp only [conc] <;> constructor

theorem conc_vrs {ρ : Ren} {F : Nat → Prop} {w : World} {xs : List AV} (h : xs.all isConc = true) : VRs ρ F w xs (xs.map conc) :=
  ⟨by simp, fun i x u hx hu => by
    rw [List.getElem?_map, hx] at hu
    cases hu
    exact conc_vr (List.all_eq_true.1 h x (List.mem_of_getElem? hx))⟩

/-- An operation does as told: from whatever memory that stands for t and H it comes to a value for v, and a memory for H'. -/
def OK (P : Program) (o : Oper) (t : List AV) (H : Heap) (v : AV) (H' : Heap) : Prop :=
  ∀ ρ F w (a : Act) next Q, Rel ρ F H w → Fresh ρ H → TR ρ F w t a.tmps →
    (∀ u w' ρ' F', VR ρ' F' w' v u → Rel ρ' F' H' w' → Fresh ρ' H' → Ext ρ F H w ρ' F' H' w' → next (a.put o.dst u) w') → o.wp P a w next Q

/-- It runs by itself. -/
theorem OK.of_run {P : Program} {o : Oper} {t : List AV} {H H' : Heap} {v : AV}
    (h : ∀ ρ F w (a : Act), Rel ρ F H w → Fresh ρ H → TR ρ F w t a.tmps → ∃ u w' ρ' F', (execOp a.eval o).run P w = .ok (.value u) w' ∧ VR ρ' F' w' v u ∧ Rel ρ' F' H' w' ∧ Fresh ρ' H' ∧ Ext ρ F H w ρ' F' H' w') : OK P o t H v H' := by
  intro ρ F w a next Q r f tr k
  obtain ⟨u, w', ρ', F', h1, h2, h3, h4, h5⟩ := h ρ F w a r f tr
  unfold Oper.wp
  rw [h1]
  exact k u w' ρ' F' h2 h3 h4 h5

theorem OK.of_skip {P : Program} {o : Oper} {t : List AV} {H H' : Heap}
    (h : ∀ ρ F w (a : Act), Rel ρ F H w → Fresh ρ H → TR ρ F w t a.tmps → ∃ w' ρ' F', (execOp a.eval o).run P w = .ok .skip w' ∧ Rel ρ' F' H' w' ∧ Fresh ρ' H' ∧ Ext ρ F H w ρ' F' H' w') : OK P o t H .any H' := by
  intro ρ F w a next Q r f tr k
  obtain ⟨w', ρ', F', h1, h3, h4, h5⟩ := h ρ F w a r f tr
  unfold Oper.wp
  rw [h1]
  exact k undef w' ρ' F' (.any _) h3 h4 h5

/-- It only gives a value. -/
theorem OK.of_val {P : Program} {o : Oper} {t : List AV} {H : Heap} {v : AV}
    (h : ∀ ρ F w (a : Act), Rel ρ F H w → TR ρ F w t a.tmps → ∃ u, (execOp a.eval o).run P w = .ok (.value u) w ∧ VR ρ F w v u) : OK P o t H v H :=
  .of_run fun ρ F w a r f tr => by
    obtain ⟨u, h1, h2⟩ := h ρ F w a r tr
    exact ⟨u, w, ρ, F, h1, h2, r, f, .refl⟩

section inv
variable {ρ : Ren} {F : Nat → Prop} {w : World} {u : Value}
theorem vr_bool {b : Bool} (h : VR ρ F w (.bool b) u) : u = .bool b := by cases h; rfl
theorem vr_int {k : IntKind} {n : Int} (h : VR ρ F w (.int k n) u) : u = .int k n := by cases h; rfl
theorem vr_ptr {id c : Nat} (h : VR ρ F w (.ptr id c) u) : ∃ g, ρ id = some (some g) ∧ u = .pointer (some ⟨g, c, none⟩) := by cases h; exact ⟨_, ‹_›, rfl⟩
theorem vr_eptr {s : AV} {i c : Nat} (h : VR ρ F w (.eptr s i c) u) : ∃ A n cap, VR ρ F w s (.slice (some A) n cap) ∧ i < n ∧ A.spot = none ∧ u = .pointer (some ⟨A.block, A.off + (i * szv s + c), none⟩) := by cases h; exact ⟨_, _, _, ‹_›, ‹_›, ‹_›, rfl⟩
theorem vr_agg {l : List AV} (h : VR ρ F w (.agg l) u) : ∃ us : List Value, u = .agg us.toArray ∧ VRs ρ F w l us := by cases h; exact ⟨_, rfl, ‹_›, ‹_›⟩
theorem vr_tup {l : List AV} (h : VR ρ F w (.tup l) u) : ∃ us : List Value, u = .tuple us.toArray ∧ VRs ρ F w l us := by cases h; exact ⟨_, rfl, ‹_›, ‹_›⟩
theorem vr_func {f : FuncId} {l : List AV} (h : VR ρ F w (.func f l) u) : ∃ us : List Value, u = .func (.func f) #[] us.toArray ∧ VRs ρ F w l us := by cases h; exact ⟨_, rfl, ‹_›, ‹_›⟩
theorem vr_snil (h : VR ρ F w .snil u) : u = .slice none 0 0 := by cases h; rfl
end inv

section ops
variable {P : Program} {T : Tab} (hT : TOk P T) {t : List AV} {H : Heap} {o : Oper}

theorem ok_move (x : Operand) (ho : o.op = .move x ∨ o.op = .assign x) : OK P o t H (ev t x) H :=
  .of_val fun ρ F w a r tr => ⟨a.eval x, by rcases ho with ho | ho <;> simp [execOp, ho], ev_ok tr x⟩

theorem ok_pick (c x y : Operand) (b : Bool) (ho : o.op = .pick c x y) (hc : ev t c = .bool b) : OK P o t H (pickAV b (ev t x) (ev t y)) H :=
  .of_val fun ρ F w a r tr => by
    have h := ev_ok tr c
    rw [hc] at h
    have hb := vr_bool h
    refine ⟨if b then a.eval x else a.eval y, by simp [execOp, ho, hb, asBool], ?_⟩
    have h1 := ev_ok tr x
    have h2 := ev_ok tr y
    cases b
    · have : pickAV false (ev t x) (ev t y) = ev t y := by unfold pickAV; split <;> simp_all
      rw [this]; exact h2
    · have : pickAV true (ev t x) (ev t y) = ev t x := by unfold pickAV; split <;> simp_all
      rw [this]; exact h1

theorem ok_nilCheck (x : Operand) (ho : o.op = .nilCheck x) (hx : (∃ id c, ev t x = .ptr id c) ∨ (∃ s i c, ev t x = .eptr s i c) ∨ ∃ f l, ev t x = .func f l) : OK P o t H (ev t x) H :=
  .of_val fun ρ F w a r tr => by
    have h := ev_ok tr x
    refine ⟨a.eval x, ?_, h⟩
    rcases hx with ⟨id, c, hx⟩ | ⟨s, i, c, hx⟩ | ⟨f, l, hx⟩ <;> rw [hx] at h
    · obtain ⟨g, _, e⟩ := vr_ptr h; simp [execOp, ho, e]
    · obtain ⟨A, n, cap, _, _, _, e⟩ := vr_eptr h; simp [execOp, ho, e]
    · obtain ⟨us, e, _⟩ := vr_func h; simp [execOp, ho, e]

include hT in
theorem run_size {ty : TypeId} {ti : TI} (ht : T ty = some ti) (w : World) : (sizeOf ty).run P w = .ok ti.size w := by
  obtain ⟨i, d, z, k⟩ := hT.get ht
  simp [sizeOf, typeInfo, k.info, k.size]

include hT in
theorem run_agg {ty : TypeId} {ti : TI} (ht : T ty = some ti) (w : World) : (isAgg ty).run P w = .ok (match ti.kind with | .struct _ => true | _ => false) w := by
  obtain ⟨i, d, z, k⟩ := hT.get ht
  have := k.kind
  unfold isAgg
  rw [Sem.run_bind, run_underlying k.und w]
  cases d <;> cases hk : ti.kind <;> simp_all [kindB]

theorem run_loads {w : World} {A : Addr} {us : List Value} (hs : A.spot = none) (hc : CellsFrom w A 0 us) : (loadCells A us.length).run P w = .ok us.toArray w :=
  run_loadCells_list (P := P) w A us (fun j v hv => by
    have := hc j v hv
    rw [Nat.zero_add] at this
    rw [← this]
    obtain ⟨b, off, sp⟩ := A
    simp only at hs
    subst hs
    rw [Addr.add_mid])

include hT in
theorem ok_load (ty : TypeId) (p : Operand) (ti : TI) (cs : List AV) (ho : o.op = .load ty p) (ht : T ty = some ti) (hr : rd H (ev t p) ti.size = some cs) (hn : cs.length = ti.size)
    (h1 : match ti.kind with | .struct _ => True | _ => ti.size = 1) : OK P o t H (joinT ti cs) H :=
  .of_val fun ρ F w a r tr => by
    obtain ⟨A, us, hu, hsp, hvr, hcf⟩ := rd_ok r (ev_ok tr p) hr hn
    have hl := run_loads (P := P) hsp hcf
    rw [← hvr.1, hn] at hl
    unfold joinT
    cases hk : ti.kind
    case struct fl =>
      refine ⟨.agg us.toArray, ?_, .agg _ _ hvr.1 hvr.2⟩
      simp [execOp, ho, hu, Instr.loadAt, Instr.sureAddr, loadVar, run_agg hT ht, hk, run_size hT ht, hl]
    all_goals
      rw [hk] at h1
      simp only at h1
      rw [h1] at hn
      obtain ⟨x, rfl⟩ : ∃ x, cs = [x] := by match cs, hn with | [x], _ => exact ⟨x, rfl⟩
      obtain ⟨v, rfl⟩ : ∃ v, us = [v] := by have := hvr.1; match us, this with | [v], _ => exact ⟨v, rfl⟩
      have hc0 := hcf 0 v rfl
      have hA : (⟨A.block, A.off + (0 + 0), none⟩ : Addr) = A := by obtain ⟨b, off, sp⟩ := A; simp only at hsp; subst hsp; rfl
      rw [hA] at hc0
      refine ⟨v, ?_, hvr.2 0 x v rfl rfl⟩
      simp [execOp, ho, hu, Instr.loadAt, Instr.sureAddr, loadVar, run_agg hT ht, hk, hc0]

end ops
end Go.Proofs.Ytkecenijjdpfdaa.AL
