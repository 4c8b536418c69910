/-
  Regions that draw their order: any order comes to what the listed one does; no conditions beyond each lemma's own.
-/
import Derived.Test.YtkecenijjdpfdaaAL13
namespace Go.Proofs.Ytkecenijjdpfdaa.AL
open Go
set_option linter.unusedVariables false
set_option linter.unusedSimpArgs false

/-- The slots behind those of the first k operations that S says. -/
def foldT (ops : Array Oper) (vS : Nat → AV) (t : List AV) (S : Nat → Bool) : Nat → List AV
  | 0 => t
  | k + 1 => if S k then putA (foldT ops vS t S k) (gslot ops k) (vS k) else foldT ops vS t S k

def foldH (fl : List Bool) (HS : Nat → Heap) (S : Nat → Bool) : Nat → Heap
  | 0 => HS 0
  | k + 1 => if S k && fl.getD k false then HS (k + 1) else foldH fl HS S k

theorem putA_len (t : List AV) (d : Option Tmp) (v : AV) : (putA t d v).length = t.length := by cases d <;> simp [putA]

theorem putA_ne {t : List AV} {dst : Option Tmp} {v : AV} {d : Nat} (h : dst ≠ some d) : (putA t dst v)[d]? = t[d]? := by
  cases dst with
  | none => rfl
  | some e => simp only [putA]; rw [List.getElem?_set_ne (by rintro rfl; exact h rfl)]

theorem foldT_len {ops : Array Oper} {vS : Nat → AV} {t : List AV} {S : Nat → Bool} : ∀ k, (foldT ops vS t S k).length = t.length
  | 0 => rfl
  | k + 1 => by unfold foldT; split <;> simp [putA_len, foldT_len k]

section
variable {ops : Array Oper} {vS : Nat → AV} {tS : Nat → List AV} {HS : Nat → Heap} {fl : List Bool} {S : Nat → Bool}

theorem fold_A (hstep : ∀ k, k < ops.size → tS (k + 1) = putA (tS k) (gslot ops k) (vS k)) {d : Nat} : ∀ i, i ≤ ops.size → (∀ j, j < i → gslot ops j = some d → S j = true) → (foldT ops vS (tS 0) S i)[d]? = (tS i)[d]?
  | 0, _, _ => rfl
  | k + 1, hk, h => by
    have ih := fold_A hstep k (by omega) (fun j hj => h j (by omega))
    unfold foldT
    rw [hstep k (by omega)]
    by_cases hd : gslot ops k = some d
    · rw [if_pos (h k (by omega) hd), hd]
      simp only [putA]
      rw [List.getElem?_set, List.getElem?_set]
      have hl : (foldT ops vS (tS 0) S k).length = (tS k).length := by
        have e : ∀ j, j ≤ ops.size → (tS j).length = (tS 0).length := fun j => by
          induction j with
          | zero => intro _; rfl
          | succ j ihj => intro hj; rw [hstep j (by omega), putA_len]; exact ihj (by omega)
        rw [foldT_len, e k (by omega)]
      rw [if_pos rfl, if_pos rfl, hl]
    · split
      · rw [putA_ne hd, putA_ne hd]; exact ih
      · rw [putA_ne hd]; exact ih

theorem fold_B {t : List AV} {d i : Nat} : ∀ n, i ≤ n → (∀ j, i ≤ j → j < n → S j = true → gslot ops j ≠ some d) → (foldT ops vS t S n)[d]? = (foldT ops vS t S i)[d]?
  | 0, h, _ => by rw [Nat.le_zero.1 h]
  | n + 1, h, hno => by
    rcases Nat.lt_or_ge i (n + 1) with hi | hi
    · have ih := fold_B (t := t) n (by omega) (fun j h1 h2 => hno j h1 (by omega))
      rw [foldT]
      split
      · rename_i hs
        rw [putA_ne (hno n (by omega) (by omega) hs)]
        exact ih
      · exact ih
    · rw [show i = n + 1 by omega]

/-- With one more. -/
theorem fold_C {t : List AV} {S' : Nat → Bool} {i d : Nat} (hS : ∀ j, j ≠ i → S' j = S j) (hi : S i = false) (hd : gslot ops i ≠ some d) : ∀ n, (foldT ops vS t S' n)[d]? = (foldT ops vS t S n)[d]?
  | 0 => rfl
  | n + 1 => by
    have ih := fold_C (t := t) hS hi hd n
    unfold foldT
    by_cases hn : n = i
    · subst hn
      rw [hi]
      simp only [Bool.false_eq_true, if_false]
      split
      · rw [putA_ne hd]; exact ih
      · exact ih
    · rw [hS n hn]
      split
      · cases hg : gslot ops n with
        | none => exact ih
        | some e =>
          simp only [putA]
          rw [List.getElem?_set, List.getElem?_set, foldT_len, foldT_len, ih]
      · exact ih

theorem foldH_A (hstep : ∀ k, k < ops.size → fl.getD k false = true ∨ HS (k + 1) = HS k) : ∀ i, i ≤ ops.size → (∀ j, j < i → fl.getD j false = true → S j = true) → foldH fl HS S i = HS i
  | 0, _, _ => rfl
  | k + 1, hk, h => by
    have ih := foldH_A hstep k (by omega) (fun j hj => h j (by omega))
    unfold foldH
    rcases hstep k (by omega) with h1 | h1
    · rw [h1, h k (by omega) h1]; rfl
    · split
      · rfl
      · rw [ih, h1]

theorem foldH_B {i : Nat} : ∀ n, i ≤ n → (∀ j, i ≤ j → j < n → S j = true → fl.getD j false = false) → foldH fl HS S n = foldH fl HS S i
  | 0, h, _ => by rw [Nat.le_zero.1 h]
  | n + 1, h, hno => by
    rcases Nat.lt_or_ge i (n + 1) with hi | hi
    · have ih := foldH_B n (by omega) (fun j h1 h2 => hno j h1 (by omega))
      rw [foldH]
      have : (S n && fl.getD n false) = false := by
        cases hs : S n with
        | false => rfl
        | true => rw [hno n (by omega) (by omega) hs]; rfl
      rw [this]
      simp only [Bool.false_eq_true, if_false]
      exact ih
    · rw [show i = n + 1 by omega]

theorem foldH_C {S' : Nat → Bool} {i : Nat} (hS : ∀ j, j ≠ i → S' j = S j) (hi : S i = false) (hf : fl.getD i false = false) : ∀ n, foldH fl HS S' n = foldH fl HS S n
  | 0 => rfl
  | n + 1 => by
    have ih := foldH_C hS hi hf n
    unfold foldH
    by_cases hn : n = i
    · subst hn; rw [hf, hi]; simp [ih]
    · rw [hS n hn, ih]
end

/-- The facts of the check. -/
structure DFacts (ops : Array Oper) (fl : List Bool) : Prop where
  edge : ∀ (i : Nat) o e, ops[i]? = some o → e ∈ o.after → Region.binds .any e = true → e.on < i
  dep : ∀ (i : Nat) o j, ops[i]? = some o → j ∈ (depsOf ops).getD i [] → ∃ e ∈ o.after, Region.binds .any e = true ∧ (e.on = j ∨ j ∈ (depsOf ops).getD e.on [])
  slot : ∀ (i : Nat) o d j, ops[i]? = some o → (d ∈ rdsOf ops o ∨ o.dst = some d) → j < ops.size → j ≠ i → gslot ops j = some d → (i < j → i ∈ (depsOf ops).getD j []) ∧ (j < i → j ∈ (depsOf ops).getD i [])
  plain : ∀ (i : Nat) o, ops[i]? = some o → fl.getD i false = true → isPure o.op = false ∧ o.guard = none
  flag : ∀ (i j : Nat), i < ops.size → fl.getD i false = true → j < ops.size → j ≠ i → pureAt ops j = false → (i < j → i ∈ (depsOf ops).getD j []) ∧ (j < i → j ∈ (depsOf ops).getD i [])

theorem mem_deps {ops : Array Oper} {i j : Nat} : j ∈ (depsOf ops).getD i [] ↔ j < ops.size ∧ ((depsM ops).getD i 0).testBit j = true := by
  unfold depsOf
  simp only [List.getD_eq_getElem?_getD, List.getElem?_map]
  cases (depsM ops)[i]? with
  | none => simp
  | some m => simp [List.mem_filter]

theorem orEdges_bit {acc : List Nat} {j : Nat} : ∀ (es : List Nat) (m : Nat), (es.foldl (fun m e => m ||| (1 <<< e) ||| acc.getD e 0) m).testBit j = true → m.testBit j = true ∨ ∃ e ∈ es, e = j ∨ (acc.getD e 0).testBit j = true
  | [], m, h => .inl h
  | e :: es, m, h => by
    rw [List.foldl_cons] at h
    rcases orEdges_bit es _ h with h1 | ⟨e', he, h1⟩
    · simp only [Nat.testBit_or, Bool.or_eq_true] at h1
      rcases h1 with (h1 | h1) | h1
      · exact .inl h1
      · refine .inr ⟨e, List.mem_cons_self .., .inl ?_⟩
        rw [Nat.testBit_shiftLeft] at h1
        simp only [Bool.and_eq_true, decide_eq_true_eq, ge_iff_le, Nat.testBit_one_eq_true_iff_self_eq_zero] at h1
        omega
      · exact .inr ⟨e, List.mem_cons_self .., .inr h1⟩
    · exact .inr ⟨e', List.mem_cons_of_mem _ he, h1⟩

theorem mem_edges {o : Oper} {k : Nat} : k ∈ edgesOf o ↔ ∃ e ∈ o.after, Region.binds .any e = true ∧ e.on = k := by
  unfold edgesOf
  simp only [List.mem_map, List.mem_filter, Array.mem_toList_iff]
  exact ⟨fun ⟨e, ⟨h1, h2⟩, h3⟩ => ⟨e, h1, h2, h3⟩, fun ⟨e, h1, h2, h3⟩ => ⟨e, ⟨h1, h2⟩, h3⟩⟩

theorem cmpM_spec {ops : Array Oper} {i j : Nat} (hi : i < ops.size) (hj : j < ops.size) (h : cmpM (depsM ops) i j = true) : (i < j → i ∈ (depsOf ops).getD j []) ∧ (j < i → j ∈ (depsOf ops).getD i []) := by
  unfold cmpM at h
  split at h
  · rename_i hlt
    have hlt' : i < j := Nat.blt_eq.mp hlt
    exact ⟨fun _ => mem_deps.2 ⟨hi, h⟩, fun h' => by omega⟩
  · rename_i hge
    have hge' : ¬ i < j := fun h => hge (Nat.blt_eq.mpr h)
    exact ⟨fun h' => absurd h' hge', fun _ => mem_deps.2 ⟨hj, h⟩⟩

theorem slotsOk_spec {D : List Nat} {i d : Nat} : ∀ {S : List (Option Tmp)} {k : Nat}, slotsOk D i d S k = true → ∀ j, S[j]? = some (some d) → k + j ≠ i → cmpM D i (k + j) = true
  | [], k, _, j, h, _ => by simp at h
  | s :: ss, k, h, j, hs, hne => by
    simp only [slotsOk, Bool.and_eq_true] at h
    cases j with
    | zero =>
      simp only [List.getElem?_cons_zero, Option.some.injEq] at hs
      subst hs
      have h1 := h.1
      simp only [Bool.or_eq_true, Bool.not_eq_true'] at h1
      rcases h1 with (h1 | h1) | h1
      · rw [Nat.beq_refl] at h1; cases h1
      · exact absurd (Nat.eq_of_beq_eq_true h1) hne
      · exact h1
    | succ j =>
      have := slotsOk_spec h.2 j (by simpa using hs) (by omega)
      rwa [show k + 1 + j = k + (j + 1) by omega] at this

theorem pureOk_spec {D : List Nat} {i : Nat} : ∀ {os : List Oper} {k : Nat}, pureOk D i os k = true → ∀ j o, os[j]? = some o → k + j ≠ i → isPure o.op = false → cmpM D i (k + j) = true
  | [], k, _, j, o, h, _, _ => by simp at h
  | s :: ss, k, h, j, o, hs, hne, hp => by
    simp only [pureOk, Bool.and_eq_true] at h
    cases j with
    | zero =>
      simp only [List.getElem?_cons_zero, Option.some.injEq] at hs
      subst hs
      have h1 := h.1
      simp only [Bool.or_eq_true] at h1
      rcases h1 with (h1 | h1) | h1
      · exact absurd (Nat.eq_of_beq_eq_true h1) hne
      · rw [hp] at h1; cases h1
      · exact h1
    | succ j =>
      have := pureOk_spec h.2 j o (by simpa using hs) (by omega) hp
      rwa [show k + 1 + j = k + (j + 1) by omega] at this

theorem opersOk_spec {ops : Array Oper} {D : List Nat} {S : List (Option Tmp)} {fl : List Bool} : ∀ {os : List Oper} {k : Nat}, opersOk ops D S fl os k = true → ∀ (j : Nat) o, os[j]? = some o →
    (∀ e ∈ edgesOf o, e < k + j) ∧ D.getD (k + j) 0 = orEdges D (edgesOf o) ∧ (∀ d ∈ rdsOf ops o ++ o.dst.toList, slotsOk D (k + j) d S 0 = true) ∧
      (fl.getD (k + j) false = true → isPure o.op = false ∧ o.guard = none ∧ pureOk D (k + j) ops.toList 0 = true)
  | [], k, _, j, o, h => by simp at h
  | s :: ss, k, h, j, o, hs => by
    simp only [opersOk, Bool.and_eq_true] at h
    cases j with
    | zero =>
      simp only [List.getElem?_cons_zero, Option.some.injEq] at hs
      subst hs
      obtain ⟨⟨⟨⟨h1, h2⟩, h3⟩, h4⟩, _⟩ := h
      refine ⟨fun e he => Nat.blt_eq.mp (List.all_eq_true.1 h1 e he), Nat.eq_of_beq_eq_true h2, fun d hd => List.all_eq_true.1 h3 d hd, fun hf => ?_⟩
      rw [Nat.add_zero] at hf
      rw [hf] at h4
      simp only [Bool.not_true, Bool.false_or, Bool.and_eq_true, Bool.not_eq_true', Option.isNone_iff_eq_none] at h4
      exact ⟨h4.1.1, h4.1.2, h4.2⟩
    | succ j =>
      have := opersOk_spec h.2 j o (by simpa using hs)
      rwa [show k + 1 + j = k + (j + 1) by omega] at this

theorem dOk_spec {ops : Array Oper} {fl : List Bool} (h : dOk ops fl = true) : DFacts ops fl := by
  unfold dOk at h
  have key : ∀ (i : Nat) o, ops[i]? = some o → i < ops.size := fun i o ho => (Array.getElem?_eq_some_iff.1 ho).1
  have get := fun (i : Nat) o (ho : ops[i]? = some o) => opersOk_spec h i o (by simpa using ho)
  simp only [Nat.zero_add] at get
  refine ⟨fun i o e ho he hb => ?_, fun i o j ho hj => ?_, fun i o d j ho hd hj hji hg => ?_, fun i o ho hf => ?_, fun i j hi hf hj hji hp => ?_⟩
  · exact (get i o ho).1 e.on (mem_edges.2 ⟨e, he, hb, rfl⟩)
  · obtain ⟨hjl, hbit⟩ := mem_deps.1 hj
    rw [(get i o ho).2.1] at hbit
    rcases orEdges_bit _ _ hbit with h0 | ⟨k, hk, h1⟩
    · simp at h0
    · obtain ⟨e, he, hb, rfl⟩ := mem_edges.1 hk
      refine ⟨e, he, hb, ?_⟩
      rcases h1 with h1 | h1
      · exact .inl h1
      · exact .inr (mem_deps.2 ⟨hjl, h1⟩)
  · have h1 := (get i o ho).2.2.1 d (by simp only [List.mem_append, Option.mem_toList]; exact hd)
    have h2 := slotsOk_spec h1 j (by
      unfold gslot at hg
      have ho' := Array.getElem?_eq_getElem hj
      rw [ho'] at hg
      simp only [List.getElem?_map, Array.getElem?_toList, ho', Option.map_some]
      simpa using hg) (by omega)
    rw [Nat.zero_add] at h2
    exact cmpM_spec (key i o ho) hj h2
  · exact ⟨((get i o ho).2.2.2 hf).1, ((get i o ho).2.2.2 hf).2.1⟩
  · have ho := Array.getElem?_eq_getElem hi
    have ho' := Array.getElem?_eq_getElem hj
    have h1 := ((get i _ ho).2.2.2 hf).2.2
    have h2 := pureOk_spec h1 j ops[j] (by rw [Array.getElem?_toList]; exact ho') (by omega) (by unfold pureAt at hp; rw [ho'] at hp; simpa using hp)
    rw [Nat.zero_add] at h2
    exact cmpM_spec hi hj h2

/-- The slots that are looked at, and nothing of the others. -/
def maskT (ns : List Tmp) (t : List AV) : List AV := (List.range t.length).map fun d => if d ∈ ns then t.getD d .any else .any

theorem maskT_get {ns : List Tmp} {t : List AV} {d : Nat} {x : AV} (h : (maskT ns t)[d]? = some x) : x = .any ∨ (d ∈ ns ∧ t[d]? = some x) := by
  unfold maskT at h
  rw [List.getElem?_map, Option.map_eq_some_iff] at h
  obtain ⟨e, he, hx⟩ := h
  have hlt : d < t.length := by have := (List.getElem?_eq_some_iff.1 he).1; simpa using this
  rw [List.getElem?_range hlt] at he
  cases he
  split at hx
  · rename_i hn
    right
    refine ⟨hn, ?_⟩
    rw [List.getElem?_eq_getElem hlt, ← hx, List.getD_eq_getElem?_getD, List.getElem?_eq_getElem hlt]; rfl
  · exact .inl hx.symm

theorem maskT_ev {op : Op} {ns : List Tmp} {t : List AV} (hns : ∀ d ∈ opTmps op, d ∈ ns) : ∀ x ∈ op.operands.toList, ev (maskT ns t) x = ev t x := by
  intro x hx
  cases x with
  | tmp d =>
    have hd : d ∈ ns := hns d (by unfold opTmps; rw [List.mem_filterMap]; exact ⟨.tmp d, hx, rfl⟩)
    simp only [ev]
    rcases Nat.lt_or_ge d t.length with hl | hl
    · have : (maskT ns t)[d]? = some (t.getD d .any) := by
        unfold maskT
        rw [List.getElem?_map, List.getElem?_range hl]
        simp [hd]
      rw [List.getD_eq_getElem?_getD, this]; rfl
    · have h1 : (maskT ns t)[d]? = none := List.getElem?_eq_none (by unfold maskT; simpa using hl)
      rw [List.getD_eq_getElem?_getD, h1, List.getD_eq_getElem?_getD, List.getElem?_eq_none hl]
  | _ => rfl

def unl (listed : Array Bool) (n : Nat) : Nat := ((List.range n).filter fun i => !listed.getD i true).length

theorem unl_set {listed : Array Bool} {n i : Nat} (hn : listed.size = n) (hi : listed.getD i true = false) : unl (listed.setIfInBounds i true) n < unl listed n := by
  have hlt : i < listed.size := by
    rcases Nat.lt_or_ge i listed.size with h | h
    · exact h
    · simp [Array.getElem?_eq_none h] at hi
  unfold unl
  have hsub : (List.range n).filter (fun j => !(listed.setIfInBounds i true).getD j true) = ((List.range n).filter fun j => !listed.getD j true).filter (fun j => j != i) := by
    rw [List.filter_filter]
    apply List.filter_congr
    intro j _
    by_cases hji : j = i
    · subst hji; simp [hlt]
    · have : (listed.setIfInBounds i true).getD j true = listed.getD j true := by simp [Array.getElem?_setIfInBounds, Ne.symm hji]
      rw [this]; simp [hji]
  rw [hsub]
  refine List.length_filter_lt_length_iff_exists.2 ⟨i, ?_, by simp⟩
  rw [List.mem_filter]
  exact ⟨by simp; omega, by rw [hi]; rfl⟩

section main
variable {P : Program} {T : Tab} (hT : TOk P T)

include hT in
theorem vcD_ok {ops : Array Oper} {fl : List Bool} (hok : dOk ops fl = true) {Q : AX → List AV → Heap → Prop} {t : List AV} {H : Heap} (h : vcD P T ops ops.toList fl t H (Q .normal)) {id : Nat} : AWp P (.region id ops true) Q t H := by
  intro ρ0 F0 w0 a0 r0 f0 tr0 hd0
  obtain ⟨tS, HS, vS, ht0, hH0, hsteps, hfin⟩ := plan_of hT ops.toList fl t H h
  have D := dOk_spec hok
  have hlen : ops.toList.length = ops.size := Array.length_toList
  have hstepAt : ∀ (k : Nat) o, ops[k]? = some o → StepOk P ops o (fl.getD k false) (tS k) (HS k) (vS k) (tS (k + 1)) (HS (k + 1)) := fun k o hk => hsteps k o (by simpa using hk)
  have hslot : ∀ (k : Nat) o, ops[k]? = some o → gslot ops k = o.dst := fun k o hk => by simp [gslot, hk]
  have hstT : ∀ k, k < ops.size → tS (k + 1) = putA (tS k) (gslot ops k) (vS k) := fun k hk => by
    have ho := Array.getElem?_eq_getElem hk
    rw [hslot k _ ho]; exact (hstepAt k _ ho).1
  have hstH : ∀ k, k < ops.size → fl.getD k false = true ∨ HS (k + 1) = HS k := fun k hk => (hstepAt k _ (Array.getElem?_eq_getElem hk)).2.1
  have htl : ∀ j, j ≤ ops.size → (tS j).length = (tS 0).length := fun j => by
    induction j with
    | zero => intro _; rfl
    | succ j ihj => intro hj; rw [hstT j (by omega), putA_len]; exact ihj (by omega)
  refine wp_region_any hT.mixed ?_
  -- what holds behind those that have come up
  let Inv : Array Bool → Act → World → Prop := fun listed a w =>
    listed.size = ops.size ∧ (∀ i j, listed.getD i true = true → i < ops.size → j ∈ (depsOf ops).getD i [] → j < ops.size → listed.getD j true = true) ∧
    ∃ ρ F, Rel ρ F (foldH fl HS (fun i => listed.getD i false) ops.size) w ∧ Fresh ρ (foldH fl HS (fun i => listed.getD i false) ops.size) ∧
      TR ρ F w (foldT ops vS (tS 0) (fun i => listed.getD i false) ops.size) a.tmps ∧ a.defers = [] ∧ Ext ρ0 F0 H w0 ρ F (foldH fl HS (fun i => listed.getD i false) ops.size) w
  have hgd : ∀ (listed : Array Bool) i, i < listed.size → listed.getD i false = listed.getD i true := fun listed i hi => by simp [hi]
  have main : ∀ fuel listed a w, Inv listed a w → unl listed ops.size ≤ fuel → wpAny P .any ops (Post Q ρ0 F0 H w0) fuel listed a w := by
    -- all have come up
    have last : ∀ listed a w, Inv listed a w → (∀ i, i < ops.size → listed.getD i true = true) → Post Q ρ0 F0 H w0 .normal a w := by
      rintro listed a w ⟨hsz, _, ρ, F, r, f, tr, hd, e⟩ hall
      have hA : ∀ j, j < ops.size → listed.getD j false = true := fun j hj => by rw [hgd listed j (by omega)]; exact hall j hj
      have e1 : foldH fl HS (fun i => listed.getD i false) ops.size = HS ops.size := foldH_A hstH ops.size (Nat.le_refl _) (fun j hj _ => hA j hj)
      have e2 : foldT ops vS (tS 0) (fun i => listed.getD i false) ops.size = tS ops.size := by
        apply List.ext_getElem?
        intro d
        exact fold_A hstT ops.size (Nat.le_refl _) (fun j hj _ => hA j hj)
      rw [e1] at r f e
      rw [e2] at tr
      rw [hlen] at hfin
      exact ⟨.normal, _, _, ρ, F, rfl, hfin, r, f, tr, hd, e⟩
    have noReady : ∀ listed : Array Bool, listed.size = ops.size → Region.ready .any ops listed = [] → ∀ i, i < ops.size → listed.getD i true = true := by
      intro listed hsz hr i
      induction i using Nat.strongRecOn with
      | _ i ih =>
        intro hi
        cases hl : listed.getD i true with
        | true => rfl
        | false =>
          have ho := Array.getElem?_eq_getElem hi
          have : i ∈ Region.ready .any ops listed := mem_ready.2 ⟨hl, _, ho, fun e he hb => by
            have hlt := D.edge i _ e ho he hb
            rw [hgd listed e.on (by omega)]
            exact ih e.on hlt (by omega)⟩
          rw [hr] at this
          cases this
    intro fuel
    induction fuel with
    | zero =>
      intro listed a w hI hu
      have hall : ∀ i, i < ops.size → listed.getD i true = true := by
        intro i hi
        cases hl : listed.getD i true with
        | true => rfl
        | false =>
          have : i ∈ (List.range ops.size).filter fun i => !listed.getD i true := by rw [List.mem_filter]; exact ⟨by simpa using hi, by rw [hl]; rfl⟩
          have h0 : ((List.range ops.size).filter fun i => !listed.getD i true) = [] := List.eq_nil_of_length_eq_zero (by unfold unl at hu; omega)
          rw [h0] at this
          cases this
      refine ⟨?_, last listed a w hI hall⟩
      apply List.eq_nil_iff_forall_not_mem.2
      intro i hi
      obtain ⟨h1, o, ho, _⟩ := mem_ready.1 hi
      rw [hall i (Array.getElem?_eq_some_iff.1 ho).1] at h1
      cases h1
    | succ fuel ih =>
      intro listed a w hI hu
      refine ⟨fun hr => last listed a w hI (noReady listed hI.1 hr), fun i hi => ?_⟩
      obtain ⟨hun, o, ho, hall⟩ := mem_ready.1 hi
      obtain ⟨hsz, hdown, ρ, F, r, f, tr, hd, e⟩ := hI
      have hilt : i < ops.size := (Array.getElem?_eq_some_iff.1 ho).1
      -- what it waits for has come up
      have hdeps : ∀ j, j ∈ (depsOf ops).getD i [] → j < ops.size → listed.getD j true = true := by
        intro j hj hjl
        obtain ⟨ed, he, hb, h1⟩ := D.dep i o j ho hj
        have hel := hall ed he hb
        have hlt := D.edge i o ed ho he hb
        rw [hgd listed ed.on (by omega)] at hel
        rcases h1 with rfl | h1
        · exact hel
        · exact hdown ed.on j hel (by omega) h1 hjl
      -- and what waits for it has not
      have hafter : ∀ j, j < ops.size → listed.getD j true = true → i ∈ (depsOf ops).getD j [] → False := by
        intro j hj hl hij
        have := hdown j i hl hj hij hilt
        rw [hun] at this
        cases this
      -- its slots
      have hnames : ∀ d, (d ∈ rdsOf ops o ∨ o.dst = some d) → (foldT ops vS (tS 0) (fun i => listed.getD i false) ops.size)[d]? = (tS i)[d]? := by
        intro d hdn
        have h1 := fold_B (ops := ops) (vS := vS) (S := fun i => listed.getD i false) (t := tS 0) (d := d) (i := i) ops.size (by omega) (fun j h1 h2 hs hg => by
          by_cases hji : j = i
          · subst hji; rw [hgd listed j (by omega), hun] at hs; cases hs
          · rw [hgd listed j (by omega)] at hs
            exact hafter j h2 hs ((D.slot i o d j ho hdn h2 hji hg).1 (by omega)))
        rw [h1]
        exact fold_A hstT i (by omega) (fun j hj hg => by
          rw [hgd listed j (by omega)]
          exact hdeps j ((D.slot i o d j ho hdn (by omega) (by omega) hg).2 hj) (by omega))
      have hS' : ∀ j, j ≠ i → (fun k => (listed.setIfInBounds i true).getD k false) j = (fun k => listed.getD k false) j := fun j hj => by
        simp [Array.getElem?_setIfInBounds, Ne.symm hj]
      have hSi : (fun k => listed.getD k false) i = false := by simp only; rw [hgd listed i (by omega)]; exact hun
      have hSi' : (fun k => (listed.setIfInBounds i true).getD k false) i = true := by simp; omega
      have hsz' : (listed.setIfInBounds i true).size = ops.size := by simp [hsz]
      have hdown' : ∀ i' j, (listed.setIfInBounds i true).getD i' true = true → i' < ops.size → j ∈ (depsOf ops).getD i' [] → j < ops.size → (listed.setIfInBounds i true).getD j true = true := by
        intro i' j h1 h2 h3 h4
        have get : ∀ k, k ≠ i → (listed.setIfInBounds i true).getD k true = listed.getD k true := fun k hk => by simp [Array.getElem?_setIfInBounds, Ne.symm hk]
        by_cases hji : j = i
        · subst hji; simp
        · rw [get j hji]
          by_cases hii : i' = i
          · subst hii; exact hdeps j h3 h4
          · rw [get i' hii] at h1; exact hdown i' j h1 h2 h3 h4
      have hu' : unl (listed.setIfInBounds i true) ops.size ≤ fuel := by have := unl_set hsz hun; omega
      -- the slots behind it
      have hT' : ∀ {ρ' : Ren} {F' : Nat → Prop} {w' : World} {u : Value}, TR ρ' F' w' (foldT ops vS (tS 0) (fun i => listed.getD i false) ops.size) a.tmps → VR ρ' F' w' (vS i) u → TR ρ' F' w' (foldT ops vS (tS 0) (fun k => (listed.setIfInBounds i true).getD k false) ops.size) (a.put o.dst u).tmps := by
        intro ρ' F' w' u tr' hv
        refine ⟨by
          have := tr'.1
          rw [foldT_len] at this ⊢
          rw [this]
          cases o.dst <;> simp [Act.put], fun d x y hx hy => ?_⟩
        by_cases hdd : gslot ops i = some d
        · -- its own slot
          have hod : o.dst = some d := by rw [← hslot i o ho]; exact hdd
          have h1 := fold_B (ops := ops) (vS := vS) (S := fun k => (listed.setIfInBounds i true).getD k false) (t := tS 0) (d := d) (i := i + 1) ops.size (by omega) (fun j h1 h2 hs hg => by
            have hji : j ≠ i := by omega
            have e1 := hS' j hji
            simp only at e1
            rw [e1, hgd listed j (by omega)] at hs
            exact hafter j h2 hs ((D.slot i o d j ho (.inr hod) h2 hji hg).1 (by omega)))
          rw [h1] at hx
          unfold foldT at hx
          rw [if_pos hSi', hdd] at hx
          simp only [putA] at hx
          rw [List.getElem?_set, if_pos rfl] at hx
          split at hx
          · cases hx
            rw [hod] at hy
            simp only [Act.put] at hy
            rw [Array.getElem?_setIfInBounds, if_pos rfl] at hy
            split at hy
            · cases hy; exact hv
            · cases hy
          · cases hx
        · rw [fold_C hS' hSi hdd] at hx
          have hod : o.dst ≠ some d := by rw [← hslot i o ho]; exact hdd
          have : (a.put o.dst u).tmps[d]? = a.tmps[d]? := by
            cases hds : o.dst with
            | none => rfl
            | some e' =>
              simp only [Act.put]
              rw [Array.getElem?_setIfInBounds, if_neg (by rintro rfl; exact hod hds)]
          rw [this] at hy
          exact tr'.2 d x y hx hy
      have hstep := hstepAt i o ho
      -- the guard
      have hguard : ∀ j want d, o.guard = some (j, want) → gslot ops j = some d → ∀ b, (tS i).getD d .any = .bool b → yielded ops a.tmps j = some b := by
        intro j want d hg hgs b hb
        refine yielded_ok tr hgs ?_
        rw [List.getD_eq_getElem?_getD, hnames d (.inl (by unfold rdsOf; rw [hg]; simp [hgs])), ← List.getD_eq_getElem?_getD]
        exact hb
      unfold wpOp
      rw [ho]
      simp only
      rcases hstep.2.2 with ⟨hgd', hx, hpure⟩ | ⟨⟨j, want, d, hg, hgs, hb⟩, hv, hH⟩
      · -- it is carried out
        have hw : Region.wanted o (yielded ops a.tmps) = true := by
          rcases hgd' with hg | ⟨j, want, d, hg, hgs, hb⟩
          · simp [Region.wanted, hg]
          · simp [Region.wanted, hg, hguard j want d hg hgs want hb]
        rw [if_pos hw]
        left
        have trm : TR ρ F w (maskT (opTmps o.op) (tS i)) a.tmps := by
          refine ⟨by
            have h1 := tr.1
            rw [foldT_len] at h1
            unfold maskT
            simp [← h1, htl i (by omega)], fun d x u hx hu => ?_⟩
          rcases maskT_get hx with rfl | ⟨hn, hx⟩
          · exact .any _
          · exact tr.2 d x u (by rw [hnames d (.inl (by unfold rdsOf; exact List.mem_append_left _ hn))]; exact hx) hu
        have hev := maskT_ev (op := o.op) (ns := opTmps o.op) (t := tS i) (fun d hd => hd)
        -- the blocks that it meets
        cases hp : isPure o.op with
        | true =>
          obtain ⟨hHH, hany⟩ := hpure hp
          refine hany (foldH fl HS (fun i => listed.getD i false) ops.size) _ hev ρ F w a _ _ r f trm fun u w' ρ' F' k1 k2 k3 k4 => ?_
          have hcur : foldH fl HS (fun k => (listed.setIfInBounds i true).getD k false) ops.size = foldH fl HS (fun i => listed.getD i false) ops.size := by
            cases hf : fl.getD i false with
            | false => exact foldH_C hS' hSi hf _
            | true => have := (D.plain i o ho hf).1; rw [hp] at this; cases this
          rw [← hcur] at k2 k3 k4
          exact ih _ _ _ ⟨hsz', hdown', ρ', F', k2, k3, hT' (by rw [hcur] at k4; exact k4.tr r f tr) k1, by rw [put_defers]; exact hd, e.trans (by rw [hcur] at k4 ⊢; exact k4)⟩ hu'
        | false =>
          have hpi : pureAt ops i = false := by unfold pureAt; rw [ho]; simpa using hp
          have hmeet : foldH fl HS (fun i => listed.getD i false) ops.size = HS i := by
            have hb1 := foldH_B (fl := fl) (HS := HS) (S := fun k => listed.getD k false) (i := i) ops.size (by omega) (fun j h1 h2 hs => by
              cases hfj : fl.getD j false with
              | false => rfl
              | true =>
                exfalso
                rw [hgd listed j (by omega)] at hs
                by_cases hji : j = i
                · subst hji; rw [hun] at hs; cases hs
                · have := (D.flag j i h2 hfj hilt (Ne.symm hji) hpi).2 (by omega)
                  exact hafter j h2 hs this)
            rw [hb1]
            exact foldH_A hstH i (by omega) (fun j hj hfj => by
              rw [hgd listed j (by omega)]
              exact hdeps j ((D.flag j i (by omega) hfj hilt (by omega) hpi).1 hj) (by omega))
          rw [hmeet] at r f e
          refine hx _ hev ρ F w a _ _ r f trm fun u w' ρ' F' k1 k2 k3 k4 => ?_
          have hcur : foldH fl HS (fun k => (listed.setIfInBounds i true).getD k false) ops.size = HS (i + 1) := by
            cases hf : fl.getD i false with
            | false =>
              rw [foldH_C hS' hSi hf, hmeet]
              rcases hstep.2.1 with h1 | h1
              · rw [hf] at h1; cases h1
              · exact h1.symm
            | true =>
              have hb1 := foldH_B (fl := fl) (HS := HS) (S := fun k => (listed.setIfInBounds i true).getD k false) (i := i + 1) ops.size (by omega) (fun j h1 h2 hs => by
                cases hfj : fl.getD j false with
                | false => rfl
                | true =>
                  exfalso
                  have hji : j ≠ i := by omega
                  have e1 := hS' j hji
                  simp only at e1
                  rw [e1, hgd listed j (by omega)] at hs
                  exact hafter j h2 hs ((D.flag j i h2 hfj hilt (Ne.symm hji) hpi).2 (by omega)))
              rw [hb1]
              unfold foldH
              rw [if_pos (by simp only [hSi', hf]; rfl)]
          rw [← hcur] at k2 k3 k4
          exact ih _ _ _ ⟨hsz', hdown', ρ', F', k2, k3, hT' (k4.tr r f tr) k1, by rw [put_defers]; exact hd, e.trans k4⟩ hu'
      · -- it is passed by
        have hw : ¬ Region.wanted o (yielded ops a.tmps) = true := by
          rcases hb with hb | hb
          · simp [Region.wanted, hg, hguard j want d hg hgs _ hb]
          · have hy : yielded ops a.tmps j = none := by
              refine yielded_und tr hgs ?_
              rw [List.getD_eq_getElem?_getD, hnames d (.inl (by unfold rdsOf; rw [hg]; simp [hgs])), ← List.getD_eq_getElem?_getD]
              exact hb
            simp [Region.wanted, hg, hy]
        rw [if_neg hw]
        have hcur : foldH fl HS (fun k => (listed.setIfInBounds i true).getD k false) ops.size = foldH fl HS (fun i => listed.getD i false) ops.size := by
          cases hf : fl.getD i false with
          | false => exact foldH_C hS' hSi hf _
          | true => have := (D.plain i o ho hf).2; rw [hg] at this; cases this
        refine ih _ _ _ ⟨hsz', hdown', ρ, F, by rw [hcur]; exact r, by rw [hcur]; exact f, hT' tr (by rw [hv]; exact vr_und), by rw [put_defers]; exact hd, by rw [hcur]; exact e⟩ hu'
  -- the beginning
  refine main ops.size _ a0 _ ⟨by simp, ?_, ρ0, F0, ?_⟩ ?_
  · intro i j h1 h2
    simp [h2] at h1
  · have e0 : ∀ n, foldH fl HS (fun i => (Array.replicate ops.size false).getD i false) n = HS 0 := fun n => by
      induction n with
      | zero => rfl
      | succ n ih =>
        rw [foldH]
        have : (Array.replicate ops.size false).getD n false = false := by
          rcases Nat.lt_or_ge n ops.size with h | h <;> simp [h]
        rw [this]; exact ih
    have e1 : ∀ n, foldT ops vS (tS 0) (fun i => (Array.replicate ops.size false).getD i false) n = tS 0 := fun n => by
      induction n with
      | zero => rfl
      | succ n ih =>
        rw [foldT]
        have : (Array.replicate ops.size false).getD n false = false := by
          rcases Nat.lt_or_ge n ops.size with h | h <;> simp [h]
        rw [if_neg (by rw [this]; simp)]; exact ih
    obtain ⟨r1, e2, k1⟩ := rel_heap r0 (w' := { w0 with drawn := w0.drawn + 1 }) rfl rfl rfl rfl
    rw [e0, e1, hH0, ht0]
    exact ⟨r1, f0, ⟨tr0.1, fun i x u hx hu => k1 x u (tr0.2 i x u hx hu)⟩, hd0, e2⟩
  · unfold unl
    exact Nat.le_trans (List.length_filter_le _ _) (by simp)
end main
end Go.Proofs.Ytkecenijjdpfdaa.AL
