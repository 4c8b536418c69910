/-
  Regions that draw their order, over abstract values and blocks: whatever order is drawn, what is told comes out; no conditions beyond each lemma's own.
-/
import Derived.Test.YtkecenijjdpfdaaAL12
namespace Go.Proofs.Ytkecenijjdpfdaa.AL
open Go
set_option linter.unusedVariables false
set_option linter.unusedSimpArgs false

/-- It looks at no memory and changes none. -/
def isPure : Op → Bool
  | .move _ | .assign _ | .pick .. | .nilCheck _ | .build .. | .fieldAddr .. | .field .. | .indexAddr .. | .binOp .. | .unOp .. | .convert .. | .makeFunc .. | .extract .. | .slice .. => true
  | .call { callee := .builtin .len, .. } | .call { callee := .builtin .min, .. } | .call { callee := .builtin .max, .. } => true
  | _ => false

def opTmps (op : Op) : List Tmp := op.operands.toList.filterMap fun | .tmp t => some t | _ => none

/-- The slots that it looks at. -/
def rdsOf (ops : Array Oper) (o : Oper) : List Tmp := opTmps o.op ++ (match o.guard with | some (j, _) => (gslot ops j).toList | none => [])

def edgesOf (o : Oper) : List Nat := (o.after.toList.filter fun e => Region.binds .any e).map (·.on)
def orEdges (acc : List Nat) (es : List Nat) : Nat := es.foldl (fun m e => m ||| (1 <<< e) ||| acc.getD e 0) 0
/-- What each operation waits for, a bit each. -/
def depsM (ops : Array Oper) : List Nat := ops.toList.foldl (fun acc o => acc ++ [orEdges acc (edgesOf o)]) []
def depsOf (ops : Array Oper) : List (List Nat) := (depsM ops).map fun m => (List.range ops.size).filter fun j => m.testBit j

def cmpM (D : List Nat) (i j : Nat) : Bool := if Nat.blt i j then (D.getD j 0).testBit i else (D.getD i 0).testBit j

def pureAt (ops : Array Oper) (j : Nat) : Bool := (ops[j]?).all fun o => isPure o.op

def slotsOk (D : List Nat) (i d : Nat) : List (Option Tmp) → Nat → Bool
  | [], _ => true
  | s :: ss, j => (match s with | some e => !Nat.beq e d || Nat.beq j i || cmpM D i j | none => true) && slotsOk D i d ss (j + 1)
def pureOk (D : List Nat) (i : Nat) : List Oper → Nat → Bool
  | [], _ => true
  | o :: os, j => (Nat.beq j i || isPure o.op || cmpM D i j) && pureOk D i os (j + 1)
def opersOk (ops : Array Oper) (D : List Nat) (S : List (Option Tmp)) (fl : List Bool) : List Oper → Nat → Bool
  | [], _ => true
  | o :: os, i =>
    ((edgesOf o).all (fun e => Nat.blt e i) && Nat.beq (D.getD i 0) (orEdges D (edgesOf o)) && (rdsOf ops o ++ o.dst.toList).all (fun d => slotsOk D i d S 0) &&
      (!fl.getD i false || (!isPure o.op && o.guard.isNone && pureOk D i ops.toList 0))) && opersOk ops D S fl os (i + 1)

/-- What makes the order not matter: whoever writes a slot, and whoever changes memory (fl), stands in a given order to whoever looks there. -/
def dOk (ops : Array Oper) (fl : List Bool) : Bool := opersOk ops (depsM ops) (ops.toList.map (·.dst)) fl ops.toList 0

/-! ### What an operation looks at -/
theorem lay_congr {flds : List (Nat × TypeId)} {T : Tab} {t t' : List AV} : ∀ (ps : List (Nat × Operand)) (cells : List AV), (∀ p ∈ ps, ev t p.2 = ev t' p.2) → lay flds T t ps cells = lay flds T t' ps cells
  | [], cells, h => rfl
  | (i, x) :: ps, cells, h => by
    have h1 := h (i, x) (by simp)
    simp only at h1
    have ih := fun c => lay_congr (flds := flds) (T := T) ps c (fun p hp => h p (by simp [hp]))
    simp only [lay, h1, ih]

theorem layRows_congr {T : Tab} {ti : TI} {t t' : List AV} : ∀ (ps : List (Nat × Operand)) (rows : List (List AV)), (∀ p ∈ ps, ev t p.2 = ev t' p.2) → layRows T ti t ps rows = layRows T ti t' ps rows
  | [], rows, h => rfl
  | (i, x) :: ps, rows, h => by
    have h1 := h (i, x) (by simp)
    simp only at h1
    have ih := fun c => layRows_congr (T := T) (ti := ti) ps c (fun p hp => h p (by simp [hp]))
    simp only [layRows, h1, ih]

theorem aop_congr {T : Tab} {op : Op} {t t' : List AV} {H : Heap} (h : ∀ x ∈ op.operands.toList, ev t x = ev t' x) : aop T op t H = aop T op t' H := by
  cases op with
  | build ty ps =>
    have h' : ∀ p ∈ ps.toList, ev t p.2 = ev t' p.2 := fun p hp => h p.2 (by simp [Op.operands]; exact ⟨p.1, by simpa using hp⟩)
    simp only [aop, lay_congr ps.toList _ h']
  | buildSlice ty n ps =>
    have h' : ∀ p ∈ ps.toList, ev t p.2 = ev t' p.2 := fun p hp => h p.2 (by simp [Op.operands]; exact ⟨p.1, by simpa using hp⟩)
    simp only [aop]
    split
    · split
      · rw [layRows_congr ps.toList _ h']
      · rfl
    · rfl
  | makeFunc fn first caps =>
    cases fn <;> simp only [aop]
    have : caps.toList.map (ev t) = caps.toList.map (ev t') := List.map_congr_left fun x hx => h x (by simp [Op.operands]; right; simpa using hx)
    rw [this]
  | call c =>
    obtain ⟨callee, args, ts⟩ := c
    cases callee <;> simp only [aop]
    have : args.toList.map (ev t) = args.toList.map (ev t') := List.map_congr_left fun x hx => h x (by simpa [Op.operands, Call.operands] using hx)
    rw [this]
  | slice ty x lo hi mx =>
    have hx := h x (by simp [Op.operands])
    have hlo : loOf t lo = loOf t' lo := by
      cases lo with
      | none => rfl
      | some y => simp only [loOf]; rw [h y (by simp [Op.operands])]
    have hhi : hi.map (fun o => asNat (ev t o)) = hi.map (fun o => asNat (ev t' o)) := by
      cases hi with
      | none => rfl
      | some y => simp only [Option.map_some]; rw [h y (by simp [Op.operands])]
    have hmx : mx.map (fun o => asNat (ev t o)) = mx.map (fun o => asNat (ev t' o)) := by
      cases mx with
      | none => rfl
      | some y => simp only [Option.map_some]; rw [h y (by simp [Op.operands])]
    simp only [aop, hx, hlo, hhi, hmx]
  | pick c x y =>
    have h1 := h c (by simp [Op.operands])
    have h2 := h x (by simp [Op.operands])
    have h3 := h y (by simp [Op.operands])
    simp only [aop, h1, h2, h3]
  | move x | assign x | box _ x | load _ x | nilCheck x | unOp _ _ x | convert _ _ x | fieldAddr _ x _ | field _ x _ | extract x _ =>
    have h1 := h x (by simp [Op.operands])
    simp only [aop, h1]
  | store _ x y | binOp _ _ x y _ | makeSlice _ x y | indexAddr _ x y =>
    have h1 := h x (by simp [Op.operands])
    have h2 := h y (by simp [Op.operands])
    simp only [aop, h1, h2]
  | _ => rfl

theorem aop_pure {T : Tab} {op : Op} {t : List AV} {H : Heap} {C : Prop} {v : AV} {H' : Heap} (hp : isPure op = true) (h : aop T op t H = some (C, v, H')) : H' = H ∧ ∀ H2, aop T op t H2 = some (C, v, H2) := by
  cases op <;> simp only [isPure, Bool.false_eq_true] at hp <;> simp only [aop] at h ⊢
  case call c =>
    obtain ⟨callee, args, ts⟩ := c
    cases callee <;> (try simp only [isPure, Bool.false_eq_true] at hp)
    rename_i b
    cases b <;> (try simp only [isPure, Bool.false_eq_true] at hp)
    all_goals
      simp only [abuiltin, Option.map_eq_some_iff] at h
      obtain ⟨⟨c, r⟩, h1, h2⟩ := h
      simp only [Prod.mk.injEq] at h2
      obtain ⟨rfl, rfl, rfl⟩ := h2
      exact ⟨rfl, fun H2 => by simp [abuiltin, h1]⟩
  case makeFunc fn first caps =>
    cases fn <;> simp only [reduceCtorEq, Option.some.injEq, Prod.mk.injEq] at h ⊢
    obtain ⟨rfl, rfl, rfl⟩ := h
    exact ⟨rfl, fun H2 => by simp⟩
  case binOp =>
    simp only [Option.map_eq_some_iff] at h
    obtain ⟨⟨c, r⟩, h1, h2⟩ := h
    simp only [Prod.mk.injEq] at h2
    obtain ⟨rfl, rfl, rfl⟩ := h2
    exact ⟨rfl, fun H2 => by simp [h1]⟩
  case slice =>
    repeat' (split at h)
    all_goals first
      | (cases h; done)
      | (simp only [Option.map_eq_some_iff] at h
         obtain ⟨⟨c, r⟩, h1, h2⟩ := h
         simp only [Prod.mk.injEq] at h2
         obtain ⟨rfl, rfl, rfl⟩ := h2
         exact ⟨rfl, fun H2 => by simp_all⟩)
  all_goals
    repeat' (split at h)
    all_goals first
      | (cases h; done)
      | (simp only [Option.some.injEq, Prod.mk.injEq] at h
         obtain ⟨rfl, rfl, rfl⟩ := h
         exact ⟨rfl, fun H2 => by simp_all⟩)

/-- It does as told whatever stands in slots that it doesn't look at. -/
def OKx (P : Program) (o : Oper) (t : List AV) (H : Heap) (v : AV) (H' : Heap) : Prop := ∀ t', (∀ x ∈ o.op.operands.toList, ev t' x = ev t x) → OK P o t' H v H'

section
variable {P : Program} {T : Tab} (hT : TOk P T)

include hT in
theorem vcOp_okx {o : Oper} {t : List AV} {H : Heap} {K : AV → Heap → Prop} (h : vcOp P T o.op t H K) : ∃ v H', OKx P o t H v H' ∧ K v H' ∧ (isPure o.op = true → H' = H ∧ ∀ H2, OKx P o t H2 v H2) := by
  unfold vcOp at h
  split at h
  · rename_i fo args ts ho
    split at h
    · rename_i f caps hf
      obtain ⟨v, H', h1, h2⟩ := h
      refine ⟨v, H', fun t' ht => ?_, h2, fun hp => by rw [ho] at hp; simp [isPure] at hp⟩
      have hall : ∀ x ∈ (Op.call { callee := .value fo, args, argTypes := ts }).operands.toList, ev t' x = ev t x := by rw [← ho]; exact ht
      have hfo : ev t' fo = .func f caps := by rw [hall fo (by simp [Op.operands, Call.operands]), hf]
      have hargs : args.toList.map (ev t') = args.toList.map (ev t) := List.map_congr_left fun x hx => hall x (by simp [Op.operands, Call.operands]; right; simpa using hx)
      rcases h1 with h1 | ⟨h1, rfl⟩
      · exact ok_call fo args ts f caps ho hfo (by rw [hargs]; exact h1)
      · exact ok_xcall fo args ts f caps ho hfo (by rw [hargs]; exact h1)
    · cases h
  · split at h
    · rename_i C v H' ha
      refine ⟨v, H', fun t' ht => ok_aop hT C v H' (by rw [aop_congr ht]; exact ha) h.1, h.2, fun hp => ?_⟩
      obtain ⟨h1, h2⟩ := aop_pure hp ha
      exact ⟨h1, fun H2 t' ht => ok_aop hT C v H2 (by rw [aop_congr ht]; exact h2 H2) h.1⟩
    · cases h

/-- In whatever order. fl: who may change the blocks. -/
def vcD (P : Program) (T : Tab) (ops : Array Oper) : List Oper → List Bool → List AV → Heap → (List AV → Heap → Prop) → Prop
  | [], _, t, H, K => K t H
  | o :: rest, fl, t, H, K =>
    match o.guard with
    | none => vcOp P T o.op t H fun v H' => (fl.headD false = true ∨ H' = H) ∧ vcD P T ops rest fl.tail (putA t o.dst v) H' K
    | some (j, want) =>
      match gslot ops j with
      | some d =>
        match t.getD d .any with
        | .bool b => (b = want → vcOp P T o.op (t.set d (.bool want)) H fun v H' => (fl.headD false = true ∨ H' = H) ∧ vcD P T ops rest fl.tail (putA (t.set d (.bool want)) o.dst v) H' K) ∧ (b = !want → vcD P T ops rest fl.tail (putA (t.set d (.bool (!want))) o.dst undA) H K)
        | .tup [] => vcD P T ops rest fl.tail (putA t o.dst undA) H K
        | _ => False
      | none => False

/-- What one operation of the plan does. -/
def StepOk (P : Program) (ops : Array Oper) (o : Oper) (f : Bool) (t : List AV) (H : Heap) (v : AV) (t' : List AV) (H' : Heap) : Prop :=
  t' = putA t o.dst v ∧ (f = true ∨ H' = H) ∧
    (((o.guard = none ∨ ∃ j want d, o.guard = some (j, want) ∧ gslot ops j = some d ∧ t.getD d .any = .bool want) ∧ OKx P o t H v H' ∧ (isPure o.op = true → H' = H ∧ ∀ H2, OKx P o t H2 v H2)) ∨
     ((∃ j want d, o.guard = some (j, want) ∧ gslot ops j = some d ∧ (t.getD d .any = .bool (!want) ∨ t.getD d .any = undA)) ∧ v = undA ∧ H' = H))

include hT in
theorem plan_of {ops : Array Oper} {K : List AV → Heap → Prop} : ∀ (l : List Oper) (fl : List Bool) (t : List AV) (H : Heap), vcD P T ops l fl t H K →
    ∃ (tS : Nat → List AV) (HS : Nat → Heap) (vS : Nat → AV), tS 0 = t ∧ HS 0 = H ∧ (∀ (k : Nat) o, l[k]? = some o → StepOk P ops o (fl.getD k false) (tS k) (HS k) (vS k) (tS (k + 1)) (HS (k + 1))) ∧ K (tS l.length) (HS l.length)
  | [], fl, t, H, h => ⟨fun _ => t, fun _ => H, fun _ => .any, rfl, rfl, fun k o h => by simp at h, h⟩
  | o :: rest, fl, t, H, h => by
    have glue : ∀ t1 H1 v, StepOk P ops o (fl.headD false) t H v t1 H1 → vcD P T ops rest fl.tail t1 H1 K →
        ∃ (tS : Nat → List AV) (HS : Nat → Heap) (vS : Nat → AV), tS 0 = t ∧ HS 0 = H ∧ (∀ (k : Nat) o', (o :: rest)[k]? = some o' → StepOk P ops o' (fl.getD k false) (tS k) (HS k) (vS k) (tS (k + 1)) (HS (k + 1))) ∧ K (tS (o :: rest).length) (HS (o :: rest).length) := by
      intro t1 H1 v hs hr
      obtain ⟨tS, HS, vS, h1, h2, h3, h4⟩ := plan_of rest fl.tail t1 H1 hr
      refine ⟨fun k => match k with | 0 => t | k + 1 => tS k, fun k => match k with | 0 => H | k + 1 => HS k, fun k => match k with | 0 => v | k + 1 => vS k, rfl, rfl, fun k o' hk => ?_, h4⟩
      cases k with
      | zero =>
        simp at hk
        subst hk
        have : fl.getD 0 false = fl.headD false := by cases fl <;> rfl
        simp only [this, h1, h2, Nat.zero_add]
        exact hs
      | succ k =>
        have : fl.getD (k + 1) false = fl.tail.getD k false := by cases fl <;> simp
        rw [this]
        exact h3 k o' (by simpa using hk)
    unfold vcD at h
    have run : ∀ (hw : o.guard = none ∨ ∃ j want d, o.guard = some (j, want) ∧ gslot ops j = some d ∧ t.getD d .any = .bool want), vcOp P T o.op t H (fun v H' => (fl.headD false = true ∨ H' = H) ∧ vcD P T ops rest fl.tail (putA t o.dst v) H' K) →
        ∃ (tS : Nat → List AV) (HS : Nat → Heap) (vS : Nat → AV), tS 0 = t ∧ HS 0 = H ∧ (∀ (k : Nat) o', (o :: rest)[k]? = some o' → StepOk P ops o' (fl.getD k false) (tS k) (HS k) (vS k) (tS (k + 1)) (HS (k + 1))) ∧ K (tS (o :: rest).length) (HS (o :: rest).length) := by
      intro hw hv
      obtain ⟨v, H', h1, ⟨h2, h3⟩, h4⟩ := vcOp_okx hT hv
      exact glue _ H' v ⟨rfl, h2, .inl ⟨hw, h1, h4⟩⟩ h3
    cases hg : o.guard with
    | none => rw [hg] at h; exact run (.inl hg) h
    | some p =>
      obtain ⟨j, want⟩ := p
      rw [hg] at h
      simp only at h
      split at h
      · rename_i d hd
        split at h
        · rename_i b hb
          by_cases hbw : b = want
          · have h1 := h.1 hbw
            rw [← hbw, set_same hb (by simp)] at h1
            exact run (.inr ⟨j, want, d, hg, hd, by rw [hb, hbw]⟩) h1
          · have hbn : b = !want := by cases b <;> cases want <;> simp_all
            have h2 := h.2 hbn
            rw [← hbn, set_same hb (by simp)] at h2
            exact glue _ H undA ⟨rfl, .inr rfl, .inr ⟨⟨j, want, d, hg, hd, .inl (by rw [hb, hbn])⟩, rfl, rfl⟩⟩ h2
        · rename_i hb
          exact glue _ H undA ⟨rfl, .inr rfl, .inr ⟨⟨j, want, d, hg, hd, .inr hb⟩, rfl, rfl⟩⟩ h
        · cases h
      · cases h
end
end Go.Proofs.Ytkecenijjdpfdaa.AL
