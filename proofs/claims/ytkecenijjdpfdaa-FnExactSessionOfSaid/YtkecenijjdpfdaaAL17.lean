/-
  What is left to do as a list of things, so that it can be reckoned out step by step; no conditions beyond each lemma's own.
-/
import Derived.Test.YtkecenijjdpfdaaAL16
namespace Go.Proofs.Ytkecenijjdpfdaa.AL
open Go
set_option linter.unusedVariables false
set_option linter.unusedSimpArgs false

inductive It where
  | code (c : Code)
  | blk (id : Nat)
  | ops (all : Array Oper) (l : List Oper)
  | dops (all : Array Oper) (mc : Bool) (l : List Oper)

section
variable (P : Program) (T : Tab) (mc : Nat → Bool) (Q : AX → List AV → Heap → Prop)

def cont : List It → AX → List AV → Heap → Prop
  | [], x, t, H => Q x t H
  | .code c :: k, .normal, t, H => vc P T mc c (cont k) t H
  | .code _ :: k, x, t, H => cont k x t H
  | .blk id :: k, .exit id', t, H => if id' = id then cont k .normal t H else cont k (.exit id') t H
  | .blk _ :: k, x, t, H => cont k x t H
  | .ops all l :: k, .normal, t, H => vcOps P T all l t H (cont k .normal)
  | .ops _ _ :: k, x, t, H => cont k x t H
  | .dops all m l :: k, .normal, t, H => vcD P T all l (l.map fun o => flagOf m o.op) t H (cont k .normal)
  | .dops _ _ _ :: k, x, t, H => cont k x t H

/-- What is left to do leads where it should. -/
def R (k : List It) (t : List AV) (H : Heap) : Prop := cont P T mc Q k .normal t H
/-- Leaving a block. -/
def E (id : Nat) (k : List It) (t : List AV) (H : Heap) : Prop := cont P T mc Q k (.exit id) t H
/-- A loop, and what is left behind it. -/
def Lp (b : Code) (k : List It) (t : List AV) (H : Heap) : Prop := AWp P (.loop b) (cont P T mc Q k) t H
/-- Behind an operation. -/
def after (a : Ans) (dst : Option Tmp) (all : Array Oper) (l : List Oper) (k : List It) (t : List AV) : Prop :=
  match a with
  | some (C, v, H') => C ∧ R P T mc Q (.ops all l :: k) (putA t dst v) H'
  | none => False
def afterD (a : Ans) (f : Bool) (dst : Option Tmp) (all : Array Oper) (m : Bool) (l : List Oper) (k : List It) (t : List AV) (H : Heap) : Prop :=
  match a with
  | some (C, v, H') => C ∧ (f = true ∨ H' = H) ∧ R P T mc Q (.dops all m l :: k) (putA t dst v) H'
  | none => False
/-- A call. -/
def callA (f : AV) (args : List AV) (dst : Option Tmp) (all : Array Oper) (l : List Oper) (k : List It) (t : List AV) (H : Heap) : Prop :=
  match f with
  | .func f caps => ∃ v H', CDet P f (args ++ caps) H v H' ∧ R P T mc Q (.ops all l :: k) (putA t dst v) H'
  | _ => False
def callD (f : AV) (args : List AV) (dst : Option Tmp) (all : Array Oper) (m : Bool) (l : List Oper) (k : List It) (t : List AV) (H : Heap) : Prop :=
  match f with
  | .func f caps => ∃ v H', CDet P f (args ++ caps) H v H' ∧ (m = true ∨ H' = H) ∧ R P T mc Q (.dops all m l :: k) (putA t dst v) H'
  | _ => False
/-- A condition. -/
def brA (b : AV) (x y : Code) (k : List It) (t : List AV) (H : Heap) : Prop :=
  match b with
  | .bool b => (b = true → R P T mc Q (.code x :: k) t H) ∧ (b = false → R P T mc Q (.code y :: k) t H)
  | _ => False
/-- A guard. -/
def guA (d : Option Tmp) (want : Bool) (dst : Option Tmp) (op : Op) (ty : TypeId) (all : Array Oper) (l : List Oper) (k : List It) (t : List AV) (H : Heap) : Prop :=
  match d with
  | some d =>
    match t.getD d .any with
    | .bool b => (b = want → R P T mc Q (.ops all (⟨dst, op, ty, "", #[], none⟩ :: l) :: k) (t.set d (.bool want)) H) ∧ (b = !want → R P T mc Q (.ops all l :: k) (putA (t.set d (.bool (!want))) dst undA) H)
    | .tup [] => R P T mc Q (.ops all l :: k) (putA t dst undA) H
    | _ => False
  | none => False
def guB (b : AV) (d : Tmp) (want : Bool) (dst : Option Tmp) (op : Op) (ty : TypeId) (all : Array Oper) (l : List Oper) (k : List It) (t : List AV) (H : Heap) : Prop :=
  match b with
  | .bool b => (b = want → R P T mc Q (.ops all (⟨dst, op, ty, "", #[], none⟩ :: l) :: k) (t.set d (.bool want)) H) ∧ (b = !want → R P T mc Q (.ops all l :: k) (putA (t.set d (.bool (!want))) dst undA) H)
  | .tup [] => R P T mc Q (.ops all l :: k) (putA t dst undA) H
  | _ => False
def guD (b : AV) (d : Tmp) (want : Bool) (dst : Option Tmp) (op : Op) (ty : TypeId) (all : Array Oper) (m : Bool) (l : List Oper) (k : List It) (t : List AV) (H : Heap) : Prop :=
  match b with
  | .bool b => (b = want → R P T mc Q (.dops all m (⟨dst, op, ty, "", #[], none⟩ :: l) :: k) (t.set d (.bool want)) H) ∧ (b = !want → R P T mc Q (.dops all m l :: k) (putA (t.set d (.bool (!want))) dst undA) H)
  | .tup [] => R P T mc Q (.dops all m l :: k) (putA t dst undA) H
  | _ => False
def guAD (d : Option Tmp) (want : Bool) (dst : Option Tmp) (op : Op) (ty : TypeId) (all : Array Oper) (m : Bool) (l : List Oper) (k : List It) (t : List AV) (H : Heap) : Prop :=
  match d with
  | some d => guD P T mc Q (t.getD d .any) d want dst op ty all m l k t H
  | none => False
end

section
variable {P : Program} {T : Tab} {mc : Nat → Bool} {Q : AX → List AV → Heap → Prop} {k : List It} {t : List AV} {H : Heap} {all : Array Oper} {l : List Oper}

theorem r_nil : R P T mc Q [] t H = Q .normal t H := rfl
theorem r_skip : R P T mc Q (.code .skip :: k) t H = R P T mc Q k t H := rfl
theorem r_seq {a b : Code} : R P T mc Q (.code (.seq a b) :: k) t H = R P T mc Q (.code a :: .code b :: k) t H := by
  unfold R
  simp only [cont, vc]
  congr 1
  funext x t H
  cases x <;> rfl
theorem r_region {id : Nat} {ops : Array Oper} : R P T mc Q (.code (.region id ops false) :: k) t H = R P T mc Q (.ops ops ops.toList :: k) t H := by
  unfold R
  simp only [cont, vc, Bool.false_eq_true, if_false]
theorem r_draw {id : Nat} {ops : Array Oper} : R P T mc Q (.code (.region id ops true) :: k) t H = R P T mc Q (.dops ops (mc id) ops.toList :: k) t H := by
  unfold R
  simp only [cont, vc, if_true]
theorem r_cond {c : Operand} {x y : Code} : R P T mc Q (.code (.cond c x y) :: k) t H = brA P T mc Q (ev t c) x y k t H := by
  unfold R
  simp only [cont, vc, brA, R]
  rfl
theorem r_br {b : Bool} {x y : Code} : brA P T mc Q (.bool b) x y k t H = ((b = true → R P T mc Q (.code x :: k) t H) ∧ (b = false → R P T mc Q (.code y :: k) t H)) := rfl
theorem r_block {id : Nat} {b : Code} : R P T mc Q (.code (.block id b) :: k) t H = R P T mc Q (.code b :: .blk id :: k) t H := by
  unfold R
  simp only [cont, vc]
  congr 1
  funext x t H
  cases x <;> rfl
theorem r_blk {id : Nat} : R P T mc Q (.blk id :: k) t H = R P T mc Q k t H := rfl
theorem r_loop {b : Code} : R P T mc Q (.code (.loop b) :: k) t H = Lp P T mc Q b k t H := rfl
theorem r_exit {id : Nat} : R P T mc Q (.code (.exit id) :: k) t H = E P T mc Q id k t H := rfl
theorem e_nil {id : Nat} : E P T mc Q id [] t H = Q (.exit id) t H := rfl
theorem e_code {id : Nat} {c : Code} : E P T mc Q id (.code c :: k) t H = E P T mc Q id k t H := rfl
theorem e_ops {id : Nat} {l : List Oper} : E P T mc Q id (.ops all l :: k) t H = E P T mc Q id k t H := rfl
theorem e_blk {id id' : Nat} : E P T mc Q id (.blk id' :: k) t H = if id = id' then R P T mc Q k t H else E P T mc Q id k t H := rfl
theorem cont_ret : ∀ k, cont P T mc Q k .ret t H = Q .ret t H
  | [] => rfl
  | .code _ :: k => cont_ret k
  | .blk _ :: k => cont_ret k
  | .ops _ _ :: k => cont_ret k
  | .dops _ _ _ :: k => cont_ret k
theorem r_ret : R P T mc Q (.code .ret :: k) t H = Q .ret t H := by
  unfold R
  simp only [cont, vc, cont_ret]

theorem r_ops_nil : R P T mc Q (.ops all [] :: k) t H = R P T mc Q k t H := rfl
theorem r_dops_nil {m : Bool} : R P T mc Q (.dops all m [] :: k) t H = R P T mc Q k t H := rfl

/-- An operation that is no call of a function. -/
def noCall : Op → Bool
  | .call { callee := .value _, .. } => false
  | _ => true

theorem vcOp_noCall {op : Op} (h : noCall op = true) {K : AV → Heap → Prop} : vcOp P T op t H K = match aop T op t H with | some (C, v, H') => C ∧ K v H' | none => False := by
  unfold vcOp
  split
  · simp [noCall] at h
  · rfl

theorem r_op {dst : Option Tmp} {op : Op} {ty : TypeId} {pos : String} {af : Array Edge} (h : noCall op = true) : R P T mc Q (.ops all (⟨dst, op, ty, pos, af, none⟩ :: l) :: k) t H = after P T mc Q (aop T op t H) dst all l k t := by
  unfold R
  simp only [cont, vcOps]
  rw [vcOp_noCall h]
  rfl
theorem r_call {dst : Option Tmp} {fo : Operand} {args : Array Operand} {ts : Array TypeId} {ty : TypeId} {pos : String} {af : Array Edge} : R P T mc Q (.ops all (⟨dst, .call { callee := .value fo, args, argTypes := ts }, ty, pos, af, none⟩ :: l) :: k) t H = callA P T mc Q (ev t fo) (args.toList.map (ev t)) dst all l k t H := by
  unfold R
  simp only [cont, vcOps, vcOp]
  rfl
theorem r_guard {dst : Option Tmp} {op : Op} {ty : TypeId} {pos : String} {af : Array Edge} {j : Nat} {want : Bool} : R P T mc Q (.ops all (⟨dst, op, ty, pos, af, some (j, want)⟩ :: l) :: k) t H = guA P T mc Q (gslot all j) want dst op ty all l k t H := by
  unfold R
  simp only [cont, vcOps, guA, R]
  rfl
theorem r_guA {dst : Option Tmp} {op : Op} {ty : TypeId} {d : Tmp} {want : Bool} : guA P T mc Q (some d) want dst op ty all l k t H = guB P T mc Q (t.getD d .any) d want dst op ty all l k t H := rfl
theorem r_guB {dst : Option Tmp} {op : Op} {ty : TypeId} {d : Tmp} {want b : Bool} : guB P T mc Q (.bool b) d want dst op ty all l k t H = ((b = want → R P T mc Q (.ops all (⟨dst, op, ty, "", #[], none⟩ :: l) :: k) (t.set d (.bool want)) H) ∧ (b = !want → R P T mc Q (.ops all l :: k) (putA (t.set d (.bool (!want))) dst undA) H)) := rfl
theorem r_guBU {dst : Option Tmp} {op : Op} {ty : TypeId} {d : Tmp} {want : Bool} : guB P T mc Q (.tup []) d want dst op ty all l k t H = R P T mc Q (.ops all l :: k) (putA t dst (.tup [])) H := rfl
theorem r_after {C : Prop} {v : AV} {H' : Heap} {dst : Option Tmp} : after P T mc Q (some (C, v, H')) dst all l k t = (C ∧ R P T mc Q (.ops all l :: k) (putA t dst v) H') := rfl

theorem r_dop {dst : Option Tmp} {op : Op} {ty : TypeId} {pos : String} {af : Array Edge} {m : Bool} (h : noCall op = true) : R P T mc Q (.dops all m (⟨dst, op, ty, pos, af, none⟩ :: l) :: k) t H = afterD P T mc Q (aop T op t H) (flagOf m op) dst all m l k t H := by
  unfold R
  simp only [cont, vcD, List.map_cons, List.headD_cons, List.tail_cons]
  rw [vcOp_noCall h]
  unfold afterD
  split <;> rfl
theorem r_dcall {dst : Option Tmp} {fo : Operand} {args : Array Operand} {ts : Array TypeId} {ty : TypeId} {pos : String} {af : Array Edge} {m : Bool} : R P T mc Q (.dops all m (⟨dst, .call { callee := .value fo, args, argTypes := ts }, ty, pos, af, none⟩ :: l) :: k) t H = callD P T mc Q (ev t fo) (args.toList.map (ev t)) dst all m l k t H := by
  unfold R
  simp only [cont, vcD, vcOp, List.map_cons, List.headD_cons, List.tail_cons, flagOf]
  rfl
theorem r_dguard_ {dst : Option Tmp} {op : Op} {ty : TypeId} {pos : String} {af : Array Edge} {j : Nat} {want m : Bool} {d : Tmp} (hd : gslot all j = some d) : R P T mc Q (.dops all m (⟨dst, op, ty, pos, af, some (j, want)⟩ :: l) :: k) t H = guD P T mc Q (t.getD d .any) d want dst op ty all m l k t H := by
  unfold R
  simp only [cont, vcD, guD, R, hd, List.map_cons, List.headD_cons, List.tail_cons]
  rfl
theorem r_dguard {dst : Option Tmp} {op : Op} {ty : TypeId} {pos : String} {af : Array Edge} {j : Nat} {want m : Bool} : R P T mc Q (.dops all m (⟨dst, op, ty, pos, af, some (j, want)⟩ :: l) :: k) t H = guAD P T mc Q (gslot all j) want dst op ty all m l k t H := by
  cases hd : gslot all j with
  | some d => rw [r_dguard_ hd]; rfl
  | none =>
    unfold R
    simp only [cont, vcD, guAD, hd]
theorem r_guAD {dst : Option Tmp} {op : Op} {ty : TypeId} {d : Tmp} {want m : Bool} : guAD P T mc Q (some d) want dst op ty all m l k t H = guD P T mc Q (t.getD d .any) d want dst op ty all m l k t H := rfl
theorem r_guD {dst : Option Tmp} {op : Op} {ty : TypeId} {d : Tmp} {want b m : Bool} : guD P T mc Q (.bool b) d want dst op ty all m l k t H = ((b = want → R P T mc Q (.dops all m (⟨dst, op, ty, "", #[], none⟩ :: l) :: k) (t.set d (.bool want)) H) ∧ (b = !want → R P T mc Q (.dops all m l :: k) (putA (t.set d (.bool (!want))) dst undA) H)) := rfl
theorem r_guDU {dst : Option Tmp} {op : Op} {ty : TypeId} {d : Tmp} {want m : Bool} : guD P T mc Q (.tup []) d want dst op ty all m l k t H = R P T mc Q (.dops all m l :: k) (putA t dst (.tup [])) H := rfl
theorem r_afterD {C : Prop} {v : AV} {H' : Heap} {dst : Option Tmp} {f m : Bool} : afterD P T mc Q (some (C, v, H')) f dst all m l k t H = (C ∧ (f = true ∨ H' = H) ∧ R P T mc Q (.dops all m l :: k) (putA t dst v) H') := rfl

theorem r_move {dst : Option Tmp} {ty : TypeId} {pos : String} {af : Array Edge} (x : Operand) : R P T mc Q (.ops all (⟨dst, .move x, ty, pos, af, none⟩ :: l) :: k) t H = after P T mc Q (aop T (.move x) t H) dst all l k t := r_op rfl
theorem d_move {dst : Option Tmp} {ty : TypeId} {pos : String} {af : Array Edge} {m : Bool} (x : Operand) : R P T mc Q (.dops all m (⟨dst, .move x, ty, pos, af, none⟩ :: l) :: k) t H = afterD P T mc Q (aop T (.move x) t H) (flagOf m (.move x)) dst all m l k t H := r_dop rfl
theorem r_assign {dst : Option Tmp} {ty : TypeId} {pos : String} {af : Array Edge} (x : Operand) : R P T mc Q (.ops all (⟨dst, .assign x, ty, pos, af, none⟩ :: l) :: k) t H = after P T mc Q (aop T (.assign x) t H) dst all l k t := r_op rfl
theorem d_assign {dst : Option Tmp} {ty : TypeId} {pos : String} {af : Array Edge} {m : Bool} (x : Operand) : R P T mc Q (.dops all m (⟨dst, .assign x, ty, pos, af, none⟩ :: l) :: k) t H = afterD P T mc Q (aop T (.assign x) t H) (flagOf m (.assign x)) dst all m l k t H := r_dop rfl
theorem r_pick {dst : Option Tmp} {ty : TypeId} {pos : String} {af : Array Edge} (c x y : Operand) : R P T mc Q (.ops all (⟨dst, .pick c x y, ty, pos, af, none⟩ :: l) :: k) t H = after P T mc Q (aop T (.pick c x y) t H) dst all l k t := r_op rfl
theorem d_pick {dst : Option Tmp} {ty : TypeId} {pos : String} {af : Array Edge} {m : Bool} (c x y : Operand) : R P T mc Q (.dops all m (⟨dst, .pick c x y, ty, pos, af, none⟩ :: l) :: k) t H = afterD P T mc Q (aop T (.pick c x y) t H) (flagOf m (.pick c x y)) dst all m l k t H := r_dop rfl
theorem r_alloc {dst : Option Tmp} {ty : TypeId} {pos : String} {af : Array Edge} (e : TypeId) : R P T mc Q (.ops all (⟨dst, .alloc e, ty, pos, af, none⟩ :: l) :: k) t H = after P T mc Q (aop T (.alloc e) t H) dst all l k t := r_op rfl
theorem d_alloc {dst : Option Tmp} {ty : TypeId} {pos : String} {af : Array Edge} {m : Bool} (e : TypeId) : R P T mc Q (.dops all m (⟨dst, .alloc e, ty, pos, af, none⟩ :: l) :: k) t H = afterD P T mc Q (aop T (.alloc e) t H) (flagOf m (.alloc e)) dst all m l k t H := r_dop rfl
theorem r_box {dst : Option Tmp} {ty : TypeId} {pos : String} {af : Array Edge} (e : TypeId) (x : Operand) : R P T mc Q (.ops all (⟨dst, .box e x, ty, pos, af, none⟩ :: l) :: k) t H = after P T mc Q (aop T (.box e x) t H) dst all l k t := r_op rfl
theorem d_box {dst : Option Tmp} {ty : TypeId} {pos : String} {af : Array Edge} {m : Bool} (e : TypeId) (x : Operand) : R P T mc Q (.dops all m (⟨dst, .box e x, ty, pos, af, none⟩ :: l) :: k) t H = afterD P T mc Q (aop T (.box e x) t H) (flagOf m (.box e x)) dst all m l k t H := r_dop rfl
theorem r_build {dst : Option Tmp} {ty : TypeId} {pos : String} {af : Array Edge} (e : TypeId) (ps : Array (Nat × Operand)) : R P T mc Q (.ops all (⟨dst, .build e ps, ty, pos, af, none⟩ :: l) :: k) t H = after P T mc Q (aop T (.build e ps) t H) dst all l k t := r_op rfl
theorem d_build {dst : Option Tmp} {ty : TypeId} {pos : String} {af : Array Edge} {m : Bool} (e : TypeId) (ps : Array (Nat × Operand)) : R P T mc Q (.dops all m (⟨dst, .build e ps, ty, pos, af, none⟩ :: l) :: k) t H = afterD P T mc Q (aop T (.build e ps) t H) (flagOf m (.build e ps)) dst all m l k t H := r_dop rfl
theorem r_buildSlice {dst : Option Tmp} {ty : TypeId} {pos : String} {af : Array Edge} (e : TypeId) (n : Nat) (ps : Array (Nat × Operand)) : R P T mc Q (.ops all (⟨dst, .buildSlice e n ps, ty, pos, af, none⟩ :: l) :: k) t H = after P T mc Q (aop T (.buildSlice e n ps) t H) dst all l k t := r_op rfl
theorem d_buildSlice {dst : Option Tmp} {ty : TypeId} {pos : String} {af : Array Edge} {m : Bool} (e : TypeId) (n : Nat) (ps : Array (Nat × Operand)) : R P T mc Q (.dops all m (⟨dst, .buildSlice e n ps, ty, pos, af, none⟩ :: l) :: k) t H = afterD P T mc Q (aop T (.buildSlice e n ps) t H) (flagOf m (.buildSlice e n ps)) dst all m l k t H := r_dop rfl
theorem r_load {dst : Option Tmp} {ty : TypeId} {pos : String} {af : Array Edge} (e : TypeId) (x : Operand) : R P T mc Q (.ops all (⟨dst, .load e x, ty, pos, af, none⟩ :: l) :: k) t H = after P T mc Q (aop T (.load e x) t H) dst all l k t := r_op rfl
theorem d_load {dst : Option Tmp} {ty : TypeId} {pos : String} {af : Array Edge} {m : Bool} (e : TypeId) (x : Operand) : R P T mc Q (.dops all m (⟨dst, .load e x, ty, pos, af, none⟩ :: l) :: k) t H = afterD P T mc Q (aop T (.load e x) t H) (flagOf m (.load e x)) dst all m l k t H := r_dop rfl
theorem r_store {dst : Option Tmp} {ty : TypeId} {pos : String} {af : Array Edge} (e : TypeId) (x y : Operand) : R P T mc Q (.ops all (⟨dst, .store e x y, ty, pos, af, none⟩ :: l) :: k) t H = after P T mc Q (aop T (.store e x y) t H) dst all l k t := r_op rfl
theorem d_store {dst : Option Tmp} {ty : TypeId} {pos : String} {af : Array Edge} {m : Bool} (e : TypeId) (x y : Operand) : R P T mc Q (.dops all m (⟨dst, .store e x y, ty, pos, af, none⟩ :: l) :: k) t H = afterD P T mc Q (aop T (.store e x y) t H) (flagOf m (.store e x y)) dst all m l k t H := r_dop rfl
theorem r_nilCheck {dst : Option Tmp} {ty : TypeId} {pos : String} {af : Array Edge} (x : Operand) : R P T mc Q (.ops all (⟨dst, .nilCheck x, ty, pos, af, none⟩ :: l) :: k) t H = after P T mc Q (aop T (.nilCheck x) t H) dst all l k t := r_op rfl
theorem d_nilCheck {dst : Option Tmp} {ty : TypeId} {pos : String} {af : Array Edge} {m : Bool} (x : Operand) : R P T mc Q (.dops all m (⟨dst, .nilCheck x, ty, pos, af, none⟩ :: l) :: k) t H = afterD P T mc Q (aop T (.nilCheck x) t H) (flagOf m (.nilCheck x)) dst all m l k t H := r_dop rfl
theorem r_binOp {dst : Option Tmp} {ty : TypeId} {pos : String} {af : Array Edge} (b : BinOp) (e : TypeId) (x y : Operand) (e2 : TypeId) : R P T mc Q (.ops all (⟨dst, .binOp b e x y e2, ty, pos, af, none⟩ :: l) :: k) t H = after P T mc Q (aop T (.binOp b e x y e2) t H) dst all l k t := r_op rfl
theorem d_binOp {dst : Option Tmp} {ty : TypeId} {pos : String} {af : Array Edge} {m : Bool} (b : BinOp) (e : TypeId) (x y : Operand) (e2 : TypeId) : R P T mc Q (.dops all m (⟨dst, .binOp b e x y e2, ty, pos, af, none⟩ :: l) :: k) t H = afterD P T mc Q (aop T (.binOp b e x y e2) t H) (flagOf m (.binOp b e x y e2)) dst all m l k t H := r_dop rfl
theorem r_unOp {dst : Option Tmp} {ty : TypeId} {pos : String} {af : Array Edge} (b : UnOp) (e : TypeId) (x : Operand) : R P T mc Q (.ops all (⟨dst, .unOp b e x, ty, pos, af, none⟩ :: l) :: k) t H = after P T mc Q (aop T (.unOp b e x) t H) dst all l k t := r_op rfl
theorem d_unOp {dst : Option Tmp} {ty : TypeId} {pos : String} {af : Array Edge} {m : Bool} (b : UnOp) (e : TypeId) (x : Operand) : R P T mc Q (.dops all m (⟨dst, .unOp b e x, ty, pos, af, none⟩ :: l) :: k) t H = afterD P T mc Q (aop T (.unOp b e x) t H) (flagOf m (.unOp b e x)) dst all m l k t H := r_dop rfl
theorem r_convert {dst : Option Tmp} {ty : TypeId} {pos : String} {af : Array Edge} (e e2 : TypeId) (x : Operand) : R P T mc Q (.ops all (⟨dst, .convert e e2 x, ty, pos, af, none⟩ :: l) :: k) t H = after P T mc Q (aop T (.convert e e2 x) t H) dst all l k t := r_op rfl
theorem d_convert {dst : Option Tmp} {ty : TypeId} {pos : String} {af : Array Edge} {m : Bool} (e e2 : TypeId) (x : Operand) : R P T mc Q (.dops all m (⟨dst, .convert e e2 x, ty, pos, af, none⟩ :: l) :: k) t H = afterD P T mc Q (aop T (.convert e e2 x) t H) (flagOf m (.convert e e2 x)) dst all m l k t H := r_dop rfl
theorem r_makeFunc {dst : Option Tmp} {ty : TypeId} {pos : String} {af : Array Edge} (fn : Fn) (x y : Array Operand) : R P T mc Q (.ops all (⟨dst, .makeFunc fn x y, ty, pos, af, none⟩ :: l) :: k) t H = after P T mc Q (aop T (.makeFunc fn x y) t H) dst all l k t := r_op rfl
theorem d_makeFunc {dst : Option Tmp} {ty : TypeId} {pos : String} {af : Array Edge} {m : Bool} (fn : Fn) (x y : Array Operand) : R P T mc Q (.dops all m (⟨dst, .makeFunc fn x y, ty, pos, af, none⟩ :: l) :: k) t H = afterD P T mc Q (aop T (.makeFunc fn x y) t H) (flagOf m (.makeFunc fn x y)) dst all m l k t H := r_dop rfl
theorem r_makeSlice {dst : Option Tmp} {ty : TypeId} {pos : String} {af : Array Edge} (e : TypeId) (x y : Operand) : R P T mc Q (.ops all (⟨dst, .makeSlice e x y, ty, pos, af, none⟩ :: l) :: k) t H = after P T mc Q (aop T (.makeSlice e x y) t H) dst all l k t := r_op rfl
theorem d_makeSlice {dst : Option Tmp} {ty : TypeId} {pos : String} {af : Array Edge} {m : Bool} (e : TypeId) (x y : Operand) : R P T mc Q (.dops all m (⟨dst, .makeSlice e x y, ty, pos, af, none⟩ :: l) :: k) t H = afterD P T mc Q (aop T (.makeSlice e x y) t H) (flagOf m (.makeSlice e x y)) dst all m l k t H := r_dop rfl
theorem r_slice {dst : Option Tmp} {ty : TypeId} {pos : String} {af : Array Edge} (e : TypeId) (x : Operand) (lo hi mx : Option Operand) : R P T mc Q (.ops all (⟨dst, .slice e x lo hi mx, ty, pos, af, none⟩ :: l) :: k) t H = after P T mc Q (aop T (.slice e x lo hi mx) t H) dst all l k t := r_op rfl
theorem d_slice {dst : Option Tmp} {ty : TypeId} {pos : String} {af : Array Edge} {m : Bool} (e : TypeId) (x : Operand) (lo hi mx : Option Operand) : R P T mc Q (.dops all m (⟨dst, .slice e x lo hi mx, ty, pos, af, none⟩ :: l) :: k) t H = afterD P T mc Q (aop T (.slice e x lo hi mx) t H) (flagOf m (.slice e x lo hi mx)) dst all m l k t H := r_dop rfl
theorem r_fieldAddr {dst : Option Tmp} {ty : TypeId} {pos : String} {af : Array Edge} (e : TypeId) (x : Operand) (f : Nat) : R P T mc Q (.ops all (⟨dst, .fieldAddr e x f, ty, pos, af, none⟩ :: l) :: k) t H = after P T mc Q (aop T (.fieldAddr e x f) t H) dst all l k t := r_op rfl
theorem d_fieldAddr {dst : Option Tmp} {ty : TypeId} {pos : String} {af : Array Edge} {m : Bool} (e : TypeId) (x : Operand) (f : Nat) : R P T mc Q (.dops all m (⟨dst, .fieldAddr e x f, ty, pos, af, none⟩ :: l) :: k) t H = afterD P T mc Q (aop T (.fieldAddr e x f) t H) (flagOf m (.fieldAddr e x f)) dst all m l k t H := r_dop rfl
theorem r_field {dst : Option Tmp} {ty : TypeId} {pos : String} {af : Array Edge} (e : TypeId) (x : Operand) (f : Nat) : R P T mc Q (.ops all (⟨dst, .field e x f, ty, pos, af, none⟩ :: l) :: k) t H = after P T mc Q (aop T (.field e x f) t H) dst all l k t := r_op rfl
theorem d_field {dst : Option Tmp} {ty : TypeId} {pos : String} {af : Array Edge} {m : Bool} (e : TypeId) (x : Operand) (f : Nat) : R P T mc Q (.dops all m (⟨dst, .field e x f, ty, pos, af, none⟩ :: l) :: k) t H = afterD P T mc Q (aop T (.field e x f) t H) (flagOf m (.field e x f)) dst all m l k t H := r_dop rfl
theorem r_indexAddr {dst : Option Tmp} {ty : TypeId} {pos : String} {af : Array Edge} (e : TypeId) (x y : Operand) : R P T mc Q (.ops all (⟨dst, .indexAddr e x y, ty, pos, af, none⟩ :: l) :: k) t H = after P T mc Q (aop T (.indexAddr e x y) t H) dst all l k t := r_op rfl
theorem d_indexAddr {dst : Option Tmp} {ty : TypeId} {pos : String} {af : Array Edge} {m : Bool} (e : TypeId) (x y : Operand) : R P T mc Q (.dops all m (⟨dst, .indexAddr e x y, ty, pos, af, none⟩ :: l) :: k) t H = afterD P T mc Q (aop T (.indexAddr e x y) t H) (flagOf m (.indexAddr e x y)) dst all m l k t H := r_dop rfl
theorem r_extract {dst : Option Tmp} {ty : TypeId} {pos : String} {af : Array Edge} (x : Operand) (i : Nat) : R P T mc Q (.ops all (⟨dst, .extract x i, ty, pos, af, none⟩ :: l) :: k) t H = after P T mc Q (aop T (.extract x i) t H) dst all l k t := r_op rfl
theorem d_extract {dst : Option Tmp} {ty : TypeId} {pos : String} {af : Array Edge} {m : Bool} (x : Operand) (i : Nat) : R P T mc Q (.dops all m (⟨dst, .extract x i, ty, pos, af, none⟩ :: l) :: k) t H = afterD P T mc Q (aop T (.extract x i) t H) (flagOf m (.extract x i)) dst all m l k t H := r_dop rfl
theorem r_bi {dst : Option Tmp} {ty : TypeId} {pos : String} {af : Array Edge} (b : Builtin) (args : Array Operand) (ts : Array TypeId) : R P T mc Q (.ops all (⟨dst, .call { callee := .builtin b, args := args, argTypes := ts }, ty, pos, af, none⟩ :: l) :: k) t H = after P T mc Q (aop T (.call { callee := .builtin b, args := args, argTypes := ts }) t H) dst all l k t := r_op rfl
theorem d_bi {dst : Option Tmp} {ty : TypeId} {pos : String} {af : Array Edge} {m : Bool} (b : Builtin) (args : Array Operand) (ts : Array TypeId) : R P T mc Q (.dops all m (⟨dst, .call { callee := .builtin b, args := args, argTypes := ts }, ty, pos, af, none⟩ :: l) :: k) t H = afterD P T mc Q (aop T (.call { callee := .builtin b, args := args, argTypes := ts }) t H) (flagOf m (.call { callee := .builtin b, args := args, argTypes := ts })) dst all m l k t H := r_dop rfl

/-- A call by its contract. -/
theorem callA_of {f : FuncId} {caps args : List AV} {dst : Option Tmp} {v : AV} {H' : Heap} (h : ADet P f (args ++ caps) H v H') (k' : R P T mc Q (.ops all l :: k) (putA t dst v) H') : callA P T mc Q (.func f caps) args dst all l k t H := ⟨v, H', .inl h, k'⟩
theorem callD_of {f : FuncId} {caps args : List AV} {dst : Option Tmp} {m : Bool} {v : AV} (h : ADet P f (args ++ caps) H v H) (k' : R P T mc Q (.dops all m l :: k) (putA t dst v) H) : callD P T mc Q (.func f caps) args dst all m l k t H := ⟨v, H, .inl h, .inr rfl, k'⟩
theorem callA_ofX {f : FuncId} {args : List AV} {dst : Option Tmp} {v : AV} (h : XDet P f args H v) (k' : R P T mc Q (.ops all l :: k) (putA t dst v) H) : callA P T mc Q (.func f []) args dst all l k t H := ⟨v, H, .inr ⟨by rw [List.append_nil]; exact h, rfl⟩, k'⟩

theorem run_awp {c : Code} (hT : TOk P T) (hd : dAll mc c = true) (h : R P T mc Q [.code c] t H) : AWp P c Q t H := vc_ok hT c Q t H hd h

/-- Coming back. -/
def finA (a : Option (Prop × List AV)) (H H1 : Heap) (v : AV) (H' : Heap) : Prop :=
  match a with
  | some (C, vs) => C ∧ Wk H [oneOf vs] H1 [v] H'
  | none => False
def Ret (T : Tab) (rs : List ResultVar) (H : Heap) (v : AV) (H' : Heap) : AX → List AV → Heap → Prop
  | .exit _, _, _ => False
  | .normal, t, H1 => finA (retAll T t H1 rs) H H1 v H'
  | .ret, t, H1 => finA (retAll T t H1 rs) H H1 v H'
theorem ret_normal {rs : List ResultVar} {v : AV} {H1 H' : Heap} : Ret T rs H v H' .normal t H1 = finA (retAll T t H1 rs) H H1 v H' := rfl
theorem ret_ret {rs : List ResultVar} {v : AV} {H1 H' : Heap} : Ret T rs H v H' .ret t H1 = finA (retAll T t H1 rs) H H1 v H' := rfl
theorem fin_some {C : Prop} {vs : List AV} {v : AV} {H1 H' : Heap} : finA (some (C, vs)) H H1 v H' = (C ∧ Wk H [oneOf vs] H1 [v] H') := rfl

/-- A function's contract out of its code, to be reckoned out. -/
theorem adet_run (hT : TOk P T) (mc : Nat → Bool) {f : FuncId} {fn : Func} {c : Code} {args : List AV} {v : AV} {H' : Heap} (hf : P.funcs[f]? = some fn) (hb : fn.body = some c) (hn : fnOk P f = true) (hd : dAll mc c = true)
    (h : R P T mc (Ret T fn.results.toList H v H') [.code c] (args ++ List.replicate (fn.ntmps - args.length) .any) H) : ADet P f args H v H' :=
  adet_of hT hf hb hn hd (vc_mono_ h)
where
  vc_mono_ {fn : Func} {c : Code} {args : List AV} {v : AV} {H' : Heap} (h : R P T mc (Ret T fn.results.toList H v H') [.code c] (args ++ List.replicate (fn.ntmps - args.length) .any) H) :
      vc P T mc c (fun x t1 H1 => (match x with | .exit _ => False | _ => True) ∧ ∃ C vs, retAll T t1 H1 fn.results.toList = some (C, vs) ∧ C ∧ Wk H [oneOf vs] H1 [v] H') (args ++ List.replicate (fn.ntmps - args.length) .any) H := by
    have e : Ret T fn.results.toList H v H' = fun x t1 H1 => (match x with | .exit _ => False | _ => True) ∧ ∃ C vs, retAll T t1 H1 fn.results.toList = some (C, vs) ∧ C ∧ Wk H [oneOf vs] H1 [v] H' := by
      funext x t1 H1
      cases x <;> simp only [Ret, finA] <;> (try simp) <;> (cases hr : retAll T t1 H1 fn.results.toList with
        | none => simp
        | some r => obtain ⟨C, vs⟩ := r; exact ⟨fun h => ⟨C, vs, rfl, h⟩, fun ⟨C', vs', e, h⟩ => by cases e; exact h⟩)
    unfold R at h
    rw [e] at h
    exact h

/-! ### Blocks by name -/
theorem hget0 {L : Heap} : (H ++ L)[H.length]? = L[0]? := by rw [List.getElem?_append_right (Nat.le_refl _), Nat.sub_self]
theorem hgetS {L : Heap} {n : Nat} : (H ++ L)[H.length + n]? = L[n]? := by rw [List.getElem?_append_right (by omega), Nat.add_sub_cancel_left]
theorem hset0 {L : Heap} {x : Option Blk} : (H ++ L).set H.length x = H ++ L.set 0 x := by rw [List.set_append_right _ _ (Nat.le_refl _), Nat.sub_self]
theorem hsetS {L : Heap} {n : Nat} {x : Option Blk} : (H ++ L).set (H.length + n) x = H ++ L.set n x := by rw [List.set_append_right _ _ (by omega), Nat.add_sub_cancel_left]

mutual
/-- No names. -/
def noid : AV → Bool
  | .ptr _ _ | .own .. | .eptr .. => false
  | .agg l | .tup l | .func _ l => noidL l
  | .fro _ _ => false
  | _ => true
def noidL : List AV → Bool
  | [] => true
  | x :: xs => noid x && noidL xs
end

theorem noid_ids {D : Nat → Prop} : ∀ {x : AV}, noid x = true → Ids D x
  | .any, _ => .any
  | .int _ _, _ => .int _ _
  | .bool _, _ => .bool _
  | .nilp, _ => .nilp
  | .snil, _ => .snil
  | .emp, _ => .emp
  | .efro _, _ => .efro _
  | .agg l, h => .agg l fun x hx => noid_ids (go l (by simpa [noid] using h) x hx)
  | .tup l, h => .tup l fun x hx => noid_ids (go l (by simpa [noid] using h) x hx)
  | .func _ l, h => .func _ l fun x hx => noid_ids (go l (by simpa [noid] using h) x hx)
where
  go : ∀ l, noidL l = true → ∀ x ∈ l, noid x = true
    | [], _, x, hx => by cases hx
    | y :: l, h, x, hx => by
      simp only [noidL, Bool.and_eq_true] at h
      rcases List.mem_cons.1 hx with rfl | hx
      · exact h.1
      · exact go l h.2 x hx

theorem wk_same {v v' : AV} (h : v = v') : Wk H [v] H [v'] H := by subst h; exact Wk.refl
theorem wk_drop {L : Heap} {v v' : AV} (h : v = v') (hn : noid v' = true) : Wk H [v] (H ++ L) [v'] H := by
  subst h
  refine Wk.drop ⟨rfl, fun i x hx => .inr ⟨hx, ?_⟩⟩
  cases i with
  | zero => simp at hx; subst hx; exact noid_ids hn
  | succ i => simp at hx

theorem lp_run (hT : TOk P T) {σ : Type} {b : Code} (hd : dAll mc b = true) (I : σ → List AV) (J : σ → Heap) (μ : σ → Nat)
    (round : ∀ s, R P T mc (fun x t H' => match x with | .normal => ∃ s', μ s' < μ s ∧ Wk H t H' (I s') (J s') | x => cont P T mc Q k x t H') [.code b] (I s) (J s))
    (s0 : σ) (h0 : Wk H t H (I s0) (J s0)) : Lp P T mc Q b k t H :=
  awp_loop I J μ H (fun s => (run_awp hT hd (round s)).mono fun x t H' hx => by cases x <;> exact hx) s0 h0
end
end Go.Proofs.Ytkecenijjdpfdaa.AL
