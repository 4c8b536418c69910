/-
  What an operation does to abstract values and blocks; no conditions.
-/
import Derived.Test.YtkecenijjdpfdaaAL1
namespace Go.Proofs.Ytkecenijjdpfdaa.AL
open Go
set_option linter.unusedVariables false
set_option linter.unusedSimpArgs false

inductive TK where
  | int (k : IntKind)
  | bool
  | struct (flds : List (Nat × TypeId))
  | slice (e : TypeId)
  | other
  deriving Inhabited

/-- What is used of a type. -/
structure TI where
  kind : TK
  size : Nat
  bytes : Nat
  zero : List AV
  eqs : Bool
  deriving Inhabited

abbrev Tab := TypeId → Option TI

def kindOf (T : Tab) (t : TypeId) : Option TK := (T t).map TI.kind
def szOf (T : Tab) (t : TypeId) : Nat := ((T t).map TI.size).getD 0
def eqsOf (T : Tab) (t : TypeId) : Option Bool := (T t).map TI.eqs
def zeroOf (T : Tab) (t : TypeId) : List AV := ((T t).map TI.zero).getD []

/-- A zero's cell. -/
def conc : AV → Value
  | .int k n => .int k n
  | .bool b => .bool b
  | .snil => .slice none 0 0
  | .nilp => .pointer none
  | _ => undef

def isConc : AV → Bool
  | .int _ _ | .bool _ | .snil | .nilp => true
  | _ => false

def cv : Value → AV
  | .int k n => .int k n
  | .bool b => .bool b
  | .slice none 0 0 => .snil
  | .pointer none => .nilp
  | _ => .any

def ev (t : List AV) : Operand → AV
  | .tmp i => t.getD i .any
  | .const v => cv v
  | .func f => .func f []
  | .global _ => .any

/-- The cells of a value. -/
def cellsOf : AV → List AV
  | .agg l => l
  | x => [x]

/-- A value of one cell. -/
def isCell : AV → Bool
  | .agg _ | .tup _ | .any => false
  | _ => true

/-- A row of so many cells. -/
def RowOk (sz : Nat) (row : List AV) : Prop := row.length = sz ∧ row.all isCell = true

def notAny : AV → Bool
  | .any => false
  | _ => true

def lenOf : AV → Option Nat
  | .own _ _ _ len _ => some len
  | .fro _ rows => some rows.length
  | .snil | .emp | .efro _ => some 0
  | _ => none

/-- The elements of a slice. -/
def rowsOf (H : Heap) : AV → Option (List (List AV))
  | .own id sz off len _ =>
    match H[id]? with
    | some (some (.arr sz' rows)) => if sz' = sz ∧ off + len ≤ rows.length then some ((rows.drop off).take len) else none
    | _ => none
  | .fro _ rows => some rows
  | .snil | .emp | .efro _ => some []
  | _ => none

/-- Cells read behind a pointer. -/
def rd (H : Heap) (p : AV) (n : Nat) : Option (List AV) :=
  match p with
  | .ptr id c =>
    match H[id]? with
    | some (some (.box cells)) => some ((cells.drop c).take n)
    | _ => none
  | .eptr s i c => (rowsOf H s).map fun rows => ((rows.getD i []).drop c).take n
  | _ => none

def splice {α : Type} (l : List α) (c : Nat) (vs : List α) : List α := l.take c ++ vs ++ l.drop (c + vs.length)

/-- Cells written behind a pointer: what must be so, and the blocks then. -/
def wr (H : Heap) (p : AV) (vs : List AV) : Option (Prop × Heap) :=
  match p with
  | .ptr id c =>
    match H[id]? with
    | some (some (.box cells)) => some (c + vs.length ≤ cells.length, H.set id (some (.box (splice cells c vs))))
    | _ => none
  | .eptr (.own id sz off len lc) i c =>
    match H[id]? with
    | some (some (.arr sz' rows)) => some (sz' = sz ∧ off + len ≤ rows.length ∧ c + vs.length ≤ sz, H.set id (some (.arr sz' (rows.set (off + i) (splice (rows.getD (off + i) []) c vs)))))
    | _ => none
  | _ => none

def joinT (ti : TI) (cs : List AV) : AV :=
  match ti.kind with
  | .struct _ => .agg cs
  | _ => cs.headD .any

def pickAV (b : Bool) : AV → AV → AV
  | .bool x, .bool y => .bool (bif b then x else y)
  | x, y => bif b then x else y

/-- An operation's answer: what must be so, the value, the blocks. -/
abbrev Ans := Option (Prop × AV × Heap)

def scal : AV → Bool
  | .int _ _ | .bool _ => true
  | _ => false

def eqA : AV → AV → Bool
  | .int _ a, .int _ b => decide (a = b)
  | .bool a, .bool b => a == b
  | _, _ => false

def like : AV → AV → Bool
  | .int j _, .int k _ => j == k
  | .bool _, .bool _ => true
  | _, _ => false

def eqL : List AV → List AV → Bool
  | [], [] => true
  | x :: xs, y :: ys => eqA x y && eqL xs ys
  | _, _ => false

def likeL : List AV → List AV → Bool
  | [], [] => true
  | x :: xs, y :: ys => like x y && likeL xs ys
  | _, _ => false

def abin (T : Tab) (op : BinOp) (t : TypeId) : AV → AV → Option (Prop × AV)
  | .int k a, .int k' b =>
    match op with
    | .add => some (k = k', .int k (k.wrap (a + b)))
    | .sub => some (k = k', .int k (k.wrap (a - b)))
    | .mul => some (k = k', .int k (k.wrap (a * b)))
    | .quo => some (k = k' ∧ b ≠ 0, .int k (k.wrap (a.tdiv b)))
    | .rem => some (k = k' ∧ b ≠ 0, .int k (a.tmod b))
    | .eql => some (k = k', .bool (decide (a = b)))
    | .neq => some (k = k', .bool (decide (a ≠ b)))
    | .lss => some (k = k', .bool (decide (a < b)))
    | .leq => some (k = k', .bool (decide (a ≤ b)))
    | .gtr => some (k = k', .bool (decide (a > b)))
    | .geq => some (k = k', .bool (decide (a ≥ b)))
    | .shr => some (0 ≤ b, .int k (a / 2 ^ min b.toNat k.bits))
    | _ => none
  | .bool a, .bool b =>
    match kindOf T t, op with
    | some .bool, .eql => some (True, .bool (a == b))
    | some .bool, .neq => some (True, .bool (!(a == b)))
    | _, _ => none
  | .agg l, .agg l' =>
    match eqsOf T t, op with
    | some true, .eql => some (likeL l (zeroOf T t) = true ∧ likeL l' (zeroOf T t) = true, .bool (eqL l l'))
    | some true, .neq => some (likeL l (zeroOf T t) = true ∧ likeL l' (zeroOf T t) = true, .bool (!eqL l l'))
    | _, _ => none
  | x, .snil =>
    match kindOf T t, op, x with
    | some (.slice _), .eql, .snil => some (True, .bool true)
    | some (.slice _), .neq, .snil => some (True, .bool false)
    | some (.slice _), .eql, .efro _ => some (True, .bool false)
    | some (.slice _), .neq, .efro _ => some (True, .bool true)
    | some (.slice _), .eql, .own _ _ _ _ lc => some (lc ≠ 0, .bool false)
    | some (.slice _), .neq, .own _ _ _ _ lc => some (lc ≠ 0, .bool true)
    | some (.slice _), .eql, .fro _ rows => some (rows ≠ [], .bool false)
    | some (.slice _), .neq, .fro _ rows => some (rows ≠ [], .bool true)
    | _, _, _ => none
  | _, _ => none

/-- Parts laid into a struct's cells. -/
def lay (flds : List (Nat × TypeId)) (T : Tab) (t : List AV) : List (Nat × Operand) → List AV → Option (Prop × List AV)
  | [], cells => some (True, cells)
  | (i, x) :: rest, cells =>
    match flds[i]? with
    | some (off, ft) =>
      match T ft with
      | some ti =>
        match lay flds T t rest (splice cells off (cellsOf (ev t x))) with
        | some (c, r) => some (((cellsOf (ev t x)).length = ti.size ∧ off + ti.size ≤ cells.length ∧ notAny (ev t x) = true) ∧ c, r)
        | none => none
      | none => none
    | none => none

/-- The rows of a slice's literal. -/
def layRows (T : Tab) (ti : TI) (t : List AV) : List (Nat × Operand) → List (List AV) → Option (Prop × List (List AV))
  | [], rows => some (True, rows)
  | (i, x) :: rest, rows =>
    match layRows T ti t rest (rows.set i (cellsOf (ev t x))) with
    | some (c, r) => some ((RowOk ti.size (cellsOf (ev t x)) ∧ i < rows.length) ∧ c, r)
    | none => none

/-- Elements of so many cells, if any. -/
def szOk (s : AV) (n : Nat) : Bool :=
  match s with
  | .own _ sz _ _ _ => sz == n
  | .fro sz _ => sz == n
  | .snil | .emp | .efro _ => true
  | _ => false

def asNat (x : AV) : Option Int :=
  match x with
  | .int _ n => some n
  | _ => none

def loOf (t : List AV) : Option Operand → Option Int
  | none => some 0
  | some o => asNat (ev t o)

/-- s[lo:hi:mx]. -/
def aslice (s : AV) (lo : Int) (hi mx : Option Int) : Option (Prop × AV) :=
  match s with
  | .own id sz off len lc =>
    let m := mx.getD lc
    let h := hi.getD len
    some (0 ≤ lo ∧ lo ≤ h ∧ h ≤ m ∧ m ≤ lc, .own id sz (off + lo.toNat) (h - lo).toNat (m - lo).toNat)
  | .fro sz rows =>
    match mx with
    | none => let h := hi.getD rows.length; some (0 ≤ lo ∧ lo ≤ h ∧ h ≤ rows.length, .fro sz ((rows.take h.toNat).drop lo.toNat))
    | some m => let h := hi.getD rows.length; some (0 ≤ lo ∧ lo ≤ h ∧ h ≤ m ∧ m ≤ rows.length, if m = 0 then .emp else .fro sz ((rows.take h.toNat).drop lo.toNat))
  | .snil => some (lo = 0 ∧ hi.getD 0 = 0 ∧ mx.getD 0 = 0, .snil)
  | .emp => some (lo = 0 ∧ hi.getD 0 = 0 ∧ mx.getD 0 = 0, .emp)
  | .efro _ =>
    match mx with
    | some m => some (lo = 0 ∧ hi.getD 0 = 0 ∧ m = 0, .emp)
    | none => none
  | _ => none

def abPure (T : Tab) (b : Builtin) (ts : List TypeId) (xs : List AV) : Option (Prop × AV) :=
  match b, ts, xs with
  | .len, [t], [x] =>
    match kindOf T t, lenOf x with
    | some (.slice _), some n => some (True, .int .i64 n)
    | _, _ => none
  | .min, [_, _], [.int k a, .int k' b] => some (k = k', .int k (if b < a then b else a))
  | .max, [_, _], [.int k a, .int k' b] => some (k = k', .int k (if b > a then b else a))
  | _, _, _ => none

def abMem (T : Tab) (b : Builtin) (ts : List TypeId) (xs : List AV) (H : Heap) : Ans :=
  match b, ts, xs with
  | .append, [t, t'], [s, x] =>
    match kindOf T t, rowsOf H x with
    | some (.slice e), some src =>
      match T e with
      | none => none
      | some ti =>
        if t' = t then
          match s with
          | .own id sz off len lc =>
            match H[id]? with
            | some (some (.arr sz' rows)) =>
              if lc = len then
                some (off = 0 ∧ sz = ti.size ∧ sz' = sz ∧ 0 < sz ∧ len ≤ rows.length ∧ (len + src.length) * ti.bytes ≤ 70368744177664 ∧ len + src.length ≤ 70368744177664 ∧ (∀ row ∈ src, RowOk sz row),
                  .own H.length sz 0 (len + src.length) (len + src.length), H.set id none ++ [some (.arr sz (rows.take len ++ src))])
              else
                some (sz = ti.size ∧ sz' = sz ∧ len + src.length ≤ lc ∧ off + len ≤ rows.length ∧ (∀ row ∈ src, RowOk sz row),
                  .own id sz off (len + src.length) lc, H.set id (some (.arr sz (rows.take (off + len) ++ src ++ rows.drop (off + len + src.length)))))
            | _ => none
          | .snil | .emp => some (0 < ti.size ∧ src.length * ti.bytes ≤ 70368744177664 ∧ src.length ≤ 70368744177664 ∧ (∀ row ∈ src, RowOk ti.size row), .own H.length ti.size 0 src.length src.length, H ++ [some (.arr ti.size src)])
          | _ => none
        else none
    | _, _ => none
  | .copy, [t, _], [.own id sz off len lc, x] =>
    match kindOf T t, rowsOf H x, H[id]? with
    | some (.slice e), some src, some (some (.arr sz' rows)) =>
      match T e with
      | none => none
      | some ti => some (sz = ti.size ∧ sz' = sz ∧ off + len ≤ rows.length ∧ (∀ row ∈ src.take len, RowOk sz row), .int .i64 (min src.length len : Nat), H.set id (some (.arr sz (splice rows off (src.take len)))))
    | _, _, _ => none
  | .clear, [t], [.own id sz off len lc] =>
    match kindOf T t, H[id]? with
    | some (.slice e), some (some (.arr sz' rows)) =>
      match T e with
      | none => none
      | some ti => some (sz = ti.size ∧ sz' = sz ∧ off ≤ rows.length, .tup [], H.set id (some (.arr sz (splice rows off (List.replicate len ti.zero)))))
    | _, _ => none
  | _, _, _ => none

def abuiltin (T : Tab) (b : Builtin) (ts : List TypeId) (xs : List AV) (H : Heap) : Ans :=
  match b with
  | .len | .min | .max => (abPure T b ts xs).map fun r => (r.1, r.2, H)
  | _ => abMem T b ts xs H

/-- What an operation that calls no function does. -/
def aop (T : Tab) (op : Op) (t : List AV) (H : Heap) : Ans :=
  match op with
  | .move x | .assign x => some (True, ev t x, H)
  | .pick c a b =>
    match ev t c with
    | .bool b' => some (True, pickAV b' (ev t a) (ev t b), H)
    | _ => none
  | .nilCheck x =>
    match ev t x with
    | .ptr id c => some (True, .ptr id c, H)
    | .eptr s i c => some (True, .eptr s i c, H)
    | .func f l => some (True, .func f l, H)
    | _ => none
  | .load ty p =>
    match T ty with
    | some ti =>
      match rd H (ev t p) ti.size with
      | some cs => some (cs.length = ti.size ∧ (match ti.kind with | .struct _ => True | _ => ti.size = 1), joinT ti cs, H)
      | none => none
    | none => none
  | .store ty p x =>
    match T ty with
    | some ti =>
      match wr H (ev t p) (cellsOf (ev t x)) with
      | some (c, H') => some ((c ∧ (cellsOf (ev t x)).length = ti.size) ∧ (cellsOf (ev t x)).all isCell = true, .any, H')
      | none => none
    | none => none
  | .box _ x => some ((cellsOf (ev t x)).all isCell = true, .ptr H.length 0, H ++ [some (.box (cellsOf (ev t x)))])
  | .alloc ty =>
    match T ty with
    | some ti => some (True, .ptr H.length 0, H ++ [some (.box ti.zero)])
    | none => none
  | .build ty ps =>
    match T ty with
    | some ti =>
      match ti.kind with
      | .struct flds =>
        match lay flds T t ps.toList ti.zero with
        | some (c, cells) => some (c, .agg cells, H)
        | none => none
      | _ => none
    | none => none
  | .buildSlice ty n ps =>
    match kindOf T ty with
    | some (.slice e) =>
      match T e with
      | some ti =>
        match layRows T ti t ps.toList (List.replicate n ti.zero) with
        | some (c, rows) => some (c ∧ n * ti.size ≤ 16777216, .own H.length ti.size 0 n n, H ++ [some (.arr ti.size rows)])
        | none => none
      | none => none
    | _ => none
  | .makeSlice ty l c =>
    match kindOf T ty, ev t l, ev t c with
    | some (.slice e), .int _ n, .int _ m =>
      match T e with
      | some ti => some (0 ≤ n ∧ n ≤ m ∧ m ≤ 16777216 ∧ ti.bytes ≤ 65536, .own H.length ti.size 0 n.toNat m.toNat, H ++ [some (.arr ti.size (List.replicate m.toNat ti.zero))])
      | none => none
    | _, _, _ => none
  | .slice ty x lo hi mx =>
    match kindOf T ty, loOf t lo, hi.map (fun o => asNat (ev t o)), mx.map (fun o => asNat (ev t o)) with
    | some (.slice e), some l, none, none => match T e with
      | some ti => (aslice (ev t x) l none none).map fun r => (r.1 ∧ szOk (ev t x) ti.size = true, r.2, H)
      | none => none
    | some (.slice e), some l, some (some h), none => match T e with
      | some ti => (aslice (ev t x) l (some h) none).map fun r => (r.1 ∧ szOk (ev t x) ti.size = true, r.2, H)
      | none => none
    | some (.slice e), some l, some (some h), some (some m) => match T e with
      | some ti => (aslice (ev t x) l (some h) (some m)).map fun r => (r.1 ∧ szOk (ev t x) ti.size = true, r.2, H)
      | none => none
    | _, _, _, _ => none
  | .fieldAddr s p f =>
    match kindOf T s with
    | some (.struct flds) =>
      match flds[f]?, ev t p with
      | some (o, ft), .ptr id c => some (szOf T ft ≠ 0, .ptr id (c + o), H)
      | some (o, ft), .eptr s i c => some (szOf T ft ≠ 0, .eptr s i (c + o), H)
      | _, _ => none
    | _ => none
  | .field s x f =>
    match kindOf T s, ev t x with
    | some (.struct flds), .agg l =>
      match flds[f]? with
      | some (o, ft) =>
        match T ft with
        | some ti => some (o + ti.size ≤ l.length ∧ (match ti.kind with | .struct _ => True | _ => ti.size = 1), joinT ti ((l.drop o).take ti.size), H)
        | none => none
      | none => none
    | _, _ => none
  | .indexAddr ty x ix =>
    match kindOf T ty, ev t ix, lenOf (ev t x) with
    | some (.slice e), .int _ i, some n =>
      match T e with
      | some ti => some ((0 ≤ i ∧ i < n) ∧ szOk (ev t x) ti.size = true, .eptr (ev t x) i.toNat 0, H)
      | none => none
    | _, _, _ => none
  | .binOp op ty x y _ => (abin T op ty (ev t x) (ev t y)).map fun r => (r.1, r.2, H)
  | .unOp op _ x =>
    match op, ev t x with
    | .not, .bool b => some (True, .bool (!b), H)
    | .neg, .int k n => some (True, .int k (k.wrap (0 - n)), H)
    | _, _ => none
  | .convert src dst x =>
    match kindOf T src, kindOf T dst, ev t x with
    | some (.int _), some (.int k), .int _ n => some (True, .int k (k.wrap n), H)
    | _, _, _ => none
  | .makeFunc (.func f) first caps => some (first.size = 0, .func f (caps.toList.map (ev t)), H)
  | .extract x i =>
    match ev t x with
    | .tup l =>
      match l[i]? with
      | some v => some (True, v, H)
      | none => none
    | _ => none
  | .call c =>
    match c.callee with
    | .builtin b => abuiltin T b c.argTypes.toList (c.args.toList.map (ev t)) H
    | _ => none
  | _ => none
end Go.Proofs.Ytkecenijjdpfdaa.AL
