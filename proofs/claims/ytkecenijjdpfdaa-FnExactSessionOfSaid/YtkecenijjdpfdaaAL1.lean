/-
  An abstract memory over the model's: values, blocks, how they stand for the world's cells, and what a step may change; no conditions beyond each lemma's own.
-/
import Derived.WalkKit
import Derived.Deep.MidRow
import Derived.OrdersHeld
import Derived.Below
import Derived.Laws.OwnMore
namespace Go.Proofs.Ytkecenijjdpfdaa.AL
open Go
set_option linter.unusedVariables false
set_option linter.unusedSimpArgs false

/-- What is known of a value. -/
inductive AV where
  | any
  | int (k : IntKind) (n : Int)
  | bool (b : Bool)
  | nilp
  | agg (l : List AV)
  | tup (l : List AV)
  /-- a cell of a block that is no row of elements -/
  | ptr (id c : Nat)
  /-- cell c of element i of a slice -/
  | eptr (s : AV) (i c : Nat)
  /-- a slice over a block of one's own: elements of sz cells, from element off on, len of them; room for lc at the least -/
  | own (id sz off len lc : Nat)
  /-- a slice that is read alone -/
  | fro (sz : Nat) (rows : List (List AV))
  | snil
  /-- no element and no room -/
  | emp
  /-- no element, and not nil -/
  | efro (sz : Nat)
  | func (f : FuncId) (caps : List AV)
  deriving Inhabited

/-- The size of a slice's elements. -/
def szv : AV → Nat
  | .own _ sz _ _ _ => sz
  | .fro sz _ => sz
  | _ => 0

inductive Blk where
  | box (cells : List AV)
  | arr (sz : Nat) (rows : List (List AV))
  deriving Inhabited

abbrev Heap := List (Option Blk)
/-- Where a block lies: some none, where it has no element and lies nowhere yet. -/
abbrev Ren := Nat → Option (Option Nat)

/-- A value of the world that an abstract one stands for. -/
inductive VR (ρ : Ren) (F : Nat → Prop) (w : World) : AV → Value → Prop
  | any (u : Value) : VR ρ F w .any u
  | int (k : IntKind) (n : Int) : VR ρ F w (.int k n) (.int k n)
  | bool (b : Bool) : VR ρ F w (.bool b) (.bool b)
  | nilp : VR ρ F w .nilp (.pointer none)
  | agg (l : List AV) (us : List Value) (hl : l.length = us.length) (h : ∀ (i : Nat) x u, l[i]? = some x → us[i]? = some u → VR ρ F w x u) : VR ρ F w (.agg l) (.agg us.toArray)
  | tup (l : List AV) (us : List Value) (hl : l.length = us.length) (h : ∀ (i : Nat) x u, l[i]? = some x → us[i]? = some u → VR ρ F w x u) : VR ρ F w (.tup l) (.tuple us.toArray)
  | ptr (id c g : Nat) (h : ρ id = some (some g)) : VR ρ F w (.ptr id c) (.pointer (some ⟨g, c, none⟩))
  | eptr (s : AV) (i c n cap : Nat) (A : Addr) (h : VR ρ F w s (.slice (some A) n cap)) (hi : i < n) (hs : A.spot = none) : VR ρ F w (.eptr s i c) (.pointer (some ⟨A.block, A.off + (i * szv s + c), none⟩))
  | own (id sz off len lc cap m : Nat) (t : TypeId) (A : Addr) (h : ρ id = some (some A.block)) (hs : A.spot = none) (ho : cap ≠ 0 → A.off = off * sz) (hl : len ≤ lc) (hc : lc ≤ cap)
      (hm : w.shape? A.block = some (t, m)) (hf : (off + cap) * sz ≤ m) : VR ρ F w (.own id sz off len lc) (.slice (some A) len cap)
  /-- of no element and no room: nil perhaps -/
  | own0 (id sz off : Nat) (A : Option Addr) (h : ρ id ≠ none) : VR ρ F w (.own id sz off 0 0) (.slice A 0 0)
  | efro (sz cap : Nat) (A : Addr) : VR ρ F w (.efro sz) (.slice (some A) 0 cap)
  | fro (sz : Nat) (rows : List (List AV)) (A : Option Addr) (cap : Nat) (U : Nat → Nat → Value) (hz : ∀ row ∈ rows, row.length = sz) (hc : rows.length ≤ cap)
      (ha : rows ≠ [] → ∃ a, A = some a ∧ a.spot = none) (hn : A = none → cap = 0)
      (hU : ∀ (i c : Nat) row x, rows[i]? = some row → row[c]? = some x → ∃ a, A = some a ∧ a.spot = none ∧ F a.block ∧ w.cell? ⟨a.block, a.off + (i * sz + c), none⟩ = some (U i c))
      (h : ∀ (i c : Nat) row x, rows[i]? = some row → row[c]? = some x → VR ρ F w x (U i c)) : VR ρ F w (.fro sz rows) (.slice A rows.length cap)
  | snil : VR ρ F w .snil (.slice none 0 0)
  | emp (A : Option Addr) : VR ρ F w .emp (.slice A 0 0)
  | func (f : FuncId) (l : List AV) (us : List Value) (hl : l.length = us.length) (h : ∀ (i : Nat) x u, l[i]? = some x → us[i]? = some u → VR ρ F w x u) : VR ρ F w (.func f l) (.func (.func f) #[] us.toArray)

/-- What a block's cells are. -/
def BlkR (ρ : Ren) (F : Nat → Prop) (w : World) : Blk → Array Value → Prop
  | .box cells, cs => cs.size = cells.length ∧ ∀ (c : Nat) x, cells[c]? = some x → ∃ u, cs[c]? = some u ∧ VR ρ F w x u
  | .arr sz rows, cs => rows.length * sz ≤ cs.size ∧ (∀ row ∈ rows, row.length = sz) ∧ ∀ (i c : Nat) row x, rows[i]? = some row → row[c]? = some x → ∃ u, cs[i * sz + c]? = some u ∧ VR ρ F w x u

/-- A block that is there. -/
def live (H : Heap) (i : Nat) : Prop := ∃ b, H[i]? = some (some b)

structure Rel (ρ : Ren) (F : Nat → Prop) (H : Heap) (w : World) : Prop where
  blk : ∀ (i : Nat) b, H[i]? = some (some b) → (∃ g cs t, ρ i = some (some g) ∧ ¬ F g ∧ w.heap[g]? = some (.cells cs t (0, 0)) ∧ BlkR ρ F w b cs) ∨ (ρ i = some none ∧ ∃ sz, b = .arr sz [])
  inj : ∀ i j g, live H i → live H j → ρ i = some (some g) → ρ j = some (some g) → i = j
  fsz : ∀ g, F g → g < w.heap.size
  rsz : ∀ i g, ρ i = some (some g) → g < w.heap.size

/-- No name beyond the blocks is given yet. -/
def Fresh (ρ : Ren) (H : Heap) : Prop := ∀ i, H.length ≤ i → ρ i = none

/-- What became of the world. -/
structure Ext (ρ : Ren) (F : Nat → Prop) (H : Heap) (w : World) (ρ' : Ren) (F' : Nat → Prop) (H' : Heap) (w' : World) : Prop where
  pre : ∀ i, i < H.length → ρ' i = ρ i
  fsub : ∀ g, F g → F' g
  os : w'.os = w.os
  tape : w'.tape = w.tape
  output : w'.output = w.output
  size : w.heap.size ≤ w'.heap.size
  shape : ∀ g, g < w.heap.size → w'.shape? g = w.shape? g
  frame : ∀ g, g < w.heap.size → (∀ i, live H i → ρ i ≠ some (some g)) → w'.heap[g]? = w.heap[g]?
  fnew : ∀ g, F' g → F g ∨ w.heap.size ≤ g ∨ ∃ i, live H i ∧ ρ i = some (some g)
  len : H.length ≤ H'.length
  old : ∀ i, i < H.length → live H' i → live H i
  new : ∀ i g, H.length ≤ i → live H' i → ρ' i = some (some g) → w.heap.size ≤ g ∨ ∃ j, live H j ∧ ρ j = some (some g)

/-! ### What holds of values in later worlds -/
theorem shape_some {w : World} {g : Nat} {t : TypeId} {m : Nat} (h : w.shape? g = some (t, m)) : g < w.heap.size := by
  unfold World.shape? at h
  rcases Nat.lt_or_ge g w.heap.size with hlt | hge
  · exact hlt
  · rw [Array.getElem?_eq_none hge] at h; cases h

theorem VR.mono {ρ ρ' : Ren} {F F' : Nat → Prop} {w w' : World} {x : AV} {u : Value} (h : VR ρ F w x u) (hρ : ∀ i g, ρ i = some g → ρ' i = some g) (hF : ∀ g, F g → F' g)
    (hb : ∀ g, F g → w'.heap[g]? = w.heap[g]?) (hs : ∀ g t m, w.shape? g = some (t, m) → w'.shape? g = some (t, m)) : VR ρ' F' w' x u := by
  induction h with
  | any u => exact .any u
  | int k n => exact .int k n
  | bool b => exact .bool b
  | nilp => exact .nilp
  | agg l us hl h ih => exact .agg l us hl ih
  | tup l us hl h ih => exact .tup l us hl ih
  | ptr id c g h => exact .ptr id c g (hρ _ _ h)
  | eptr s i c n cap A h hi hs ih => exact .eptr s i c n cap A ih hi hs
  | own id sz off len lc cap m t A h hs' ho hl hc hm hf => exact .own id sz off len lc cap m t A (hρ _ _ h) hs' ho hl hc (hs _ _ _ hm) hf
  | own0 id sz off A h => exact .own0 id sz off A (fun e => by
    cases hh : ρ id with
    | none => exact h hh
    | some g => rw [hρ _ _ hh] at e; cases e)
  | efro sz cap A => exact .efro sz cap A
  | fro sz rows A cap U hz hc ha hn hU h ih =>
    refine .fro sz rows A cap U hz hc ha hn (fun i c row x h1 h2 => ?_) ih
    obtain ⟨a, ha, hsp, hf, hcell⟩ := hU i c row x h1 h2
    refine ⟨a, ha, hsp, hF _ hf, ?_⟩
    unfold World.cell? at hcell ⊢
    rw [hb _ hf]
    exact hcell
  | snil => exact .snil
  | emp A => exact .emp A
  | func f l us hl h ih => exact .func f l us hl ih

/-- Behind a step all values stand for what they stood for. -/
theorem Ext.vr {ρ ρ' : Ren} {F F' : Nat → Prop} {H H' : Heap} {w w' : World} (e : Ext ρ F H w ρ' F' H' w') (r : Rel ρ F H w) (f : Fresh ρ H) {x : AV} {u : Value} (h : VR ρ F w x u) : VR ρ' F' w' x u := by
  refine h.mono (fun i g hg => ?_) e.fsub (fun g hg => ?_) (fun g t m hm => ?_)
  · rcases Nat.lt_or_ge i H.length with hi | hi
    · rw [e.pre i hi]; exact hg
    · rw [f i hi] at hg; cases hg
  · refine e.frame g (r.fsz g hg) (fun i hi hρ => ?_)
    obtain ⟨b, hb⟩ := hi
    rcases r.blk i b hb with ⟨g', cs, t, h1, h2, _⟩ | ⟨h1, _⟩
    · rw [h1] at hρ
      cases hρ
      exact h2 hg
    · rw [h1] at hρ
      cases hρ
  · rw [e.shape g (shape_some hm)]; exact hm

theorem Ext.refl {ρ : Ren} {F : Nat → Prop} {H : Heap} {w : World} : Ext ρ F H w ρ F H w where
  pre := fun _ _ => rfl
  fsub := fun _ h => h
  os := rfl
  tape := rfl
  output := rfl
  size := Nat.le_refl _
  shape := fun _ _ => rfl
  frame := fun _ _ _ => rfl
  fnew := fun _ h => .inl h
  len := Nat.le_refl _
  old := fun _ _ h => h
  new := fun i g hi ⟨b, hb⟩ _ => by rw [List.getElem?_eq_none hi] at hb; cases hb

theorem Ext.trans {ρ ρ1 ρ2 : Ren} {F F1 F2 : Nat → Prop} {H H1 H2 : Heap} {w w1 w2 : World} (e : Ext ρ F H w ρ1 F1 H1 w1) (k : Ext ρ1 F1 H1 w1 ρ2 F2 H2 w2) : Ext ρ F H w ρ2 F2 H2 w2 := by
  have key : ∀ i g, live H1 i → ρ1 i = some (some g) → w.heap.size ≤ g ∨ ∃ j, live H j ∧ ρ j = some (some g) := by
    intro i g hi hg
    rcases Nat.lt_or_ge i H.length with hlt | hge
    · rw [e.pre i hlt] at hg
      exact .inr ⟨i, e.old i hlt hi, hg⟩
    · exact e.new i g hge hi hg
  refine { pre := fun i hi => (k.pre i (Nat.lt_of_lt_of_le hi e.len)).trans (e.pre i hi), fsub := fun g h => k.fsub g (e.fsub g h), os := k.os.trans e.os, tape := k.tape.trans e.tape, output := k.output.trans e.output, size := Nat.le_trans e.size k.size, shape := fun g hg => (k.shape g (Nat.lt_of_lt_of_le hg e.size)).trans (e.shape g hg), frame := ?_, fnew := ?_, len := Nat.le_trans e.len k.len, old := fun i hi hl => e.old i hi (k.old i (Nat.lt_of_lt_of_le hi e.len) hl), new := ?_ }
  · intro g hg hno
    refine (k.frame g (Nat.lt_of_lt_of_le hg e.size) (fun i hi hρ => ?_)).trans (e.frame g hg hno)
    rcases key i g hi hρ with h | ⟨j, hj, hρj⟩
    · omega
    · exact hno j hj hρj
  · intro g hg
    rcases k.fnew g hg with h | h | ⟨i, hi, hρ⟩
    · exact e.fnew g h
    · exact .inr (.inl (Nat.le_trans e.size h))
    · rcases key i g hi hρ with h | h
      · exact .inr (.inl h)
      · exact .inr (.inr h)
  · intro i g hi hl hρ
    rcases Nat.lt_or_ge i H1.length with hlt | hge
    · rw [k.pre i hlt] at hρ
      exact key i g (k.old i hlt hl) hρ
    · rcases k.new i g hge hl hρ with h | ⟨j, hj, hρj⟩
      · exact .inl (Nat.le_trans e.size h)
      · exact key j g hj hρj

/-- The slots. -/
def TR (ρ : Ren) (F : Nat → Prop) (w : World) (t : List AV) (a : Array Value) : Prop := t.length = a.size ∧ ∀ (i : Nat) x u, t[i]? = some x → a[i]? = some u → VR ρ F w x u

theorem Ext.tr {ρ ρ' : Ren} {F F' : Nat → Prop} {H H' : Heap} {w w' : World} (e : Ext ρ F H w ρ' F' H' w') (r : Rel ρ F H w) (f : Fresh ρ H) {t : List AV} {a : Array Value} (h : TR ρ F w t a) : TR ρ' F' w' t a :=
  ⟨h.1, fun i x u hx hu => e.vr r f (h.2 i x u hx hu)⟩

theorem TR.put {ρ : Ren} {F : Nat → Prop} {w : World} {t : List AV} {a : Array Value} (h : TR ρ F w t a) (d : Nat) {x : AV} {u : Value} (hx : VR ρ F w x u) : TR ρ F w (t.set d x) (a.setIfInBounds d u) := by
  refine ⟨by simp [h.1], fun i y v hy hv => ?_⟩
  rw [List.getElem?_set] at hy
  rw [Array.getElem?_setIfInBounds] at hv
  split at hy
  · rename_i hd
    subst hd
    rw [if_pos rfl] at hv
    split at hy
    · split at hv
      · cases hy; cases hv; exact hx
      · cases hv
    · cases hy
  · rename_i hd
    rw [if_neg hd] at hv
    exact h.2 i y v hy hv

theorem VR.drew {ρ : Ren} {F : Nat → Prop} {w : World} {x : AV} {u : Value} (h : VR ρ F w x u) : VR ρ F w.drew x u := h.mono (fun _ _ h => h) (fun _ h => h) (fun _ _ => rfl) (fun _ _ _ h => h)
end Go.Proofs.Ytkecenijjdpfdaa.AL
