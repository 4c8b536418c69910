/-
  The program's records, as cells; lists of them that are gone through; no conditions beyond each lemma's own.
-/
import Derived.Test.YtkecenijjdpfdaaALT
import Derived.Test.YtkecenijjdpfdaaAL22
namespace Go.Proofs.Ytkecenijjdpfdaa.AL
open Go Go.Proofs.Ytkecenijjdpfdaa
set_option linter.unusedVariables false
set_option linter.unusedSimpArgs false

structure GVol where
  id : Int
  quota : Int
  root : Int
  deriving DecidableEq, Inhabited
structure GCell where
  vol : Int
  pos : Int
  val : Int
  deriving DecidableEq, Inhabited
structure GStep where
  has : Bool
  vol : Int
  pos : Int
  val : Int
  deriving DecidableEq, Inhabited
structure GBlock where
  refs : Int
  data : Int
  deriving DecidableEq, Inhabited
structure GOp where
  kind : Int
  vol : Int
  pos : Int
  val : Int
  deriving DecidableEq, Inhabited
structure GEntry where
  client : Int
  seq : Int
  op : GOp
  deriving DecidableEq, Inhabited
structure GSession where
  client : Int
  seq : Int
  reply : Int
  val : Int
  deriving DecidableEq, Inhabited
abbrev eInt (n : Int) : List AV := [.int .i64 n]
abbrev eBool (b : Bool) : List AV := [.bool b]
abbrev eVol (v : GVol) : List AV := [.int .i64 v.id, .int .i64 v.quota, .int .i64 v.root]
abbrev eCell (v : GCell) : List AV := [.int .i64 v.vol, .int .i64 v.pos, .int .i64 v.val]
abbrev eStep (v : GStep) : List AV := [.bool v.has, .int .i64 v.vol, .int .i64 v.pos, .int .i64 v.val]
abbrev eBlock (v : GBlock) : List AV := [.int .i64 v.refs, .int .i64 v.data]
abbrev eOp (v : GOp) : List AV := [.int .i64 v.kind, .int .i64 v.vol, .int .i64 v.pos, .int .i64 v.val]
abbrev eEntry (v : GEntry) : List AV := [.int .i64 v.client, .int .i64 v.seq, .int .i64 v.op.kind, .int .i64 v.op.vol, .int .i64 v.op.pos, .int .i64 v.op.val]
abbrev eSession (v : GSession) : List AV := [.int .i64 v.client, .int .i64 v.seq, .int .i64 v.reply, .int .i64 v.val]

def bit3 (k : Int) : Bool := decide (Int.tmod k 3 = 0)
def mInt (k : Int) : Int := k
def mBool (k : Int) : Bool := bit3 k
def mVol (k : Int) : GVol := ⟨k, k + 1, k + 2⟩
def mCell (k : Int) : GCell := ⟨k, k + 1, k + 2⟩
def mStep (k : Int) : GStep := ⟨bit3 k, k + 1, k + 2, k + 3⟩
def mBlock (k : Int) : GBlock := ⟨k, k + 1⟩
def mOp (k : Int) : GOp := ⟨k, k + 1, k + 2, k + 3⟩
def mEntry (k : Int) : GEntry := ⟨k, k + 1, ⟨k + 2, k + 3, k + 4, k + 5⟩⟩
def mSession (k : Int) : GSession := ⟨k, k + 1, k + 2, k + 3⟩

section
variable {α : Type} {e : α → List AV} {g : Int → α} {c k : Int} {xs ys : List α} {j n : Nat}
/-- What marking lays down. -/
def mks (g : Int → α) (c k : Int) (n : Nat) : List α := (List.range n).map fun i : Nat => g (k + c * (i : Int))
theorem mks_len : (mks g c k n).length = n := by simp [mks]
theorem mks_succ : mks g c k (n + 1) = mks g c k n ++ [g (k + c * n)] := by simp [mks, List.range_succ]
theorem mks_get (h : j < (mks g c k n).length) : (mks g c k n)[j] = g (k + c * j) := by simp [mks]
/-- Half marked. -/
def Mk (e : α → List AV) (g : Int → α) (c k : Int) (xs : List α) (j : Nat) : List (List AV) := (mks g c k j ++ xs.drop j).map e
theorem mk_0 : Mk e g c k xs 0 = xs.map e := by simp [Mk, mks]
theorem mk_len (h : j ≤ xs.length) : (Mk e g c k xs j).length = xs.length := by simp [Mk, mks_len]; omega
theorem mk_at (h : j < xs.length) : (Mk e g c k xs j).getD j [] = e xs[j] := by
  simp only [Mk, List.map_append, List.getD_eq_getElem?_getD]
  rw [List.getElem?_append_right (by simp [mks_len])]
  simp [mks_len, h]
theorem mk_set (h : j < xs.length) : (Mk e g c k xs j).set j (e (g (k + c * j))) = Mk e g c k xs (j + 1) := by
  unfold Mk
  rw [mks_succ, List.map_append, List.map_append, List.map_append, List.set_append_right _ _ (by simp [mks_len])]
  simp only [List.length_map, mks_len, Nat.sub_self, List.append_assoc]
  rw [List.drop_eq_getElem_cons h]
  rfl
theorem mk_set1 (h : j < xs.length) : (Mk e g 1 k xs j).set j (e (g (k + j))) = Mk e g 1 k xs (j + 1) := by have := mk_set (e := e) (g := g) (c := 1) (k := k) h; rwa [Int.one_mul] at this
theorem getD_take {l : List (List AV)} (h : j < n) : (l.take n).getD j [] = l.getD j [] := by
  simp [List.getD_eq_getElem?_getD, List.getElem?_take, h]
theorem getD_set {l : List (List AV)} {r : List AV} (h : j < l.length) : (l.set j r).getD j [] = r := by
  simp [List.getD_eq_getElem?_getD, h]
theorem take_ne {α : Type} {xs ys : List α} {j : Nat} (h1 : j < xs.length) (h2 : j < ys.length) (h : xs.take j = ys.take j) (he : xs[j] = ys[j]) : xs.take (j + 1) = ys.take (j + 1) := by
  rw [List.take_succ_eq_append_getElem h1, List.take_succ_eq_append_getElem h2, h, he]
theorem hset_get {H : Heap} {id : Nat} {x : Option Blk} (h : id < H.length) : (H.set id x)[id]? = some x := by simp [h]
theorem hset_same {H : Heap} {id : Nat} {x : Option Blk} (h : H[id]? = some x) : H.set id x = H := by
  apply List.ext_getElem?
  intro i
  rw [List.getElem?_set]
  by_cases hi : id = i
  · subst hi
    rw [if_pos rfl, if_pos (List.getElem?_eq_some_iff.1 h).1, h]
  · rw [if_neg hi]
theorem wrap_k {a : Int} (h0 : 0 ≤ a) (h1 : a ≤ 4611686018427387904) : IntKind.i64.wrap (a + 1) = a + 1 := wrap_in (by omega) (by omega)
theorem lt_of_blk {H : Heap} {id : Nat} {b : Blk} (h : H[id]? = some (some b)) : id < H.length := (List.getElem?_eq_some_iff.1 h).1
end

/-! ### Words for what functions compute -/
def nth {α : Type} [Inhabited α] (xs : List α) (j : Nat) : α := xs.getD j default
theorem nth_eq {α : Type} [Inhabited α] {xs : List α} {j : Nat} (h : j < xs.length) : nth xs j = xs[j] := by simp [nth, List.getD_eq_getElem?_getD, h]
theorem getD_nth {α : Type} [Inhabited α] {e : α → List AV} {xs : List α} {j : Nat} (h : j < xs.length) : (xs.map e).getD j [] = e (nth xs j) := by rw [getD_map h, nth_eq h]
/-- Within bounds. -/
def inR (a lo hi : Int) : Bool := decide (lo ≤ a) && decide (a ≤ hi)
/-- The first of n answers that is not 0. -/
def fnz (f : Nat → Int) : Nat → Int
  | 0 => 0
  | n + 1 => if fnz f n = 0 then f n else fnz f n
theorem fnz_0 {f : Nat → Int} {n : Nat} (h : ∀ i, i < n → f i = 0) : fnz f n = 0 := by
  induction n with
  | zero => rfl
  | succ n ih => rw [fnz, if_pos (ih fun i hi => h i (by omega)), h n (by omega)]
theorem fnz_at {f : Nat → Int} {n j : Nat} (h : ∀ i, i < j → f i = 0) (hj : j < n) (hf : f j ≠ 0) : fnz f n = f j := by
  induction n with
  | zero => omega
  | succ n ih =>
    rcases Nat.lt_or_ge j n with hlt | hge
    · rw [fnz, ih hlt, if_neg hf]
    · obtain rfl : j = n := by omega
      rw [fnz, if_pos (fnz_0 h)]
theorem fnz_is {f : Nat → Int} {n j : Nat} {v : Int} (h : ∀ i, i < j → f i = 0) (hj : j < n) (hf : f j = v) (hv : v ≠ 0) : fnz f n = v := by
  rw [fnz_at h hj (by rw [hf]; exact hv), hf]
theorem up_succ {f : Nat → Int} {j : Nat} (h : ∀ i, i < j → f i = 0) (hf : f j = 0) : ∀ i, i < j + 1 → f i = 0 := fun i hi => by
  rcases Nat.lt_or_ge i j with h1 | h1
  · exact h i h1
  · obtain rfl : i = j := by omega
    exact hf
theorem fnz_zero {f : Nat → Int} : ∀ {n : Nat}, fnz f n = 0 → ∀ i, i < n → f i = 0
  | 0, _, i, hi => by omega
  | n + 1, h, i, hi => by
    unfold fnz at h
    by_cases h0 : fnz f n = 0
    · rw [if_pos h0] at h
      rcases Nat.lt_or_ge i n with h1 | h1
      · exact fnz_zero h0 i h1
      · obtain rfl : i = n := by omega
        exact h
    · rw [if_neg h0] at h; exact absurd h h0
/-- Where the first element of a kind stands; -1: none. -/
def at_ {α : Type} (p : α → Bool) (xs : List α) : Int := if xs.any p then xs.findIdx p else -1
theorem at_none {α : Type} [Inhabited α] {p : α → Bool} {xs : List α} (h : ∀ i, i < xs.length → p (nth xs i) = false) : at_ p xs = -1 := by
  have : xs.any p = false := by
    rw [List.any_eq_false]
    intro x hx
    obtain ⟨i, hi, rfl⟩ := List.getElem_of_mem hx
    have := h i hi
    rw [nth_eq hi] at this
    simp [this]
  simp [at_, this]
theorem at_some {α : Type} [Inhabited α] {p : α → Bool} {xs : List α} {j : Nat} (h : ∀ i, i < j → p (nth xs i) = false) (hj : j < xs.length) (hp : p (nth xs j) = true) : at_ p xs = (j : Int) := by
  rw [nth_eq hj] at hp
  have h1 : xs.any p = true := List.any_eq_true.2 ⟨_, List.getElem_mem hj, hp⟩
  have h2 : xs.findIdx p = j := by
    rw [List.findIdx_eq hj]
    refine ⟨hp, fun i hi => ?_⟩
    have := h i hi
    rwa [nth_eq (Nat.lt_trans hi hj)] at this
  simp [at_, h1, h2]
theorem no_succ {p : Nat → Bool} {j : Nat} (h : ∀ i, i < j → p i = false) (hf : p j = false) : ∀ i, i < j + 1 → p i = false := fun i hi => by
  rcases Nat.lt_or_ge i j with h1 | h1
  · exact h i h1
  · obtain rfl : i = j := by omega
    exact hf
theorem all_succ {P : Nat → Prop} {j : Nat} (h : ∀ i, i < j → P i) (hf : P j) : ∀ i, i < j + 1 → P i := fun i hi => by
  rcases Nat.lt_or_ge i j with h1 | h1
  · exact h i h1
  · obtain rfl : i = j := by omega
    exact hf
theorem at_lt {α : Type} {p : α → Bool} {xs : List α} : at_ p xs < (xs.length : Int) ∧ -1 ≤ at_ p xs := by
  unfold at_
  split
  · rename_i h
    have : xs.findIdx p < xs.length := List.findIdx_lt_length.2 (by simpa using h)
    omega
  · omega
theorem at_cases {α : Type} [Inhabited α] (p : α → Bool) (xs : List α) : (at_ p xs = -1 ∧ xs.any p = false) ∨ ∃ j : Nat, at_ p xs = (j : Int) ∧ j < xs.length ∧ p (nth xs j) = true ∧ ∀ i, i < j → p (nth xs i) = false := by
  cases h : xs.any p with
  | false => exact .inl ⟨by simp [at_, h], rfl⟩
  | true =>
    have hlt : xs.findIdx p < xs.length := List.findIdx_lt_length.2 (by simpa using h)
    refine .inr ⟨xs.findIdx p, by simp [at_, h], hlt, ?_, fun i hi => ?_⟩
    · rw [nth_eq hlt]; exact List.findIdx_getElem
    · rw [nth_eq (Nat.lt_trans hi hlt)]; simpa using List.not_of_lt_findIdx hi
def cnt {α : Type} (p : α → Bool) (xs : List α) : Nat := (xs.filter p).length

theorem wrap_pred {j : Nat} (hb : j ≤ 9223372036854775807) : IntKind.i64.wrap ((j : Int) - 1) = (j : Int) - 1 := wrap_in (by omega) (by omega)
theorem toNat_pred {j : Nat} : ((j : Int) - 1).toNat = j - 1 := by omega
/-- A box. -/
structure Bx (H : Heap) (id : Nat) (cells : List AV) : Prop where
  get : H[id]? = some (some (.box cells))
theorem Bx.lt {H : Heap} {id : Nat} {cells : List AV} (h : Bx H id cells) : id < H.length := lt_of_blk h.get
theorem Bx.app {H : Heap} {id : Nat} {cells : List AV} (h : Bx H id cells) (L : Heap) : (H ++ L)[id]? = some (some (.box cells)) := by rw [List.getElem?_append_left h.lt]; exact h.get
theorem Bx.more {H : Heap} {id : Nat} {cells : List AV} (h : Bx H id cells) (L : Heap) : Bx (H ++ L) id cells := ⟨h.app L⟩

theorem sl_own {H : Heap} {id sz lc : Nat} {rows : List (List AV)} (hH : H[id]? = some (some (.arr sz rows))) (hr : ∀ row ∈ rows, RowOk sz row) (hlc : rows.length ≤ lc) : Sl H (.own id sz 0 rows.length lc) sz rows :=
  ⟨by simp only [rowsOf, hH, true_and, Nat.zero_add, Nat.le_refl, if_true, List.drop_zero, List.take_length], by simp [szOk], hr, hlc⟩
theorem sl_map {α : Type} {e : α → List AV} {H : Heap} {id sz lc : Nat} {xs : List α} (hH : H[id]? = some (some (.arr sz (xs.map e)))) (hr : ∀ x, RowOk sz (e x)) (hlc : xs.length ≤ lc) : Sl H (.own id sz 0 xs.length lc) sz (xs.map e) := by
  have := sl_own hH (fun row h => by obtain ⟨x, _, rfl⟩ := List.mem_map.1 h; exact hr x) (lc := lc) (by simpa using hlc)
  rwa [List.length_map] at this
theorem sl_mapn {α : Type} {e : α → List AV} {H : Heap} {id sz n lc : Nat} {xs : List α} (hH : H[id]? = some (some (.arr sz (xs.map e)))) (hr : ∀ x, RowOk sz (e x)) (hn : n = xs.length) (hlc : n ≤ lc) : Sl H (.own id sz 0 n lc) sz (xs.map e) := by subst hn; exact sl_map hH hr hlc
theorem row_int : ∀ x, RowOk 1 (eInt x) := fun _ => ⟨rfl, rfl⟩
theorem row_vol : ∀ x, RowOk 3 (eVol x) := fun _ => ⟨rfl, rfl⟩
theorem row_cell : ∀ x, RowOk 3 (eCell x) := fun _ => ⟨rfl, rfl⟩
theorem row_step : ∀ x, RowOk 4 (eStep x) := fun _ => ⟨rfl, rfl⟩
theorem row_block : ∀ x, RowOk 2 (eBlock x) := fun _ => ⟨rfl, rfl⟩
theorem row_entry : ∀ x, RowOk 6 (eEntry x) := fun _ => ⟨rfl, rfl⟩
theorem row_session : ∀ x, RowOk 4 (eSession x) := fun _ => ⟨rfl, rfl⟩
theorem filt_none {α : Type} {p : α → Bool} {xs : List α} (h : xs.any p = false) : (xs.filter fun x => !p x) = xs := by
  rw [List.filter_eq_self]
  intro x hx
  rw [List.any_eq_false] at h
  simp [h x hx]
theorem filt_le {α : Type} {q : α → Bool} {xs : List α} {j : Nat} : ((xs.take j).filter q).length ≤ j := Nat.le_trans (List.length_filter_le _ _) (by simp; omega)

theorem bx_new {H L : Heap} {l : List AV} : Bx (H ++ (some (.box l) :: L)) H.length l := ⟨by rw [hget0]; rfl⟩

theorem bx_new1 {H L : Heap} {b : Option Blk} {l : List AV} : Bx (H ++ (b :: some (.box l) :: L)) (H.length + 1) l := ⟨by rw [hgetS]; rfl⟩

/-- Elements that name no block. -/
def Flat {α : Type} (e : α → List AV) : Prop := ∀ x n, LtL n (e x)
theorem Sl.flt {α : Type} {e : α → List AV} {H : Heap} {s : AV} {sz : Nat} {xs : List α} (h : Sl H s sz (xs.map e)) (he : Flat e) : Lt H.length s := h.lt fun row hr => by
  obtain ⟨x, _, rfl⟩ := List.mem_map.1 hr
  exact he x _
theorem Flat.ids {α : Type} {e : α → List AV} (he : Flat e) {n sz : Nat} {xs : List α} : IdsB (· < n) (.arr sz (xs.map e)) := fun row hr => by
  obtain ⟨x, _, rfl⟩ := List.mem_map.1 hr
  exact he x _
theorem flat_int : Flat eInt := fun x n => by simp only [eInt, ltL_cons, ltL_nil, lt_int, and_self]
theorem flat_vol : Flat eVol := fun x n => by simp only [eVol, ltL_cons, ltL_nil, lt_int, and_self]
theorem flat_cell : Flat eCell := fun x n => by simp only [eCell, ltL_cons, ltL_nil, lt_int, and_self]
theorem flat_step : Flat eStep := fun x n => by simp only [eStep, ltL_cons, ltL_nil, lt_int, lt_bool, and_self]
theorem flat_block : Flat eBlock := fun x n => by simp only [eBlock, ltL_cons, ltL_nil, lt_int, and_self]
theorem flat_entry : Flat eEntry := fun x n => by simp only [eEntry, ltL_cons, ltL_nil, lt_int, and_self]
theorem flat_session : Flat eSession := fun x n => by simp only [eSession, ltL_cons, ltL_nil, lt_int, and_self]

/-! ### Volumes -/
def volF (xs : List GVol) (i : Nat) : Int :=
  if !inR (nth xs i).id 1 99 || !inR (nth xs i).quota 1 16 || decide ((nth xs i).root ≠ -1) then 3
  else if decide (0 < i) && decide ((nth xs i).id ≤ (nth xs (i - 1)).id) then 1 else 0
def volsF (xs : List GVol) : Int := fnz (volF xs) xs.length
theorem inR_iff {a b c : Int} : inR a b c = true ↔ b ≤ a ∧ a ≤ c := by simp [inR]
theorem volsF_ok {xs : List GVol} (h : volsF xs = 0) {j : Nat} (hj : j < xs.length) : (1 ≤ (nth xs j).id ∧ (nth xs j).id ≤ 99) ∧ (1 ≤ (nth xs j).quota ∧ (nth xs j).quota ≤ 16) ∧ (nth xs j).root = -1 := by
  have h1 := fnz_zero h j hj
  unfold volF at h1
  split at h1
  · cases h1
  · rename_i h2
    simp only [Bool.or_eq_true, Bool.not_eq_true', decide_eq_true_eq, not_or, Bool.not_eq_false, Decidable.not_not, ne_eq] at h2
    exact ⟨inR_iff.1 h2.1.1, inR_iff.1 h2.1.2, h2.2⟩

theorem cnt_0 {α : Type} {p : α → Bool} {xs : List α} : cnt p (xs.take 0) = 0 := rfl
theorem cnt_succ {α : Type} [Inhabited α] {p : α → Bool} {xs : List α} {j : Nat} (h : j < xs.length) : cnt p (xs.take (j + 1)) = cnt p (xs.take j) + if p (nth xs j) then 1 else 0 := by
  rw [cnt, cnt, List.take_succ_eq_append_getElem h, List.filter_append, List.length_append, nth_eq h]
  congr 1
  cases hp : p xs[j] <;> simp [hp]
theorem cnt_le {α : Type} {p : α → Bool} {xs : List α} {j : Nat} : cnt p (xs.take j) ≤ j := Nat.le_trans (List.length_filter_le _ _) (by simp; omega)
theorem cnt_all {α : Type} {p : α → Bool} {xs : List α} : cnt p (xs.take xs.length) = cnt p xs := by rw [List.take_length]

/-- A list that is thinned out in its own place. -/
def Df {α : Type} (q : α → Bool) (xs : List α) (j : Nat) : List α := (xs.take j).filter q ++ xs.drop ((xs.take j).filter q).length
theorem df_len {α : Type} {q : α → Bool} {xs : List α} {j : Nat} : (Df q xs j).length = xs.length := by
  have h1 : ((xs.take j).filter q).length ≤ (xs.take j).length := List.length_filter_le _ _
  simp only [List.length_take] at h1
  simp only [Df, List.length_append, List.length_drop]
  omega
section
variable {α : Type} [Inhabited α] {q : α → Bool} {xs : List α} {e : α → List AV} {j : Nat}
theorem df_at (h : j < xs.length) : ((Df q xs j).map e).getD j [] = e (nth xs j) := by
  have h1 : ((xs.take j).filter q).length ≤ (xs.take j).length := List.length_filter_le _ _
  simp only [List.length_take] at h1
  rw [nth_eq h, List.getD_eq_getElem?_getD, List.getElem?_map, Df, List.getElem?_append_right (by omega), List.getElem?_drop]
  rw [show ((xs.take j).filter q).length + (j - ((xs.take j).filter q).length) = j by omega, List.getElem?_eq_getElem h]
  rfl
theorem df_take (h : j < xs.length) : (xs.take (j + 1)).filter q = (xs.take j).filter q ++ if q (nth xs j) then [nth xs j] else [] := by
  rw [List.take_succ_eq_append_getElem h, List.filter_append, nth_eq h]
  congr 1
  cases hp : q xs[j] <;> simp only [List.filter_cons, hp, List.filter_nil, if_true, if_false, Bool.false_eq_true]
theorem df_keep (h : j < xs.length) (hq : q (nth xs j) = false) : Df q xs (j + 1) = Df q xs j ∧ ((xs.take (j + 1)).filter q).length = ((xs.take j).filter q).length := by
  rw [Df, Df, df_take h, hq]
  simp only [Bool.false_eq_true, if_false, List.append_nil, and_self]
theorem df_set (h : j < xs.length) (hq : q (nth xs j) = true) : ((Df q xs j).map e).set ((xs.take j).filter q).length (e (nth xs j)) = (Df q xs (j + 1)).map e ∧ ((xs.take (j + 1)).filter q).length = ((xs.take j).filter q).length + 1 := by
  have h1 : ((xs.take j).filter q).length ≤ (xs.take j).length := List.length_filter_le _ _
  simp only [List.length_take] at h1
  have hf := df_take (q := q) h
  rw [hq, if_pos rfl] at hf
  refine ⟨?_, by rw [hf, List.length_append]; rfl⟩
  rw [← List.map_set, Df, Df, hf, List.set_append_right _ _ (Nat.le_refl _), Nat.sub_self, List.drop_eq_getElem_cons (i := ((xs.take j).filter q).length) (by omega), List.length_append, List.length_singleton, List.set_cons_zero, List.append_assoc]
  rfl
omit [Inhabited α] in
theorem df_end {z : List AV} : ((Df q xs xs.length).map e).take (xs.filter q).length ++ (List.replicate ((xs.length : Int) - ((xs.filter q).length : Int)).toNat z ++ ((Df q xs xs.length).map e).drop ((xs.filter q).length + (List.replicate ((xs.length : Int) - ((xs.filter q).length : Int)).toNat z).length)) = (xs.filter q).map e ++ List.replicate (xs.length - (xs.filter q).length) z := by
  have h1 : (xs.filter q).length ≤ xs.length := List.length_filter_le _ _
  have h2 : ((xs.length : Int) - ((xs.filter q).length : Int)).toNat = xs.length - (xs.filter q).length := by omega
  rw [h2, List.length_replicate, show (xs.filter q).length + (xs.length - (xs.filter q).length) = xs.length by omega]
  rw [List.drop_eq_nil_of_le (by rw [List.length_map, df_len]; exact Nat.le_refl _), List.append_nil]
  congr 1
  rw [Df, List.take_length, List.map_append, List.take_append_of_le_length (by rw [List.length_map]; exact Nat.le_refl _), List.take_of_length_le (by rw [List.length_map]; exact Nat.le_refl _)]
theorem df_first (h : ∀ i, i < j → q (nth xs i) = true) (hj : j < xs.length) (hq : q (nth xs j) = false) : ((xs.take (j + 1)).filter q).length = j ∧ Df q xs (j + 1) = xs := by
  have hall : (xs.take j).filter q = xs.take j := by
    rw [List.filter_eq_self]
    intro x hx
    obtain ⟨i, hi, rfl⟩ := List.getElem_of_mem hx
    rw [List.length_take] at hi
    have := h i (by omega)
    rw [nth_eq (by omega)] at this
    simpa only [List.getElem_take] using this
  obtain ⟨h1, h2⟩ := df_keep hj hq
  rw [h1, h2, Df, hall]
  have : (xs.take j).length = j := by simp; omega
  rw [this]
  exact ⟨rfl, List.take_append_drop j xs⟩
end

structure GPlain where
  blocks : Int
  vols : List GVol
  cells : List GCell
  shares : List Int
  deriving DecidableEq, Inhabited
structure GDelta where
  fr : Int
  to : Int
  vols : List GVol
  steps : List GStep
  deriving DecidableEq, Inhabited
theorem any_no {α : Type} [Inhabited α] {p : α → Bool} {xs : List α} (h : ∀ i, i < xs.length → p (nth xs i) = false) : xs.any p = false := by
  rw [List.any_eq_false]
  intro x hx
  obtain ⟨i, hi, rfl⟩ := List.getElem_of_mem hx
  have := h i hi
  rw [nth_eq hi] at this
  simp [this]
theorem any_yes {α : Type} [Inhabited α] {p : α → Bool} {xs : List α} {j : Nat} (hj : j < xs.length) (h : p (nth xs j) = true) : xs.any p = true := by
  rw [nth_eq hj] at h
  exact List.any_eq_true.2 ⟨_, List.getElem_mem hj, h⟩

/-! ### Behind blocks of one's own -/
theorem wk_0a {H A L : Heap} {t t' : List AV} (ht : SlKs (H ++ A).length [] t t') : Wk (H ++ A) t (H ++ (A ++ L)) t' (H ++ A) := by
  rw [← List.append_assoc]; exact wk_0 ht
theorem Lt.app {H : Heap} {x : AV} (h : Lt H.length x) (A : Heap) : Lt (H ++ A).length x := h.le (by simp)
theorem lt_new {H : Heap} {n : Nat} {A : Heap} (h : n < A.length) : H.length + n < (H ++ A).length := by simp; exact h
theorem lt_new0 {H : Heap} {b : Option Blk} {A : Heap} : H.length < (H ++ b :: A).length := by simp

/-! ### Slices that grow -/
theorem slK_at {n : Nat} {ks : List Nat} {id id' sz off len lc len' lc' : Nat} (j : Nat) (hj : j < ks.length) (h1 : id' = n + j) (h2 : id = n + ks.getD j 0) (h3 : len = len') (h4 : lc = lc') : SlK n ks (.own id sz off len lc) (.own id' sz off len' lc') := by
  subst h1; subst h3; subst h4
  exact slK_own hj h2 rfl rfl rfl rfl
theorem wk_grow {H A B L : Heap} {b : Blk} {t t' : List AV} (k : Nat) (hs : Sub (H ++ B) (H ++ A)) (ht : SlKs (H ++ A).length [k] t t') (hb : L[k]? = some (some b)) (hi : IdsB (· < (H ++ A).length) b) : Wk (H ++ A) t (H ++ (B ++ L)) t' (H ++ (B ++ [some b])) := by
  rw [← List.append_assoc, ← List.append_assoc]
  exact wkb_1 hs k ht hb hi
theorem wk_name {H A : Heap} {b : Blk} {t t' : List AV} (k : Nat) (hb : A[k]? = some (some b)) (ht : SlMs (H.length + k) (H ++ A).length t t') : Wk (H ++ A) t (H ++ A) t' (H ++ (A.set k none ++ [some b])) := by
  have := wk_mv (H0 := H ++ A) (H := H ++ A) (H.length + k) (by rw [hgetS]; exact hb) ht
  rwa [hsetS, List.append_assoc] at this
theorem sub_name {H A : Heap} (k : Nat) : Sub (H ++ A.set k none) (H ++ A) := by
  have := sub_none (id := H.length + k) (sub_refl (H := H ++ A))
  rwa [hsetS] at this
theorem flat_app {α β : Type} [Inhabited α] {f : α → List β} {xs : List α} {j : Nat} (h : j < xs.length) : (xs.take (j + 1)).flatMap f = (xs.take j).flatMap f ++ f (nth xs j) := by
  rw [nth_eq h, List.take_succ_eq_append_getElem h, List.flatMap_append]
  simp
theorem take_all {l : List (List AV)} {n : Nat} (h : l.length = n) : l.take n = l := List.take_of_length_le (by omega)

/-! ### What a law may take -/
def szI (l : Int) (n : Nat) : Int := if IntKind.i64.wrap (l - n) < 0 then -1 else IntKind.i64.wrap (l - n)
def szs : Int → List Nat → Int
  | l, [] => l
  | l, n :: ns => if szI l n < 0 then -1 else szs (szI l n) ns
theorem szs_le : ∀ {ns : List Nat} {l : Int}, 0 ≤ l → l ≤ 1048576 → (∀ n ∈ ns, n ≤ 9223372036854775807) → 0 ≤ szs l ns → ∀ n ∈ ns, (n : Int) ≤ l
  | [], l, _, _, _, _, n, hn => by cases hn
  | m :: ns, l, h0, h1, hb, h, n, hn => by
    have hm := hb m (List.mem_cons_self ..)
    have hw : IntKind.i64.wrap (l - (m : Int)) = l - m := wrap_in (by omega) (by omega)
    unfold szs at h
    by_cases hlt : l - (m : Int) < 0
    · have : szI l m = -1 := by rw [szI, hw, if_pos hlt]
      rw [this, if_pos (by decide)] at h
      exact absurd h (by decide)
    · have h2 : szI l m = l - m := by rw [szI, hw, if_neg hlt]
      rw [h2, if_neg hlt] at h
      rcases List.mem_cons.1 hn with rfl | hn
      · omega
      · have := szs_le (l := l - m) (by omega) (by omega) (fun n hn => hb n (List.mem_cons_of_mem _ hn)) h n hn
        omega

/-! ### Some new blocks are kept -/
theorem ks_inj {ks : List Nat} (h : ks.Nodup) : ∀ i j, i < ks.length → j < ks.length → ks.getD i 0 = ks.getD j 0 → i = j := fun i j hi hj e => by
  simp only [List.getD_eq_getElem?_getD, List.getElem?_eq_getElem hi, List.getElem?_eq_getElem hj, Option.getD_some] at e
  exact (List.getElem_inj h).1 e
theorem Flat.ren {α : Type} {e : α → List AV} (he : Flat e) {n sz : Nat} {ks : List Nat} {xs : List α} : renB (tau n ks) (.arr sz (xs.map e)) = .arr sz (xs.map e) := renB_id (D := (· < n)) (fun i hi => tau_lt hi) he.ids

theorem Flat.fz {α : Type} {e : α → List AV} (he : Flat e) {H L : Heap} {k sz lc : Nat} {xs : List α} (hL : L[k]? = some (some (.arr sz (xs.map e)))) : Fz H.length (H ++ L) (.own (H.length + k) sz 0 xs.length lc) (.fro sz (xs.map e)) := by
  have := fz_own (H := H) (lc := lc) hL (fun row hr => by obtain ⟨x, _, rfl⟩ := List.mem_map.1 hr; exact he x _)
  rwa [List.length_map] at this
theorem Flat.fz0 {α : Type} {e : α → List AV} (he : Flat e) {H L : Heap} {sz lc : Nat} {xs : List α} (hL : L[0]? = some (some (.arr sz (xs.map e)))) : Fz H.length (H ++ L) (.own H.length sz 0 xs.length lc) (.fro sz (xs.map e)) := he.fz (k := 0) hL
theorem sl_fro {α : Type} {e : α → List AV} {H : Heap} {sz : Nat} {xs : List α} (hr : ∀ x, RowOk sz (e x)) : Sl H (.fro sz (xs.map e)) sz (xs.map e) := ⟨rfl, by simp [szOk], fun row h => by obtain ⟨x, _, rfl⟩ := List.mem_map.1 h; exact hr x, trivial⟩

def ePlain (p : GPlain) : List AV := [.int .i64 p.blocks, .fro 3 (p.vols.map eVol), .fro 3 (p.cells.map eCell), .fro 1 (p.shares.map eInt)]
def eDelta (d : GDelta) : List AV := [.int .i64 d.fr, .int .i64 d.to, .fro 3 (d.vols.map eVol), .fro 4 (d.steps.map eStep)]

theorem mk_all {α : Type} {e : α → List AV} {g : Int → α} {c k : Int} {xs : List α} : Mk e g c k xs xs.length = (mks g c k xs.length).map e := by simp [Mk]
theorem get_app {H L : Heap} {id : Nat} {x : Option Blk} (h : H[id]? = some x) : (H ++ L)[id]? = some x := by rw [List.getElem?_append_left (List.getElem?_eq_some_iff.1 h).1]; exact h

theorem hset_app2 {H L : Heap} {k i : Nat} {b x : Option Blk} (h : i < H.length) : (H.set k b ++ L).set i x = (H.set k b).set i x ++ L := by rw [List.set_append_left _ _ (by simpa using h)]
end Go.Proofs.Ytkecenijjdpfdaa.AL
