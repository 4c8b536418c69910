/-
  What may be forgotten of blocks: those that nobody names, their names, and that a slice may be written; no conditions beyond each lemma's own.
-/
import Derived.Test.YtkecenijjdpfdaaAL15
namespace Go.Proofs.Ytkecenijjdpfdaa.AL
open Go
set_option linter.unusedVariables false
set_option linter.unusedSimpArgs false

mutual
/-- Other names. -/
def ren (τ : Nat → Nat) : AV → AV
  | .any => .any
  | .int k n => .int k n
  | .bool b => .bool b
  | .nilp => .nilp
  | .agg l => .agg (renL τ l)
  | .tup l => .tup (renL τ l)
  | .ptr id c => .ptr (τ id) c
  | .eptr s i c => .eptr (ren τ s) i c
  | .own id sz off len lc => .own (τ id) sz off len lc
  | .fro sz rows => .fro sz (renR τ rows)
  | .snil => .snil
  | .emp => .emp
  | .efro sz => .efro sz
  | .func f l => .func f (renL τ l)
def renL (τ : Nat → Nat) : List AV → List AV
  | [] => []
  | x :: xs => ren τ x :: renL τ xs
def renR (τ : Nat → Nat) : List (List AV) → List (List AV)
  | [] => []
  | r :: rs => renL τ r :: renR τ rs
end

theorem renL_map (τ : Nat → Nat) : ∀ l, renL τ l = l.map (ren τ)
  | [] => rfl
  | x :: xs => by simp [renL, renL_map τ xs]
theorem renR_map (τ : Nat → Nat) : ∀ l, renR τ l = l.map (renL τ)
  | [] => rfl
  | x :: xs => by simp [renR, renR_map τ xs]

def renB (τ : Nat → Nat) : Blk → Blk
  | .box l => .box (renL τ l)
  | .arr sz rows => .arr sz (renR τ rows)

/-- All names are D. -/
inductive Ids (D : Nat → Prop) : AV → Prop
  | any : Ids D .any
  | int (k : IntKind) (n : Int) : Ids D (.int k n)
  | bool (b : Bool) : Ids D (.bool b)
  | nilp : Ids D .nilp
  | agg (l : List AV) (h : ∀ x ∈ l, Ids D x) : Ids D (.agg l)
  | tup (l : List AV) (h : ∀ x ∈ l, Ids D x) : Ids D (.tup l)
  | ptr (id c : Nat) (h : D id) : Ids D (.ptr id c)
  | eptr (s : AV) (i c : Nat) (h : Ids D s) : Ids D (.eptr s i c)
  | own (id sz off len lc : Nat) (h : D id) : Ids D (.own id sz off len lc)
  | fro (sz : Nat) (rows : List (List AV)) (h : ∀ row ∈ rows, ∀ x ∈ row, Ids D x) : Ids D (.fro sz rows)
  | snil : Ids D .snil
  | emp : Ids D .emp
  | efro (sz : Nat) : Ids D (.efro sz)
  | func (f : FuncId) (l : List AV) (h : ∀ x ∈ l, Ids D x) : Ids D (.func f l)

def IdsB (D : Nat → Prop) : Blk → Prop
  | .box l => ∀ x ∈ l, Ids D x
  | .arr _ rows => ∀ row ∈ rows, ∀ x ∈ row, Ids D x

theorem Ids.mono {D D' : Nat → Prop} {x : AV} (h : Ids D x) (k : ∀ i, D i → D' i) : Ids D' x := by
  induction h with
  | any => exact .any
  | int k n => exact .int k n
  | bool b => exact .bool b
  | nilp => exact .nilp
  | agg l h ih => exact .agg l ih
  | tup l h ih => exact .tup l ih
  | ptr id c h => exact .ptr id c (k _ h)
  | eptr s i c h ih => exact .eptr s i c ih
  | own id sz off len lc h => exact .own _ _ _ _ _ (k _ h)
  | fro sz rows h ih => exact .fro sz rows ih
  | snil => exact .snil
  | emp => exact .emp
  | efro sz => exact .efro sz
  | func f l h ih => exact .func f l ih

theorem szv_ren (τ : Nat → Nat) (s : AV) : szv (ren τ s) = szv s := by cases s <;> rfl

/-- Names that stay. -/
theorem ren_id {D : Nat → Prop} {τ : Nat → Nat} (hτ : ∀ i, D i → τ i = i) {x : AV} (h : Ids D x) : ren τ x = x := by
  have hl : ∀ l : List AV, (∀ x ∈ l, ren τ x = x) → renL τ l = l := fun l h => by rw [renL_map]; exact (List.map_congr_left h).trans (List.map_id l)
  induction h with
  | agg l h ih => simp only [ren]; rw [hl l ih]
  | tup l h ih => simp only [ren]; rw [hl l ih]
  | func f l h ih => simp only [ren]; rw [hl l ih]
  | ptr id c h => simp only [ren]; rw [hτ _ h]
  | own id sz off len lc h => simp only [ren]; rw [hτ _ h]
  | eptr s i c h ih => simp only [ren]; rw [ih]
  | fro sz rows h ih =>
    simp only [ren]
    rw [renR_map, (List.map_congr_left fun row hr => hl row (ih row hr)).trans (List.map_id rows)]
  | _ => rfl

theorem renB_id {D : Nat → Prop} {τ : Nat → Nat} (hτ : ∀ i, D i → τ i = i) {b : Blk} (h : IdsB D b) : renB τ b = b := by
  have hl : ∀ l : List AV, (∀ x ∈ l, Ids D x) → renL τ l = l := fun l h => by rw [renL_map]; exact (List.map_congr_left fun x hx => ren_id hτ (h x hx)).trans (List.map_id l)
  cases b with
  | box l => simp only [renB]; rw [hl l h]
  | arr sz rows => simp only [renB]; rw [renR_map, (List.map_congr_left fun row hr => hl row (h row hr)).trans (List.map_id rows)]

/-- The names of what stands for a value are given. -/
theorem VR.ids {ρ : Ren} {F : Nat → Prop} {w : World} {x : AV} {u : Value} (h : VR ρ F w x u) : Ids (fun i => ρ i ≠ none) x := by
  have hl : ∀ (l : List AV) (us : List Value), l.length = us.length → (∀ (i : Nat) x u, l[i]? = some x → us[i]? = some u → Ids (fun i => ρ i ≠ none) x) → ∀ x ∈ l, Ids (fun i => ρ i ≠ none) x := by
    intro l us hlen h x hx
    obtain ⟨i, hi, rfl⟩ := List.getElem_of_mem hx
    exact h i _ _ (List.getElem?_eq_getElem hi) (List.getElem?_eq_getElem (by rw [← hlen]; exact hi))
  induction h with
  | any u => exact .any
  | int k n => exact .int k n
  | bool b => exact .bool b
  | nilp => exact .nilp
  | agg l us hlen h ih => exact .agg l (hl l us hlen ih)
  | tup l us hlen h ih => exact .tup l (hl l us hlen ih)
  | ptr id c g h => exact .ptr id c (by rw [h]; simp)
  | eptr s i c n cap A h hi hs ih => exact .eptr s i c ih
  | own id sz off len lc cap m t A h hs' ho hl hc hm hf => exact .own _ _ _ _ _ (by rw [h]; simp)
  | own0 id sz off A h => exact .own _ _ _ _ _ h
  | efro sz cap A => exact .efro sz
  | fro sz rows A cap U hz hc ha hn hU h ih =>
    refine .fro sz rows fun row hr x hx => ?_
    obtain ⟨i, hi, rfl⟩ := List.getElem_of_mem hr
    obtain ⟨c, hc, rfl⟩ := List.getElem_of_mem hx
    exact ih i c _ _ (List.getElem?_eq_getElem hi) (List.getElem?_eq_getElem hc)
  | snil => exact .snil
  | emp A => exact .emp
  | func f l us hlen h ih => exact .func f l (hl l us hlen ih)

open Classical in
/-- The places of names that were given anew. -/
noncomputable def back (ρ : Ren) (τ : Nat → Nat) (D : Nat → Prop) : Ren := fun i => if D i then ρ (τ i) else none

theorem VR.back {ρ : Ren} {F : Nat → Prop} {w : World} {τ : Nat → Nat} {D : Nat → Prop} {x : AV} (hD : Ids D x) : ∀ {u : Value}, VR ρ F w (ren τ x) u → VR (back ρ τ D) F w x u := by
  have hb : ∀ i, D i → AL.back ρ τ D i = ρ (τ i) := fun i hi => by simp [AL.back, hi]
  have hl : ∀ (l : List AV) (us : List Value), (∀ x ∈ l, ∀ {u : Value}, VR ρ F w (ren τ x) u → VR (AL.back ρ τ D) F w x u) → (∀ (i : Nat) y u, (renL τ l)[i]? = some y → us[i]? = some u → VR ρ F w y u) → ∀ (i : Nat) x u, l[i]? = some x → us[i]? = some u → VR (AL.back ρ τ D) F w x u := by
    intro l us h1 h2 i x u hx hu
    exact h1 x (List.mem_of_getElem? hx) (h2 i (ren τ x) u (by rw [renL_map, List.getElem?_map, hx]; rfl) hu)
  induction hD with
  | any => intro u _; exact .any u
  | int k n => intro u h; cases h; exact .int k n
  | bool b => intro u h; cases h; exact .bool b
  | nilp => intro u h; cases h; exact .nilp
  | agg l h ih => intro u hv; simp only [ren] at hv; cases hv with | agg _ us hlen h => exact .agg l us (by rw [← hlen, renL_map]; simp) (hl l us ih h)
  | tup l h ih => intro u hv; simp only [ren] at hv; cases hv with | tup _ us hlen h => exact .tup l us (by rw [← hlen, renL_map]; simp) (hl l us ih h)
  | func f l h ih => intro u hv; simp only [ren] at hv; cases hv with | func _ _ us hlen h => exact .func f l us (by rw [← hlen, renL_map]; simp) (hl l us ih h)
  | ptr id c h => intro u hv; simp only [ren] at hv; cases hv with | ptr _ _ g hg => exact .ptr id c g (by rw [hb _ h]; exact hg)
  | eptr s i c h ih =>
    intro u hv
    simp only [ren] at hv
    cases hv with
    | eptr _ _ _ n cap A h' hi hs => rw [szv_ren]; exact .eptr s i c n cap A (ih h') hi hs
  | own id sz off len lc h =>
    intro u hv
    simp only [ren] at hv
    cases hv with
    | own _ _ _ _ _ cap m t A hg hs ho hl hc hm hf => exact .own _ _ _ _ _ cap m t A (by rw [hb _ h]; exact hg) hs ho hl hc hm hf
    | own0 _ _ _ A hg => exact .own0 _ _ _ A (by rw [hb _ h]; exact hg)
  | fro sz rows h ih =>
    intro u hv
    simp only [ren] at hv
    cases hv with
    | fro _ _ A cap U hz hc ha hn hU hvr =>
      have get : ∀ (i : Nat) row, rows[i]? = some row → (renR τ rows)[i]? = some (renL τ row) := fun i row hr => by rw [renR_map, List.getElem?_map, hr]; rfl
      have getc : ∀ (row : List AV) (c : Nat) x, row[c]? = some x → (renL τ row)[c]? = some (ren τ x) := fun row c x hx => by rw [renL_map, List.getElem?_map, hx]; rfl
      have hlen : (renR τ rows).length = rows.length := by rw [renR_map]; simp
      rw [hlen] at hc ⊢
      refine .fro sz rows A cap U (fun row hr => ?_) hc (fun hne => ha (by rw [renR_map]; simpa using hne)) hn (fun i c row x h1 h2 => hU i c _ _ (get i row h1) (getc row c x h2)) (fun i c row x h1 h2 => ih row (List.mem_of_getElem? h1) x (List.mem_of_getElem? h2) (hvr i c _ _ (get i row h1) (getc row c x h2)))
      have := hz (renL τ row) (by rw [renR_map]; exact List.mem_map_of_mem hr)
      rw [renL_map] at this
      simpa using this
  | snil => intro u h; cases h; exact .snil
  | emp => intro u h; cases h; exact .emp _
  | efro sz => intro u h; cases h; exact .efro _ _ _

theorem BlkR.back {ρ : Ren} {F : Nat → Prop} {w : World} {τ : Nat → Nat} {D : Nat → Prop} {b : Blk} {cs : Array Value} (hD : IdsB D b) (h : BlkR ρ F w (renB τ b) cs) : BlkR (AL.back ρ τ D) F w b cs := by
  cases b with
  | box l =>
    refine ⟨by have := h.1; rw [renL_map] at this; simpa using this, fun c x hx => ?_⟩
    obtain ⟨u, hu, hv⟩ := h.2 c (ren τ x) (by rw [renL_map, List.getElem?_map, hx]; rfl)
    exact ⟨u, hu, hv.back (hD x (List.mem_of_getElem? hx))⟩
  | arr sz rows =>
    refine ⟨by have := h.1; rw [renR_map] at this; simpa using this, fun row hr => ?_, fun i c row x h1 h2 => ?_⟩
    · have := h.2.1 (renL τ row) (by rw [renR_map]; exact List.mem_map_of_mem hr)
      rw [renL_map] at this
      simpa using this
    · obtain ⟨u, hu, hv⟩ := h.2.2 i c (renL τ row) (ren τ x) (by rw [renR_map, List.getElem?_map, h1]; rfl) (by rw [renL_map, List.getElem?_map, h2]; rfl)
      exact ⟨u, hu, hv.back (hD row (List.mem_of_getElem? h1) x (List.mem_of_getElem? h2))⟩

/-- Of the blocks those are kept that τ names, under other names. -/
theorem Wk.keep {H0 H1 H' : Heap} {t1 t' : List AV} (τ : Nat → Nat) (h0 : H0.length ≤ H'.length) (hτ0 : ∀ i, i < H0.length → τ i = i) (hτ1 : ∀ i j, i < H'.length → j < H'.length → τ i = τ j → i = j) (hτ2 : ∀ i, H0.length ≤ i → i < H'.length → H0.length ≤ τ i)
    (ht : t'.length = t1.length ∧ ∀ (i : Nat) x, t'[i]? = some x → x = .any ∨ (t1[i]? = some (ren τ x) ∧ Ids (· < H'.length) x))
    (hb : ∀ (i : Nat) b, H'[i]? = some (some b) → (i < H0.length ∧ H0[i]? = some (some b) ∧ H1[i]? = some (some b)) ∨ (H1[τ i]? = some (some (renB τ b)) ∧ IdsB (· < H'.length) b)) : Wk H0 t1 H1 t' H' := by
  intro ρ0 F0 w0 r0 f0 ρ F w us r f tr e
  have hback : ∀ i, i < H'.length → AL.back ρ τ (· < H'.length) i = ρ (τ i) := fun i hi => by simp [AL.back, hi]
  have hold : ∀ i, i < H0.length → AL.back ρ τ (· < H'.length) i = ρ0 i := fun i hi => by rw [hback i (by omega), hτ0 i hi, e.pre i hi]
  have hlive : ∀ i, live H' i → live H1 (τ i) ∧ i < H'.length := fun i ⟨b, hib⟩ => by
    refine ⟨?_, (List.getElem?_eq_some_iff.1 hib).1⟩
    rcases hb i b hib with ⟨h1, _, h3⟩ | ⟨h1, _⟩
    · rw [hτ0 i h1]; exact ⟨b, h3⟩
    · exact ⟨_, h1⟩
  -- blocks that were there and are as they were
  have hsame : ∀ (i : Nat) b cs, H0[i]? = some (some b) → BlkR ρ F w b cs → BlkR (AL.back ρ τ (· < H'.length)) F w b cs := by
    intro i b cs h1 h2
    have hids : ∀ x, (∃ u, VR ρ0 F0 w0 x u) → Ids (· < H0.length) x := fun x ⟨u, hu⟩ => hu.ids.mono fun i hi => by
      rcases Nat.lt_or_ge i H0.length with h | h
      · exact h
      · exact absurd (f0 i h) hi
    have hI : IdsB (· < H0.length) b := by
      rcases r0.blk i b h1 with ⟨g, ca, tt, _, _, _, hB⟩ | ⟨_, sz, rfl⟩
      · cases b with
        | box l =>
          intro x hx
          obtain ⟨c, hc, rfl⟩ := List.getElem_of_mem hx
          obtain ⟨u, _, hv⟩ := hB.2 c _ (List.getElem?_eq_getElem hc)
          exact hids _ ⟨u, hv⟩
        | arr sz rows =>
          intro row hr x hx
          obtain ⟨k, hk, rfl⟩ := List.getElem_of_mem hr
          obtain ⟨c, hc, rfl⟩ := List.getElem_of_mem hx
          obtain ⟨u, _, hv⟩ := hB.2.2 k c _ _ (List.getElem?_eq_getElem hk) (List.getElem?_eq_getElem hc)
          exact hids _ ⟨u, hv⟩
      · intro row hr; cases hr
    have hI' : IdsB (· < H'.length) b := by
      cases b with
      | box l => exact fun x hx => (hI x hx).mono fun i hi => by omega
      | arr sz rows => exact fun row hr x hx => (hI row hr x hx).mono fun i hi => by omega
    refine BlkR.back hI' ?_
    rw [renB_id (D := (· < H0.length)) (fun i hi => hτ0 i hi) hI]
    exact h2
  have hblk : ∀ (i : Nat) b, H'[i]? = some (some b) → (∃ g cs t, AL.back ρ τ (· < H'.length) i = some (some g) ∧ ¬ F g ∧ w.heap[g]? = some (.cells cs t (0, 0)) ∧ BlkR (AL.back ρ τ (· < H'.length)) F w b cs) ∨ (AL.back ρ τ (· < H'.length) i = some none ∧ ∃ sz, b = .arr sz []) := by
    intro i b hi
    have hlt := (List.getElem?_eq_some_iff.1 hi).1
    rw [hback i hlt]
    rcases hb i b hi with ⟨h1, h2, h3⟩ | ⟨h1, h2⟩
    · rw [hτ0 i h1]
      rcases r.blk i b h3 with ⟨g, cs, tt, a1, a2, a3, a4⟩ | a
      · exact .inl ⟨g, cs, tt, a1, a2, a3, hsame i b cs h2 a4⟩
      · exact .inr a
    · rcases r.blk (τ i) _ h1 with ⟨g, cs, tt, a1, a2, a3, a4⟩ | ⟨a1, sz, a2⟩
      · exact .inl ⟨g, cs, tt, a1, a2, a3, BlkR.back h2 a4⟩
      · refine .inr ⟨a1, sz, ?_⟩
        cases b with
        | box l => simp [renB] at a2
        | arr sz' rows =>
          simp only [renB, Blk.arr.injEq] at a2
          obtain ⟨rfl, h⟩ := a2
          rw [renR_map] at h
          simp at h
          rw [h]
  refine ⟨AL.back ρ τ (· < H'.length), F, { blk := hblk, inj := ?_, fsz := r.fsz, rsz := ?_ }, fun i hi => ?_, ⟨by rw [ht.1]; exact tr.1, fun i x u hx hu => ?_⟩, { pre := hold, fsub := e.fsub, os := e.os, tape := e.tape, output := e.output, size := e.size, shape := e.shape, frame := e.frame, fnew := e.fnew, len := h0, old := ?_, new := ?_ }⟩
  · intro i j g hi hj h1 h2
    obtain ⟨a1, a2⟩ := hlive i hi
    obtain ⟨b1, b2⟩ := hlive j hj
    rw [hback i a2] at h1
    rw [hback j b2] at h2
    exact hτ1 i j a2 b2 (r.inj _ _ g a1 b1 h1 h2)
  · intro i g hg
    rcases Nat.lt_or_ge i H'.length with h | h
    · rw [hback i h] at hg; exact r.rsz _ g hg
    · simp [AL.back, Nat.not_lt.2 h] at hg
  · simp [AL.back, Nat.not_lt.2 hi]
  · rcases ht.2 i x hx with rfl | ⟨h1, h2⟩
    · exact .any _
    · exact VR.back h2 (tr.2 i _ u h1 hu)
  · intro i hi hl
    have := (hlive i hl).1
    rw [hτ0 i hi] at this
    exact e.old i hi this
  · intro i g hi hl hg
    obtain ⟨a1, a2⟩ := hlive i hl
    rw [hback i a2] at hg
    exact e.new (τ i) g (hτ2 i hi a2) a1 hg

/-- Nothing new is kept. -/
theorem Wk.drop {H L : Heap} {t1 t' : List AV} (ht : t'.length = t1.length ∧ ∀ (i : Nat) x, t'[i]? = some x → x = .any ∨ (t1[i]? = some x ∧ Ids (· < H.length) x)) : Wk H t1 (H ++ L) t' H := by
  refine Wk.keep (fun i => i) (Nat.le_refl _) (fun _ _ => rfl) (fun i j _ _ h => h) (fun i h1 h2 => by omega) ⟨ht.1, fun i x hx => ?_⟩ (fun i b hi => ?_)
  · rcases ht.2 i x hx with h | ⟨h1, h2⟩
    · exact .inl h
    · refine .inr ⟨?_, h2⟩
      rw [ren_id (D := (· < H.length)) (fun _ _ => rfl) h2]; exact h1
  · have hlt := (List.getElem?_eq_some_iff.1 hi).1
    exact .inl ⟨hlt, hi, by rw [List.getElem?_append_left hlt]; exact hi⟩
end Go.Proofs.Ytkecenijjdpfdaa.AL
