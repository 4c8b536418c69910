/-
  Structs of numbers and bools, also nested, are compared cell by cell; no conditions beyond each lemma's own.
-/
import Derived.Test.YtkecenijjdpfdaaAL5
import Derived.DeepKeys
namespace Go.Proofs.Ytkecenijjdpfdaa.AL
open Go
set_option linter.unusedVariables false
set_option linter.unusedSimpArgs false

def eqFB (P : Program) (g : TypeId → List AV → Bool) : List Field → List AV → Nat → Bool
  | [], zs, _ => zs.isEmpty
  | f :: fs, zs, off => f.name != "_" && f.offset == off && decide (P.cellsOf f.type ≤ zs.length) && g f.type (zs.take (P.cellsOf f.type)) && eqFB P g fs (zs.drop (P.cellsOf f.type)) (off + P.cellsOf f.type)

def eqB (P : Program) : Nat → TypeId → List AV → Bool
  | 0, _, _ => false
  | d + 1, t, zs =>
    match P.underlying t with
    | some (.int k) => (match zs with | [.int k' _] => k == k' | _ => false)
    | some .bool => (match zs with | [.bool _] => true | _ => false)
    | some (.struct fs) => !P.stoodInHeld t && eqFB P (eqB P d) fs.toList zs 0
    | _ => false

/-- A value of a type, of its cells. -/
def mkV (P : Program) (t : TypeId) (l : List AV) : Value :=
  match P.underlying t with
  | some (.struct _) => .agg (l.map conc).toArray
  | _ => conc (l.headD .any)

theorem likeL_len : ∀ {l z : List AV}, likeL l z = true → l.length = z.length
  | [], [], _ => rfl
  | x :: xs, y :: ys, h => by simp only [likeL, Bool.and_eq_true] at h; simp [likeL_len h.2]
  | [], _ :: _, h => by simp [likeL] at h
  | _ :: _, [], h => by simp [likeL] at h
theorem likeL_take : ∀ {n : Nat} {l z : List AV}, likeL l z = true → likeL (l.take n) (z.take n) = true
  | 0, l, z, _ => by simp [likeL]
  | n + 1, [], [], _ => by simp [likeL]
  | n + 1, x :: xs, y :: ys, h => by
    simp only [likeL, Bool.and_eq_true] at h
    simp only [List.take_succ_cons, likeL, Bool.and_eq_true]
    exact ⟨h.1, likeL_take h.2⟩
  | n + 1, [], _ :: _, h => by simp [likeL] at h
  | n + 1, _ :: _, [], h => by simp [likeL] at h
theorem likeL_drop : ∀ {n : Nat} {l z : List AV}, likeL l z = true → likeL (l.drop n) (z.drop n) = true
  | 0, l, z, h => by simpa using h
  | n + 1, [], [], _ => by simp [likeL]
  | n + 1, x :: xs, y :: ys, h => by
    simp only [likeL, Bool.and_eq_true] at h
    simp only [List.drop_succ_cons]
    exact likeL_drop h.2
  | n + 1, [], _ :: _, h => by simp [likeL] at h
  | n + 1, _ :: _, [], h => by simp [likeL] at h
theorem eqL_app : ∀ {a a' b b' : List AV}, a.length = a'.length → eqL (a ++ b) (a' ++ b') = (eqL a a' && eqL b b')
  | [], [], b, b', _ => by simp [eqL]
  | x :: xs, y :: ys, b, b', h => by
    simp only [List.cons_append, eqL]
    rw [eqL_app (by simpa using h), Bool.and_assoc]
  | [], _ :: _, _, _, h => by simp at h
  | _ :: _, [], _, _, h => by simp at h
theorem eqL_cut (n : Nat) {l l' : List AV} (h : l.length = l'.length) : eqL l l' = (eqL (l.take n) (l'.take n) && eqL (l.drop n) (l'.drop n)) := by
  have := eqL_app (a := l.take n) (a' := l'.take n) (b := l.drop n) (b' := l'.drop n) (by simp [h])
  rwa [List.take_append_drop, List.take_append_drop] at this

section
variable {P : Program}

theorem part_int {t : TypeId} {xs : Array Value} {off : Nat} {v : Value} {w : World} {d : TypeDesc} (hu : P.underlying t = some d) (hd : (∃ k, d = .int k) ∨ d = .bool) (hx : xs[off]? = some v) : (part t xs off).run P w = .ok v w := by
  rcases hd with ⟨k, rfl⟩ | rfl <;> simp [part, isAgg, run_underlying hu, hx]

theorem part_struct {t : TypeId} {fs : Array Field} {xs : Array Value} {off : Nat} {w : World} (hu : P.underlying t = some (.struct fs)) : (part t xs off).run P w = .ok (.agg (xs.extract off (off + P.cellsOf t))) w := by
  obtain ⟨i, hi⟩ := info_of_underlying hu
  simp [part, isAgg, run_underlying hu, run_sizeOf w hi]

theorem part_mkV {t : TypeId} {d off : Nat} {L zs : List AV} {w : World} (h : eqB P d t zs = true) (hl : likeL ((L.drop off).take (P.cellsOf t)) zs = true) : (part t (L.map conc).toArray off).run P w = .ok (mkV P t ((L.drop off).take (P.cellsOf t))) w := by
  cases d with
  | zero => simp [eqB] at h
  | succ d =>
    unfold eqB at h
    have one : zs.length = 1 → ∀ v, ((L.drop off).take (P.cellsOf t)).headD .any = v → (L.map conc).toArray[off]? = some (conc v) := by
      intro h1 v hv
      have h2 := likeL_len hl
      rw [h1] at h2
      simp only [List.length_take, List.length_drop] at h2
      have hlt : off < L.length := by omega
      have hp : 0 < P.cellsOf t := by omega
      subst hv
      obtain ⟨n, hn⟩ : ∃ n, P.cellsOf t = n + 1 := ⟨P.cellsOf t - 1, by omega⟩
      rw [hn]
      have hd : (L.drop off).headD .any = L[off] := by rw [List.drop_eq_getElem_cons hlt]; rfl
      have ht : ((L.drop off).take (n + 1)).headD .any = (L.drop off).headD .any := by rw [List.drop_eq_getElem_cons hlt]; rfl
      rw [ht, hd]
      simp [hlt]
    split at h
    · rename_i k hu
      have hz : zs.length = 1 := by split at h <;> simp_all
      rw [part_int hu (.inl ⟨k, rfl⟩) (one hz _ rfl)]
      simp [mkV, hu]
    · rename_i hu
      have hz : zs.length = 1 := by split at h <;> simp_all
      rw [part_int hu (.inr rfl) (one hz _ rfl)]
      simp [mkV, hu]
    · rename_i fs hu
      rw [part_struct hu]
      simp only [mkV, hu]
      congr 2
      apply Array.ext'
      rw [Array.toList_extract]
      simp only [List.extract, List.map_take, List.map_drop, Nat.add_sub_cancel_left]
    · cases h

theorem eqF_ok {d e : Nat} (ih : ∀ t zs, eqB P d t zs = true → ∀ l l', likeL l zs = true → likeL l' zs = true → ∀ w, (Op.equalIn (d + e) t (mkV P t l) (mkV P t l')).run P w = .ok (eqL l l') w) :
    ∀ (fs : List Field) (zs : List AV) (off : Nat), eqFB P (eqB P d) fs zs off = true → ∀ L L' : List AV, likeL (L.drop off) zs = true → likeL (L'.drop off) zs = true → ∀ w,
      (Op.eqFields (d + e) (L.map conc).toArray (L'.map conc).toArray fs).run P w = .ok (eqL (L.drop off) (L'.drop off)) w
  | [], zs, off, h, L, L', hl, hl', w => by
    simp only [eqFB, List.isEmpty_iff] at h
    subst h
    have h1 := likeL_len hl
    have h2 := likeL_len hl'
    simp only [List.length_nil] at h1 h2
    rw [List.eq_nil_of_length_eq_zero h1, List.eq_nil_of_length_eq_zero h2]
    simp [Op.eqFields, eqL]
  | f :: fs, zs, off, h, L, L', hl, hl', w => by
    simp only [eqFB, Bool.and_eq_true, bne_iff_ne, beq_iff_eq, decide_eq_true_eq, ne_eq] at h
    obtain ⟨⟨⟨⟨hn, ho⟩, hc⟩, hg⟩, hr⟩ := h
    have a1 := likeL_take (n := P.cellsOf f.type) hl
    have a2 := likeL_take (n := P.cellsOf f.type) hl'
    have p1 := part_mkV (w := w) hg a1
    have p2 := part_mkV (w := w) hg a2
    have q := ih f.type _ hg _ _ a1 a2 w
    have b1 := likeL_drop (n := P.cellsOf f.type) hl
    have b2 := likeL_drop (n := P.cellsOf f.type) hl'
    rw [List.drop_drop] at b1 b2
    have r := eqF_ok ih fs _ _ hr L L' b1 b2 w
    rw [Op.eqFields]
    have hn' : f.name ≠ "_" := hn
    have hcut := eqL_cut (P.cellsOf f.type) (l := L.drop off) (l' := L'.drop off) (by rw [likeL_len hl, likeL_len hl'])
    rw [List.drop_drop, List.drop_drop] at hcut
    simp only [if_pos hn', Sem.run_bind, ho, p1, p2, q, Result.andThen_ok]
    rw [hcut]
    cases eqL ((L.drop off).take (P.cellsOf f.type)) ((L'.drop off).take (P.cellsOf f.type))
    · simp
    · simpa using r

theorem eq_ok {e : Nat} : ∀ (d : Nat) (t : TypeId) (zs : List AV), eqB P d t zs = true → ∀ l l', likeL l zs = true → likeL l' zs = true → ∀ w, (Op.equalIn (d + e) t (mkV P t l) (mkV P t l')).run P w = .ok (eqL l l') w
  | 0, t, zs, h, _, _, _, _, _ => by simp [eqB] at h
  | d + 1, t, zs, h, l, l', hl, hl', w => by
    have ih := fun t zs h l l' hl hl' w => eq_ok (e := e) d t zs h l l' hl hl' w
    unfold eqB at h
    rw [show d + 1 + e = (d + e) + 1 by omega]
    split at h
    · rename_i k hu
      split at h
      · rename_i k' n
        simp only [beq_iff_eq] at h
        subst h
        obtain ⟨a, rfl⟩ : ∃ a, l = [.int k a] := by
          cases l with
          | nil => simp [likeL] at hl
          | cons x xs =>
            cases xs with
            | nil => cases x <;> simp [likeL, like] at hl; subst hl; exact ⟨_, rfl⟩
            | cons y ys => simp [likeL] at hl
        obtain ⟨b, rfl⟩ : ∃ a, l' = [.int k a] := by
          cases l' with
          | nil => simp [likeL] at hl'
          | cons x xs =>
            cases xs with
            | nil => cases x <;> simp [likeL, like] at hl'; subst hl'; exact ⟨_, rfl⟩
            | cons y ys => simp [likeL] at hl'
        simp [mkV, hu, conc, Op.equalIn, run_underlying hu, eqL, eqA]
        rfl
      · cases h
    · rename_i hu
      split at h
      · obtain ⟨a, rfl⟩ : ∃ a, l = [.bool a] := by
          cases l with
          | nil => simp [likeL] at hl
          | cons x xs =>
            cases xs with
            | nil => cases x <;> simp [likeL, like] at hl; exact ⟨_, rfl⟩
            | cons y ys => simp [likeL] at hl
        obtain ⟨b, rfl⟩ : ∃ a, l' = [.bool a] := by
          cases l' with
          | nil => simp [likeL] at hl'
          | cons x xs =>
            cases xs with
            | nil => cases x <;> simp [likeL, like] at hl'; exact ⟨_, rfl⟩
            | cons y ys => simp [likeL] at hl'
        simp [mkV, hu, conc, Op.equalIn, run_underlying hu, eqL, eqA]
      · cases h
    · rename_i fs hu
      simp only [Bool.and_eq_true, Bool.not_eq_true'] at h
      have hf : P.fieldsOf t = fs := by simp [Program.fieldsOf, hu]
      simp only [mkV, hu]
      rw [run_equalIn_struct w (d + e) t _ _ (by rw [hf]; exact hu) h.1, hf]
      have := eqF_ok ih fs.toList zs 0 h.2 l l' (by simpa using hl) (by simpa using hl') w
      simpa using this
    · cases h

theorem eqok_of {t : TypeId} {zero : List AV} {d : Nat} {fs : Array Field} (hd : d ≤ 10000) (h : eqB P d t zero = true) (hu : P.underlying t = some (.struct fs)) (hg : P.eqGuardType P.depth t = false) : EqOk P t zero := by
  intro l l' hl hl' w x y
  have h1 := eq_ok (e := 10000 - d) d t zero h l l' hl hl' w
  rw [show d + (10000 - d) = 10000 by omega] at h1
  simp only [mkV, hu] at h1
  have h2 : (Op.equal t (.agg (l.map conc).toArray) (.agg (l'.map conc).toArray)).run P w = .ok (eqL l l') w := h1
  constructor
  · simp [eqGuard, hg, binOp, h2]
  · simp [eqGuard, hg, binOp, h2]
end
end Go.Proofs.Ytkecenijjdpfdaa.AL
