/-
  Opening an argument of a nested type as data: what a reading of it (DataW.trod) tells of its cells, kind by kind; no conditions beyond each lemma's own.
-/
import Derived.Test.YtompkmjpikabkaaVFnExactNewMachine
import Derived.ChangeArms
import Derived.ChangeSlices
namespace Go.Proofs.Ytompkmjpikabkaa.Opn
open Go.Proofs.YtompkmjpikabkaaW.PrintWords Go.ChangeShapes
set_option linter.unusedVariables false
set_option linter.unusedSimpArgs false

/-- Whatever reads as data of type t has cells of kind K, of a value that is G. -/
structure Opn {α : Type} (P : Program) (t : TypeId) (K : Kd α) (G : α → Prop) : Prop where
  cells : P.cellsOf t = K.sz
  op : ∀ {H : Type} {enc : TypeId × Value → H} {w : World} {base : Nat} {held : Bool} {fuel : Nat} {cs : List Value} {x : DataW H × List MemPlace},
    DataW.trod enc P w base (fun _ => true) held fuel t cs = some x → ∃ a, K.K w a cs ∧ G a

theorem opn_int {P : Program} {t : TypeId} {k : IntKind} (ht : P.underlying t = some (.int k)) (hc : P.cellsOf t = 1) : Opn P t (Kd.int k) (fun n => (Lit.int k n).wf = true) := by
  refine ⟨hc, fun h => ?_⟩
  obtain ⟨m, rfl, rfl, hw⟩ := DataW.trod_int ht h
  exact ⟨m, rfl, hw⟩

theorem opn_bool {P : Program} {t : TypeId} (ht : P.underlying t = some .bool) (hc : P.cellsOf t = 1) : Opn P t Kd.bool (fun _ => True) := by
  refine ⟨hc, fun h => ?_⟩
  obtain ⟨m, rfl, _⟩ := DataW.trod_bool ht h
  exact ⟨m, rfl, trivial⟩

theorem cells_get {w : World} {base : Nat} {a : Addr} {n : Nat} {cs : List Value} (h : w.cells? base a n = some cs) : cs.length = n ∧ ∀ i u, cs[i]? = some u → w.cell? (a.add i) = some u := by
  unfold World.cells? at h
  split at h
  · have hl : cs.length = n := by simpa using mapM_some_length h
    refine ⟨hl, fun i u hu => ?_⟩
    have hi : i < n := by have := (List.getElem?_eq_some_iff.1 hu).1; omega
    have := mapM_some_get h i i (by simp [hi])
    rw [hu] at this
    exact this
  · cases h

theorem add_add (ad : Addr) (m j : Nat) : (ad.add m).add j = ad.add (m + j) := by
  unfold Addr.add
  by_cases hj : j = 0
  · subst hj; simp
  · by_cases hm : m = 0
    · subst hm; simp [hj]
    · simp [hj, hm, Nat.add_assoc]

theorem opn_slice {α : Type} {P : Program} {t e : TypeId} {K : Kd α} {G : α → Prop} (ht : P.underlying t = some (.slice e)) (hc : P.cellsOf t = 1) (he : Opn P e K G) :
    Opn P t (Kd.slice e K) (fun xs => xs.length ≤ 9223372036854775807 ∧ ∀ x ∈ xs, G x) := by
  refine ⟨hc, fun {H enc w base held fuel cs x} h => ?_⟩
  rcases DataW.trod_slice ht h with ⟨rfl, _⟩ | ⟨a, len, cap, elems, rest, n, _, rfl, rfl, hb, hl, hm, hlen, hel, hsp, hns⟩
  · exact ⟨[], ⟨none, 0, rfl, Nat.le_refl _, rfl, Nat.zero_le _, fun h => absurd h (Nat.lt_irrefl 0)⟩, Nat.zero_le _, fun x hx => by cases hx⟩
  have each : ∀ i, i < len → ∃ p : α × List Value, w.cells? base (a.add (i * K.sz)) K.sz = some p.2 ∧ K.K w p.1 p.2 ∧ G p.1 := by
    intro i hi
    have h1 := hel i hi
    rw [he.cells] at h1
    obtain ⟨y, hy⟩ : ∃ y, elems[i]? = some y := ⟨elems[i]'(by omega), List.getElem?_eq_getElem _⟩
    rw [hy, Option.bind_eq_some_iff] at h1
    obtain ⟨cs, h2, h3⟩ := h1
    obtain ⟨v, hv, hg⟩ := he.op h3
    exact ⟨(v, cs), h2, hv, hg⟩
  have key : ∀ m, m ≤ len → ∃ xs : List α, xs.length = m ∧ (∀ x ∈ xs, G x) ∧ ∀ j p, xs[j]? = some p → ∃ c, w.cells? base (a.add (j * K.sz)) K.sz = some c ∧ K.K w p c := by
    intro m
    induction m with
    | zero => exact fun _ => ⟨[], rfl, (fun x hx => by cases hx), (fun j p hj => by simp at hj)⟩
    | succ m ih =>
      intro hm'
      obtain ⟨xs, h1, h2, h3⟩ := ih (by omega)
      obtain ⟨⟨v, c⟩, h4, h5, h6⟩ := each m (by omega)
      refine ⟨xs ++ [v], by simp [h1], fun x hx => ?_, fun j p hj => ?_⟩
      · rcases List.mem_append.1 hx with hx | hx
        · exact h2 x hx
        · rw [List.mem_singleton.1 hx]; exact h6
      · rcases Nat.lt_or_ge j xs.length with hlt | hge
        · rw [List.getElem?_append_left hlt] at hj
          exact h3 j p hj
        · have hj' : j = xs.length := by
            have := (List.getElem?_eq_some_iff.1 hj).1
            simp at this
            omega
          subst hj'
          have : v = p := by simpa using hj
          subst this
          rw [h1]
          exact ⟨c, h4, h5⟩
  obtain ⟨xs, h1, h2, h3⟩ := key len (Nat.le_refl _)
  unfold maxLen at hm
  refine ⟨xs, ⟨some a, cap, by rw [h1], by omega, rfl, by omega, fun _ => ⟨a, rfl, fun j p hj => ?_⟩⟩, by omega, h2⟩
  obtain ⟨c, hc1, hc2⟩ := h3 j p hj
  obtain ⟨hc3, hc4⟩ := cells_get hc1
  exact ⟨c, hc3, hc2, fun i u hu => by rw [← add_add]; exact hc4 i u hu⟩

/-- Fields that stand one behind the other from off on, as nested pairs. -/
structure OpnFs {α : Type} (P : Program) (fs : List Field) (off : Nat) (K : Kd α) (G : α → Prop) : Prop where
  op : ∀ {H : Type} {enc : TypeId × Value → H} {w : World} {base : Nat} {held : Bool} {fuel : Nat} {cs : List Value},
    off + K.sz ≤ cs.length → (∀ f ∈ fs, ∃ y, DataW.trod enc P w base (fun _ => true) held fuel f.type ((cs.drop f.offset).take (P.cellsOf f.type)) = some y) →
    ∃ a, K.K w a ((cs.drop off).take K.sz) ∧ G a

theorem fs_one {α : Type} {P : Program} {f : Field} {t : TypeId} {off : Nat} {K : Kd α} {G : α → Prop} (h : Opn P t K G) (hf : f.type = t) (ho : f.offset = off) : OpnFs P [f] off K G := by
  refine ⟨fun hl hr => ?_⟩
  obtain ⟨y, hy⟩ := hr f (List.mem_singleton.2 rfl)
  rw [hf, ho, h.cells] at hy
  exact h.op hy

theorem fs_cons {α β : Type} {P : Program} {f : Field} {fs : List Field} {t : TypeId} {off : Nat} {K0 : Kd α} {K1 : Kd β} {G0 : α → Prop} {G1 : β → Prop} (h : Opn P t K0 G0) (hf : f.type = t) (ho : f.offset = off)
    (r : OpnFs P fs (off + K0.sz) K1 G1) : OpnFs P (f :: fs) off (Kd.pair K0 K1) (fun x => G0 x.1 ∧ G1 x.2) := by
  refine ⟨fun {H enc w base held fuel cs} hl hr => ?_⟩
  have hsz : (Kd.pair K0 K1).sz = K0.sz + K1.sz := rfl
  rw [hsz] at hl ⊢
  obtain ⟨y, hy⟩ := hr f (List.mem_cons_self ..)
  rw [hf, ho, h.cells] at hy
  obtain ⟨a, ha, hga⟩ := h.op hy
  obtain ⟨b, hb, hgb⟩ := r.op (by omega) (fun g hg => hr g (List.mem_cons_of_mem _ hg))
  refine ⟨(a, b), ⟨_, _, ?_, ha, hb⟩, hga, hgb⟩
  rw [← List.drop_drop, List.take_add]

theorem opn_struct {α β : Type} {P : Program} {t : TypeId} {fs : Array Field} {K : Kd α} {G : α → Prop} (ht : P.underlying t = some (.struct fs)) (hc : P.cellsOf t = K.sz) (h : OpnFs P fs.toList 0 K G) (f : β → α) (mk : α → β) (hf : ∀ a, f (mk a) = a) :
    Opn P t (Kd.iso K f) (fun b => G (f b)) := by
  refine ⟨hc, fun {H enc w base held fuel cs x} hx => ?_⟩
  obtain ⟨xs, n, _, _, hl, hls, hel⟩ := DataW.trod_struct ht hx
  obtain ⟨a, ha, hg⟩ := h.op (cs := cs) (by rw [hl, hc]; omega) (fun g hg => by
    obtain ⟨i, hi, rfl⟩ := List.getElem_of_mem hg
    have h1 : fs[i]? = some fs.toList[i] := by simp at hi; simp [hi]
    have h2 := hel i _ h1
    have h3 : i < xs.length := by simp at hi; omega
    rw [List.getElem?_eq_getElem h3] at h2
    exact ⟨_, h2⟩)
  refine ⟨mk a, ?_, ?_⟩
  · show K.K w (f (mk a)) cs
    rw [hf]
    rw [List.drop_zero, List.take_of_length_le (by rw [hl, hc]; exact Nat.le_refl _)] at ha
    exact ha
  · show G (f (mk a))
    rw [hf]
    exact hg

/-- A struct's value is its cells. -/
theorem agg_cells {P : Program} {W : World} {r : Reach} {base : Nat} {t : TypeId} {v : Value} {fs : Array Field} {cs : List Value} (ht : P.underlying t = some (.struct fs)) (hv : Value.okWide P W r base t v) (hcs : v.cells.toList = cs) : v = .agg cs.toArray := by
  obtain ⟨c, rfl, _⟩ := Go.WideShapes.okWide_struct ht hv
  subst hcs
  simp [Value.cells]
end Go.Proofs.Ytompkmjpikabkaa.Opn
