/-
  What a reading of an argument as data (DataW.trod) tells of it; from a contract to a row; no conditions beyond each lemma's own.
-/
import Derived.Test.YtkecenijjdpfdaaAL21
import Derived.ChangeArms
import Derived.ChangeSlices
namespace Go.Proofs.Ytkecenijjdpfdaa.AL
open Go Go.ChangeShapes Go.RowKit
set_option linter.unusedVariables false
set_option linter.unusedSimpArgs false

/-- Whatever reads as data of type t stands for such cells, of a value that is G. -/
structure AO {α : Type} (P : Program) (t : TypeId) (sz : Nat) (e : α → List AV) (G : α → Prop) : Prop where
  cells : P.cellsOf t = sz
  len : ∀ a, (e a).length = sz
  op : ∀ {H : Type} {enc : TypeId × Value → H} {w : World} {base : Nat} {held : Bool} {fuel : Nat} {cs : List Value} {x : DataW H × List MemPlace},
    DataW.trod enc P w base (fun _ => true) held fuel t cs = some x → ∃ a, VRs (fun _ => none) (· < w.heap.size) w (e a) cs ∧ G a

theorem AO.to {α : Type} {P : Program} {t : TypeId} {sz : Nat} {e e' : α → List AV} {G : α → Prop} (h : AO P t sz e G) (he : ∀ a, e a = e' a) : AO P t sz e' G := by
  have : e = e' := funext he
  subst this; exact h

theorem ao_int {P : Program} {t : TypeId} {k : IntKind} (ht : P.underlying t = some (.int k)) (hc : P.cellsOf t = 1) : AO P t 1 (fun n => [.int k n]) (fun n => (Lit.int k n).wf = true) := by
  refine ⟨hc, fun _ => rfl, fun h => ?_⟩
  obtain ⟨m, rfl, rfl, hw⟩ := DataW.trod_int ht h
  exact ⟨m, .one (.int k m), hw⟩

theorem ao_bool {P : Program} {t : TypeId} (ht : P.underlying t = some .bool) (hc : P.cellsOf t = 1) : AO P t 1 (fun b => [.bool b]) (fun _ => True) := by
  refine ⟨hc, fun _ => rfl, fun h => ?_⟩
  obtain ⟨m, rfl, _⟩ := DataW.trod_bool ht h
  exact ⟨m, .one (.bool m), trivial⟩

theorem cells_get {w : World} {base : Nat} {a : Addr} {n : Nat} {cs : List Value} (h : w.cells? base a n = some cs) : cs.length = n ∧ ∀ i u, cs[i]? = some u → w.cell? (a.add i) = some u := by
  unfold World.cells? at h
  split at h
  · have hl : cs.length = n := by simpa using mapM_some_length h
    refine ⟨hl, fun i u hu => ?_⟩
    have hi : i < n := by have := (List.getElem?_eq_some_iff.1 hu).1; omega
    have := mapM_some_get h i i (by simp [hi])
    rw [hu] at this
    exact this
  · cases h

theorem add_add (ad : Addr) (m j : Nat) : (ad.add m).add j = ad.add (m + j) := by
  unfold Addr.add
  by_cases hj : j = 0
  · subst hj; simp
  · by_cases hm : m = 0
    · subst hm; simp [hj]
    · simp [hj, hm, Nat.add_assoc]

theorem addr_add (ab ao n : Nat) : (⟨ab, ao, none⟩ : Addr).add n = ⟨ab, ao + n, none⟩ := by unfold Addr.add; split <;> simp_all

theorem cell_lt {w : World} {a : Addr} {v : Value} (h : w.cell? a = some v) : a.block < w.heap.size := by
  unfold World.cell? at h
  rcases Nat.lt_or_ge a.block w.heap.size with hlt | hge
  · exact hlt
  · rw [Array.getElem?_eq_none hge] at h; cases h

theorem ao_slice {α : Type} {P : Program} {t e : TypeId} {sz : Nat} {E : α → List AV} {G : α → Prop} (hp : 0 < sz) (ht : P.underlying t = some (.slice e)) (hc : P.cellsOf t = 1) (he : AO P e sz E G) :
    AO P t 1 (fun xs : List α => [.fro sz (xs.map E)]) (fun xs : List α => xs.length ≤ 9223372036854775807 ∧ ∀ x ∈ xs, G x) := by
  refine ⟨hc, fun _ => rfl, fun {H enc w base held fuel cs x} h => ?_⟩
  rcases DataW.trod_slice ht h with ⟨rfl, _⟩ | ⟨a, len, cap, elems, rest, n, _, rfl, rfl, hb, hl, hm, hlen, hel, hsp, hns⟩
  · refine ⟨[], .one (.fro sz [] none 0 (fun _ _ => undef) (fun r hr => by cases hr) (Nat.le_refl _) (fun h => absurd rfl h) (fun _ => rfl) (fun i c row x h => by simp at h) (fun i c row x h => by simp at h)), Nat.zero_le _, fun x hx => by cases hx⟩
  have each : ∀ i, i < len → ∃ p : α × List Value, w.cells? base (a.add (i * sz)) sz = some p.2 ∧ VRs (fun _ => none) (· < w.heap.size) w (E p.1) p.2 ∧ G p.1 := by
    intro i hi
    have h1 := hel i hi
    rw [he.cells] at h1
    obtain ⟨y, hy⟩ : ∃ y, elems[i]? = some y := ⟨elems[i]'(by omega), List.getElem?_eq_getElem _⟩
    rw [hy, Option.bind_eq_some_iff] at h1
    obtain ⟨cs, h2, h3⟩ := h1
    obtain ⟨v, hv, hg⟩ := he.op h3
    exact ⟨(v, cs), h2, hv, hg⟩
  have key : ∀ m, m ≤ len → ∃ xs : List α, xs.length = m ∧ (∀ x ∈ xs, G x) ∧ ∀ (j : Nat) p, xs[j]? = some p → ∃ c, w.cells? base (a.add (j * sz)) sz = some c ∧ VRs (fun _ => none) (· < w.heap.size) w (E p) c := by
    intro m
    induction m with
    | zero => exact fun _ => ⟨[], rfl, (fun x hx => by cases hx), (fun j p hj => by simp at hj)⟩
    | succ m ih =>
      intro hm'
      obtain ⟨xs, h1, h2, h3⟩ := ih (by omega)
      obtain ⟨⟨v, c⟩, h4, h5, h6⟩ := each m (by omega)
      refine ⟨xs ++ [v], by simp [h1], fun x hx => ?_, fun j p hj => ?_⟩
      · rcases List.mem_append.1 hx with hx | hx
        · exact h2 x hx
        · rw [List.mem_singleton.1 hx]; exact h6
      · rcases Nat.lt_or_ge j xs.length with hlt | hge
        · rw [List.getElem?_append_left hlt] at hj
          exact h3 j p hj
        · have hj' : j = xs.length := by
            have := (List.getElem?_eq_some_iff.1 hj).1
            simp at this
            omega
          subst hj'
          have : v = p := by simpa using hj
          subst this
          rw [h1]
          exact ⟨c, h4, h5⟩
  obtain ⟨xs, h1, h2, h3⟩ := key len (Nat.le_refl _)
  unfold maxLen at hm
  refine ⟨xs, .one ?_, by omega, h2⟩
  have cellAt : ∀ (i c : Nat) row y, (xs.map E)[i]? = some row → row[c]? = some y → a.spot = none ∧ a.block < w.heap.size ∧ w.cell? ⟨a.block, a.off + (i * sz + c), none⟩ = some (cellU w (some a) sz i c) ∧ VR (fun _ => none) (· < w.heap.size) w y (cellU w (some a) sz i c) := by
    intro i c row y hi hy
    rw [List.getElem?_map] at hi
    cases hx : xs[i]? with
    | none => rw [hx] at hi; cases hi
    | some p =>
      rw [hx] at hi
      cases hi
      obtain ⟨cv, hc1, hc2⟩ := h3 i p hx
      obtain ⟨hc3, hc4⟩ := cells_get hc1
      have hcl : c < cv.length := by rw [← hc2.1]; exact (List.getElem?_eq_some_iff.1 hy).1
      have h5 := hc4 c _ (List.getElem?_eq_getElem hcl)
      rw [add_add] at h5
      -- the first cell of all
      have hspot : a.spot = none := by
        have h0 : 0 < len := by have := (List.getElem?_eq_some_iff.1 hx).1; omega
        obtain ⟨p0, hp0⟩ : ∃ p0, xs[0]? = some p0 := ⟨xs[0]'(by omega), List.getElem?_eq_getElem _⟩
        obtain ⟨c0, h6, h7⟩ := h3 0 p0 hp0
        obtain ⟨h8, h9⟩ := cells_get h6
        obtain ⟨u0, hu0⟩ : ∃ u0, c0[0]? = some u0 := ⟨c0[0]'(by omega), List.getElem?_eq_getElem _⟩
        have := h9 0 _ hu0
        simp only [Nat.zero_mul, Addr.add, if_true] at this
        exact World.cell?_spot this
      obtain ⟨ab, ao, as⟩ := a
      simp only at hspot
      subst hspot
      have h6 : w.cell? ⟨ab, ao + (i * sz + c), none⟩ = some cv[c] := by rw [addr_add] at h5; exact h5
      refine ⟨rfl, cell_lt (a := ⟨ab, ao + (i * sz + c), none⟩) h6, ?_, ?_⟩
      · simp only [cellU, h6, Option.getD_some]
      · simp only [cellU, h6, Option.getD_some]
        exact hc2.2 c y _ hy (List.getElem?_eq_getElem hcl)
  have hlen' : len = (xs.map E).length := by rw [List.length_map, h1]
  rw [hlen']
  refine .fro sz _ (some a) cap (cellU w (some a) sz) (fun row hr => by obtain ⟨x, _, rfl⟩ := List.mem_map.1 hr; exact he.len x) (by omega) (fun hne => ?_) (fun h => by cases h) (fun i c row y hi hy => ?_) (fun i c row y hi hy => (cellAt i c row y hi hy).2.2.2)
  · cases hxs : xs with
    | nil => rw [hxs] at hne; exact absurd rfl hne
    | cons p ps =>
      have hl := he.len p
      obtain ⟨y, hy⟩ : ∃ y, (E p)[0]? = some y := ⟨(E p)[0]'(by omega), List.getElem?_eq_getElem _⟩
      exact ⟨a, rfl, (cellAt 0 0 (E p) y (by rw [hxs]; rfl) hy).1⟩
  · obtain ⟨k1, k2, k3, _⟩ := cellAt i c row y hi hy
    exact ⟨a, rfl, k1, k2, k3⟩

/-- Fields that stand one behind the other from off on, as nested pairs. -/
structure AOs {α : Type} (P : Program) (fs : List Field) (off sz : Nat) (e : α → List AV) (G : α → Prop) : Prop where
  len : ∀ a, (e a).length = sz
  op : ∀ {H : Type} {enc : TypeId × Value → H} {w : World} {base : Nat} {held : Bool} {fuel : Nat} {cs : List Value},
    off + sz ≤ cs.length → (∀ f ∈ fs, ∃ y, DataW.trod enc P w base (fun _ => true) held fuel f.type ((cs.drop f.offset).take (P.cellsOf f.type)) = some y) →
    ∃ a, VRs (fun _ => none) (· < w.heap.size) w (e a) ((cs.drop off).take sz) ∧ G a

theorem aos_one {α : Type} {P : Program} {f : Field} {t : TypeId} {off sz : Nat} {e : α → List AV} {G : α → Prop} (h : AO P t sz e G) (hf : f.type = t) (ho : f.offset = off) : AOs P [f] off sz e G := by
  refine ⟨h.len, fun hl hr => ?_⟩
  obtain ⟨y, hy⟩ := hr f (List.mem_singleton.2 rfl)
  rw [hf, ho, h.cells] at hy
  exact h.op hy

theorem aos_cons {α β : Type} {P : Program} {f : Field} {fs : List Field} {t : TypeId} {off sz0 sz1 : Nat} {e0 : α → List AV} {e1 : β → List AV} {G0 : α → Prop} {G1 : β → Prop} (h : AO P t sz0 e0 G0) (hf : f.type = t) (ho : f.offset = off)
    (r : AOs P fs (off + sz0) sz1 e1 G1) : AOs P (f :: fs) off (sz0 + sz1) (fun x : α × β => e0 x.1 ++ e1 x.2) (fun x => G0 x.1 ∧ G1 x.2) := by
  refine ⟨fun a => by rw [List.length_append, h.len, r.len], fun {H enc w base held fuel cs} hl hr => ?_⟩
  obtain ⟨y, hy⟩ := hr f (List.mem_cons_self ..)
  rw [hf, ho, h.cells] at hy
  obtain ⟨a, ha, hga⟩ := h.op hy
  obtain ⟨b, hb, hgb⟩ := r.op (by omega) (fun g hg => hr g (List.mem_cons_of_mem _ hg))
  refine ⟨(a, b), ?_, hga, hgb⟩
  have : (cs.drop off).take (sz0 + sz1) = (cs.drop off).take sz0 ++ (cs.drop (off + sz0)).take sz1 := by rw [List.take_add, List.drop_drop]
  rw [this]
  exact ha.append hb

theorem ao_struct {α β : Type} {P : Program} {t : TypeId} {fs : Array Field} {sz : Nat} {e : α → List AV} {G : α → Prop} (ht : P.underlying t = some (.struct fs)) (hc : P.cellsOf t = sz) (h : AOs P fs.toList 0 sz e G) (f : β → α) (mk : α → β) (hf : ∀ a, f (mk a) = a) :
    AO P t sz (fun b => e (f b)) (fun b => G (f b)) := by
  refine ⟨hc, fun b => h.len _, fun {H enc w base held fuel cs x} hx => ?_⟩
  obtain ⟨xs, n, _, _, hl, hls, hel⟩ := DataW.trod_struct ht hx
  obtain ⟨a, ha, hg⟩ := h.op (cs := cs) (by rw [hl, hc]; omega) (fun g hg => by
    obtain ⟨i, hi, rfl⟩ := List.getElem_of_mem hg
    have h1 : fs[i]? = some fs.toList[i] := by simp at hi; simp [hi]
    have h2 := hel i _ h1
    have h3 : i < xs.length := by simp at hi; omega
    rw [List.getElem?_eq_getElem h3] at h2
    exact ⟨_, h2⟩)
  refine ⟨mk a, ?_, ?_⟩
  · rw [hf]
    rw [List.drop_zero, List.take_of_length_le (by rw [hl, hc]; exact Nat.le_refl _)] at ha
    exact ha
  · show G (f (mk a))
    rw [hf]
    exact hg

/-- A struct's value is its cells. -/
theorem agg_cells {P : Program} {W : World} {r : Reach} {base : Nat} {t : TypeId} {v : Value} {fs : Array Field} {cs : List Value} (ht : P.underlying t = some (.struct fs)) (hv : Value.okWide P W r base t v) (hcs : v.cells.toList = cs) : v = .agg cs.toArray := by
  obtain ⟨c, rfl, _⟩ := Go.WideShapes.okWide_struct ht hv
  subst hcs
  simp [Value.cells]

/-- A law's contract says that it answers true, and changes nothing that was there. -/
theorem law_calls {P : Program} {f : FuncId} {args : List AV} (h : ADet P f args [] (.bool true) []) {W : World} {cargs : List Value} (hv : VRs (fun _ => none) (· < W.heap.size) W args cargs) :
    Calls P f cargs.toArray W fun e W' => e = .returned (.bool true) ∧ Below W.heap.size W W' := by
  refine (h.2 (fun _ => none) (· < W.heap.size) W cargs { blk := fun i b hi => by simp at hi, inj := fun i j g ⟨b, hb⟩ => by simp at hb, fsz := fun g h => h, rsz := fun i g h => by cases h } (fun _ _ => rfl) hv).mono ?_
  rintro e w' ⟨u, ρ', F', rfl, h1, _, _, h4⟩
  refine ⟨by rw [vr_bool h1], h4.os, h4.tape, h4.output, h4.size, fun k hk => h4.frame k hk fun i ⟨b, hb⟩ => by simp at hb⟩
end Go.Proofs.Ytkecenijjdpfdaa.AL
