/-
  How a change of the world is a change of the abstract blocks: a new block, cells written in one, a block that is given up; no conditions beyond each lemma's own.
-/
import Derived.Test.YtkecenijjdpfdaaAL3
namespace Go.Proofs.Ytkecenijjdpfdaa.AL
open Go
set_option linter.unusedVariables false
set_option linter.unusedSimpArgs false

/-- The world with one block's cells anew. -/
def setBlk (w : World) (g : Nat) (cs : Array Value) (t : TypeId) : World := { w with heap := w.heap.setIfInBounds g (.cells cs t (0, 0)) }

theorem setBlk_same {w : World} {g : Nat} {cs : Array Value} {t : TypeId} (h : w.heap[g]? = some (.cells cs t (0, 0))) : setBlk w g cs t = w := by
  unfold setBlk
  have : w.heap.setIfInBounds g (.cells cs t (0, 0)) = w.heap := by
    apply Array.ext_getElem?
    intro i
    rw [Array.getElem?_setIfInBounds]
    split
    · rename_i hi
      subst hi
      split
      · exact h.symm
      · rename_i hlt
        rw [Array.getElem?_eq_none (by omega)]
    · rfl
  rw [this]

theorem setBlk_at {w : World} {g : Nat} {cs : Array Value} {t : TypeId} (h : g < w.heap.size) : (setBlk w g cs t).heap[g]? = some (.cells cs t (0, 0)) := by simp [setBlk, h]
theorem setBlk_ne {w : World} {g k : Nat} {cs : Array Value} {t : TypeId} (h : g ≠ k) : (setBlk w g cs t).heap[k]? = w.heap[k]? := by simp [setBlk, Array.getElem?_setIfInBounds, h]
theorem setBlk_size {w : World} {g : Nat} {cs : Array Value} {t : TypeId} : (setBlk w g cs t).heap.size = w.heap.size := by simp [setBlk]

theorem heap_lt {w : World} {g : Nat} {o : Obj} (h : w.heap[g]? = some o) : g < w.heap.size := (Array.getElem?_eq_some_iff.1 h).1

theorem setCell_blk {w : World} {g o : Nat} {v : Value} {cs : Array Value} {t : TypeId} (h : w.heap[g]? = some (.cells cs t (0, 0))) : w.setCell ⟨g, o, none⟩ v = setBlk w g (cs.setIfInBounds o v) t := by
  have hlt := heap_lt h
  unfold World.setCell setBlk
  congr 1
  apply Array.ext_getElem?
  intro i
  rw [Array.getElem?_modify, Array.getElem?_setIfInBounds]
  by_cases hi : g = i
  · subst hi
    rw [if_pos rfl, if_pos rfl, if_pos hlt, h]
    simp
  · rw [if_neg hi, if_neg hi]

theorem setCells_blk (g : Nat) (t : TypeId) : ∀ (vs : List Value) (o : Nat) (w : World) (cs : Array Value), w.heap[g]? = some (.cells cs t (0, 0)) → o + vs.length ≤ cs.size →
    ∃ cs', w.setCells g o vs = setBlk w g cs' t ∧ cs'.size = cs.size ∧ cs'.toList = splice cs.toList o vs
  | [], o, w, cs, h, hl => ⟨cs, (setBlk_same h).symm, rfl, by simp [splice]⟩
  | v :: vs, o, w, cs, h, hl => by
    have hlt := heap_lt h
    simp only [List.length_cons] at hl
    have h1 : (setBlk w g (cs.setIfInBounds o v) t).heap[g]? = some (.cells (cs.setIfInBounds o v) t (0, 0)) := setBlk_at hlt
    obtain ⟨cs', h2, h3, h4⟩ := setCells_blk g t vs (o + 1) (setBlk w g (cs.setIfInBounds o v) t) (cs.setIfInBounds o v) h1 (by simp; omega)
    refine ⟨cs', ?_, by simpa using h3, ?_⟩
    · show (w.setCell ⟨g, o, none⟩ v).setCells g (o + 1) vs = _
      rw [setCell_blk h, h2]
      unfold setBlk
      congr 1
      simp
    · rw [h4]
      apply List.ext_getElem?
      intro j
      rw [splice_get _ _ _ _ (by simp; omega), splice_get _ _ _ _ (by simp; omega)]
      simp only [List.length_cons, Array.toList_setIfInBounds]
      by_cases h5 : o ≤ j ∧ j < o + (vs.length + 1)
      · rw [if_pos h5]
        rcases Nat.eq_or_lt_of_le h5.1 with rfl | hlt'
        · rw [if_neg (by omega), List.getElem?_set_self (by simp; omega)]; simp
        · rw [if_pos (by omega), show j - o = (j - (o + 1)) + 1 by omega]; simp
      · rw [if_neg h5, if_neg (by omega), List.getElem?_set_ne (by omega)]

theorem shape_of {w : World} {g : Nat} {cs : Array Value} {t : TypeId} {f : Nat × Nat} (h : w.heap[g]? = some (.cells cs t f)) : w.shape? g = some (t, cs.size) := by simp [World.shape?, h]

/-- Values stand for the same where no cell that is read alone has changed. -/
theorem vr_keep {ρ : Ren} {F : Nat → Prop} {w w' : World} (hb : ∀ g, F g → w'.heap[g]? = w.heap[g]?) (hs : ∀ g, g < w.heap.size → w'.shape? g = w.shape? g) : ∀ x u, VR ρ F w x u → VR ρ F w' x u :=
  fun x u h => h.mono (fun _ _ h => h) (fun _ h => h) hb (fun g t m hm => by rw [hs g (shape_some hm)]; exact hm)

theorem BlkR.mono {ρ ρ' : Ren} {F F' : Nat → Prop} {w w' : World} {b : Blk} {cs : Array Value} (h : BlkR ρ F w b cs) (k : ∀ x u, VR ρ F w x u → VR ρ' F' w' x u) : BlkR ρ' F' w' b cs := by
  cases b with
  | box cells => exact ⟨h.1, fun c x hx => by obtain ⟨u, hu, hv⟩ := h.2 c x hx; exact ⟨u, hu, k x u hv⟩⟩
  | arr sz rows => exact ⟨h.1, h.2.1, fun i c row x hr hx => by obtain ⟨u, hu, hv⟩ := h.2.2 i c row x hr hx; exact ⟨u, hu, k x u hv⟩⟩

theorem live_set {H : Heap} {id i : Nat} {o : Option Blk} (h : live (H.set id o) i) (hi : i ≠ id) : live H i := by
  obtain ⟨b, hb⟩ := h
  rw [List.getElem?_set_ne (Ne.symm hi)] at hb
  exact ⟨b, hb⟩

/-- A block's cells are written anew. -/
theorem rel_set {ρ : Ren} {F : Nat → Prop} {H : Heap} {w : World} (r : Rel ρ F H w) (f : Fresh ρ H) {id g : Nat} {b b' : Blk} {cs cs' : Array Value} {t : TypeId} (hb : H[id]? = some (some b)) (hg : ρ id = some (some g))
    (hcs : w.heap[g]? = some (.cells cs t (0, 0))) (hsz : cs'.size = cs.size) (hB : (∀ x u, VR ρ F w x u → VR ρ F (setBlk w g cs' t) x u) → BlkR ρ F (setBlk w g cs' t) b' cs') :
    Rel ρ F (H.set id (some b')) (setBlk w g cs' t) ∧ Fresh ρ (H.set id (some b')) ∧ Ext ρ F H w ρ F (H.set id (some b')) (setBlk w g cs' t) := by
  have hlt := heap_lt hcs
  have hl : live H id := ⟨b, hb⟩
  have hnF : ¬ F g := by
    rcases r.blk id b hb with ⟨g', _, _, h1, h2, _⟩ | ⟨h1, _⟩
    · rw [hg] at h1; cases h1; exact h2
    · rw [hg] at h1; cases h1
  have hshape : ∀ k, k < w.heap.size → (setBlk w g cs' t).shape? k = w.shape? k := by
    intro k hk
    by_cases hkg : g = k
    · subst hkg; rw [shape_of hcs, shape_of (setBlk_at hlt), hsz]
    · unfold World.shape?; rw [setBlk_ne hkg]
  have hframe : ∀ k, F k → (setBlk w g cs' t).heap[k]? = w.heap[k]? := fun k hk => setBlk_ne (fun e => hnF (e ▸ hk))
  have k := vr_keep (ρ := ρ) hframe hshape
  have hidl : id < H.length := (List.getElem?_eq_some_iff.1 hb).1
  have hlv : ∀ i, live (H.set id (some b')) i → live H i := fun i hi => by
    by_cases h : i = id
    · subst h; exact hl
    · exact live_set hi h
  refine ⟨{ blk := ?_, inj := fun i j k hi hj => r.inj i j k (hlv i hi) (hlv j hj), fsz := fun k hk => by rw [setBlk_size]; exact r.fsz k hk, rsz := fun i k hk => by rw [setBlk_size]; exact r.rsz i k hk }, fun i hi => f i (by simpa using hi), { pre := fun _ _ => rfl, fsub := fun _ h => h, os := rfl, tape := rfl, output := rfl, size := by rw [setBlk_size]; exact Nat.le_refl _, shape := hshape, frame := fun k hk hno => setBlk_ne (fun e => hno id hl (e ▸ hg)), fnew := fun _ h => .inl h, len := by simp, old := fun i _ h => hlv i h, new := fun i k hi hl' _ => by obtain ⟨x, hx⟩ := hlv i hl'; rw [List.getElem?_eq_none hi] at hx; cases hx }⟩
  intro i x hx
  by_cases hi : id = i
  · subst hi
    rw [List.getElem?_set_self hidl] at hx
    cases hx
    exact .inl ⟨g, cs', t, hg, hnF, setBlk_at hlt, hB k⟩
  · rw [List.getElem?_set_ne hi] at hx
    rcases r.blk i x hx with ⟨g', ca, t', h1, h2, h3, h4⟩ | h
    · refine .inl ⟨g', ca, t', h1, h2, ?_, h4.mono k⟩
      rw [setBlk_ne (fun e => hi (r.inj id i g' hl ⟨x, hx⟩ (by rw [← e]; exact hg) h1))]
      exact h3
    · exact .inr h

def upd (ρ : Ren) (i g : Nat) : Ren := fun k => if k = i then some (some g) else ρ k
def updv (ρ : Ren) (i : Nat) : Ren := fun k => if k = i then some none else ρ k

/-- A new block. w' may have drawn. -/
theorem rel_push {ρ : Ren} {F : Nat → Prop} {H : Heap} {w w' : World} (r : Rel ρ F H w) (f : Fresh ρ H) {b : Blk} {cs : Array Value} {t : TypeId} (hw : w'.heap = w.heap.push (.cells cs t)) (ho : w'.os = w.os) (hta : w'.tape = w.tape) (hou : w'.output = w.output)
    (hB : (∀ x u, VR ρ F w x u → VR (upd ρ H.length w.heap.size) F w' x u) → BlkR (upd ρ H.length w.heap.size) F w' b cs) :
    Rel (upd ρ H.length w.heap.size) F (H ++ [some b]) w' ∧ Fresh (upd ρ H.length w.heap.size) (H ++ [some b]) ∧ Ext ρ F H w (upd ρ H.length w.heap.size) F (H ++ [some b]) w' := by
  have hold : ∀ k, k < w.heap.size → w'.heap[k]? = w.heap[k]? := fun k hk => by rw [hw, Array.getElem?_push, if_neg (by omega)]
  have hnew : w'.heap[w.heap.size]? = some (.cells cs t) := by rw [hw]; simp
  have hsize : w'.heap.size = w.heap.size + 1 := by rw [hw]; simp
  have hpre : ∀ i g, ρ i = some g → upd ρ H.length w.heap.size i = some g := fun i g hg => by
    unfold upd
    rw [if_neg]
    · exact hg
    · rintro rfl; rw [f H.length (Nat.le_refl _)] at hg; cases hg
  have hshape : ∀ k, k < w.heap.size → w'.shape? k = w.shape? k := fun k hk => by unfold World.shape?; rw [hold k hk]
  have k : ∀ x u, VR ρ F w x u → VR (upd ρ H.length w.heap.size) F w' x u := fun x u h => h.mono hpre (fun _ h => h) (fun g hg => hold g (r.fsz g hg)) (fun g t m hm => by rw [hshape g (shape_some hm)]; exact hm)
  have hup : upd ρ H.length w.heap.size H.length = some (some w.heap.size) := by simp [upd]
  have hne : ∀ i, i ≠ H.length → upd ρ H.length w.heap.size i = ρ i := fun i hi => by simp [upd, hi]
  have hcase : ∀ i, live (H ++ [some b]) i → live H i ∧ i ≠ H.length ∨ i = H.length := by
    intro i ⟨x, hx⟩
    rcases Nat.lt_or_ge i H.length with h | h
    · rw [List.getElem?_append_left h] at hx; exact .inl ⟨⟨x, hx⟩, by omega⟩
    · have := (List.getElem?_eq_some_iff.1 hx).1
      simp at this
      exact .inr (by omega)
  have hold' : ∀ i, i < H.length → live (H ++ [some b]) i → live H i := fun i hi h => (hcase i h).elim (fun h => h.1) (fun h => absurd h (by omega))
  refine ⟨{ blk := ?_, inj := ?_, fsz := fun g hg => by rw [hsize]; have := r.fsz g hg; omega, rsz := ?_ }, fun i hi => ?_, { pre := fun i hi => hne i (by omega), fsub := fun _ h => h, os := ho, tape := hta, output := hou, size := by omega, shape := hshape, frame := fun g hg _ => hold g hg, fnew := fun _ h => .inl h, len := by simp, old := fun i hi h => hold' i hi h, new := fun i g hi hl hg => ?_ }⟩
  · intro i x hx
    rcases Nat.lt_or_ge i H.length with h | h
    · rw [List.getElem?_append_left h] at hx
      rcases r.blk i x hx with ⟨g, ca, t', h1, h2, h3, h4⟩ | ⟨h1, h2⟩
      · exact .inl ⟨g, ca, t', hpre i g h1, h2, by rw [hold g (heap_lt h3)]; exact h3, h4.mono k⟩
      · exact .inr ⟨by rw [hne i (by omega)]; exact h1, h2⟩
    · have := (List.getElem?_eq_some_iff.1 hx).1
      simp at this
      obtain rfl : i = H.length := by omega
      simp at hx
      subst hx
      exact .inl ⟨w.heap.size, cs, t, hup, fun h => by have := r.fsz _ h; omega, hnew, hB k⟩
  · intro i j g hi hj h1 h2
    rcases hcase i hi with ⟨hi, hi'⟩ | rfl <;> rcases hcase j hj with ⟨hj, hj'⟩ | rfl
    · rw [hne i hi'] at h1; rw [hne j hj'] at h2; exact r.inj i j g hi hj h1 h2
    · rw [hne i hi'] at h1; rw [hup] at h2; cases h2; have := r.rsz i _ h1; omega
    · rw [hup] at h1; rw [hne j hj'] at h2; cases h1; have := r.rsz j _ h2; omega
    · rfl
  · intro i g hg
    by_cases hi : i = H.length
    · subst hi; rw [hup] at hg; cases hg; omega
    · rw [hne i hi] at hg; have := r.rsz i g hg; omega
  · simp at hi; rw [hne i (by omega)]; exact f i (by omega)
  · rcases hcase i hl with ⟨⟨x, hx⟩, _⟩ | rfl
    · rw [List.getElem?_eq_none hi] at hx; cases hx
    · rw [hup] at hg; cases hg; exact .inl (Nat.le_refl _)

/-- A slice of no element that has no block yet. -/
theorem rel_virt {ρ : Ren} {F : Nat → Prop} {H : Heap} {w : World} (r : Rel ρ F H w) (f : Fresh ρ H) (sz : Nat) : Rel (updv ρ H.length) F (H ++ [some (.arr sz [])]) w ∧ Fresh (updv ρ H.length) (H ++ [some (.arr sz [])]) ∧ Ext ρ F H w (updv ρ H.length) F (H ++ [some (.arr sz [])]) w := by
  have hcase : ∀ i, live (H ++ [some (.arr sz [])]) i → (live H i ∧ i ≠ H.length) ∨ i = H.length := by
    intro i ⟨x, hx⟩
    rcases Nat.lt_or_ge i H.length with h | h
    · rw [List.getElem?_append_left h] at hx; exact .inl ⟨⟨x, hx⟩, by omega⟩
    · have := (List.getElem?_eq_some_iff.1 hx).1
      simp at this
      exact .inr (by omega)
  have hne : ∀ i, i ≠ H.length → updv ρ H.length i = ρ i := fun i hi => by simp [updv, hi]
  have hup : updv ρ H.length H.length = some none := by simp [updv]
  have hpre : ∀ i g, ρ i = some g → updv ρ H.length i = some g := fun i g hg => by
    rw [hne]
    · exact hg
    · rintro rfl; rw [f H.length (Nat.le_refl _)] at hg; cases hg
  have k : ∀ x u, VR ρ F w x u → VR (updv ρ H.length) F w x u := fun x u h => h.mono hpre (fun _ h => h) (fun _ _ => rfl) (fun _ _ _ h => h)
  refine ⟨{ blk := ?_, inj := ?_, fsz := r.fsz, rsz := ?_ }, fun i hi => ?_, { pre := fun i hi => hne i (by omega), fsub := fun _ h => h, os := rfl, tape := rfl, output := rfl, size := Nat.le_refl _, shape := fun _ _ => rfl, frame := fun _ _ _ => rfl, fnew := fun _ h => .inl h, len := by simp, old := fun i hi h => (hcase i h).elim (fun h => h.1) (fun h => absurd h (by omega)), new := fun i g hi hl hg => ?_ }⟩
  · intro i x hx
    rcases Nat.lt_or_ge i H.length with h | h
    · rw [List.getElem?_append_left h] at hx
      rcases r.blk i x hx with ⟨g, ca, t', h1, h2, h3, h4⟩ | ⟨h1, h2⟩
      · exact .inl ⟨g, ca, t', hpre i _ h1, h2, h3, h4.mono k⟩
      · exact .inr ⟨hpre i _ h1, h2⟩
    · have := (List.getElem?_eq_some_iff.1 hx).1
      simp at this
      obtain rfl : i = H.length := by omega
      simp at hx
      subst hx
      exact .inr ⟨hup, sz, rfl⟩
  · intro i j g hi hj h1 h2
    rcases hcase i hi with ⟨hi, hi'⟩ | rfl <;> rcases hcase j hj with ⟨hj, hj'⟩ | rfl
    · rw [hne i hi'] at h1; rw [hne j hj'] at h2; exact r.inj i j g hi hj h1 h2
    · rw [hup] at h2; cases h2
    · rw [hup] at h1; cases h1
    · rfl
  · intro i g hg
    by_cases hi : i = H.length
    · subst hi; rw [hup] at hg; cases hg
    · rw [hne i hi] at hg; exact r.rsz i g hg
  · simp at hi; rw [hne i (by omega)]; exact f i (by omega)
  · rcases hcase i hl with ⟨⟨x, hx⟩, _⟩ | rfl
    · rw [List.getElem?_eq_none hi] at hx; cases hx
    · rw [hup] at hg; cases hg

theorem rel_kill {ρ : Ren} {F : Nat → Prop} {H : Heap} {w : World} (r : Rel ρ F H w) (f : Fresh ρ H) (id : Nat) : Rel ρ F (H.set id none) w ∧ Fresh ρ (H.set id none) ∧ Ext ρ F H w ρ F (H.set id none) w := by
  have hlv : ∀ i, live (H.set id none) i → live H i := fun i hi => by
    by_cases h : i = id
    · subst h
      obtain ⟨b, hb⟩ := hi
      rw [List.getElem?_set] at hb
      split at hb <;> (try split at hb) <;> simp_all
    · exact live_set hi h
  refine ⟨{ blk := fun i x hx => r.blk i x ?_, inj := fun i j k hi hj => r.inj i j k (hlv i hi) (hlv j hj), fsz := r.fsz, rsz := r.rsz }, fun i hi => f i (by simpa using hi), { pre := fun _ _ => rfl, fsub := fun _ h => h, os := rfl, tape := rfl, output := rfl, size := Nat.le_refl _, shape := fun _ _ => rfl, frame := fun _ _ _ => rfl, fnew := fun _ h => .inl h, len := by simp, old := fun i _ h => hlv i h, new := fun i k hi hl' _ => by obtain ⟨x, hx⟩ := hlv i hl'; rw [List.getElem?_eq_none hi] at hx; cases hx }⟩
  rw [List.getElem?_set] at hx
  split at hx
  · split at hx <;> simp_all
  · exact hx

/-- A draw changes nothing. -/
theorem rel_heap {ρ : Ren} {F : Nat → Prop} {H : Heap} {w w' : World} (r : Rel ρ F H w) (hw : w'.heap = w.heap) (ho : w'.os = w.os) (hta : w'.tape = w.tape) (hou : w'.output = w.output) : Rel ρ F H w' ∧ Ext ρ F H w ρ F H w' ∧ ∀ x u, VR ρ F w x u → VR ρ F w' x u := by
  have hs : ∀ g, w'.shape? g = w.shape? g := fun g => by unfold World.shape?; rw [hw]
  have k := vr_keep (ρ := ρ) (F := F) (w := w) (w' := w') (fun g _ => by rw [hw]) (fun g _ => hs g)
  refine ⟨{ blk := fun i b hb => ?_, inj := r.inj, fsz := fun g hg => by rw [hw]; exact r.fsz g hg, rsz := fun i g hg => by rw [hw]; exact r.rsz i g hg }, { (Ext.refl (ρ := ρ) (F := F) (H := H) (w := w)) with os := ho, tape := hta, output := hou, size := by rw [hw]; exact Nat.le_refl _, shape := fun g _ => hs g, frame := fun g _ _ => by rw [hw], new := fun i g hi ⟨b, hb⟩ _ => by rw [List.getElem?_eq_none hi] at hb; cases hb }, k⟩
  rcases r.blk i b hb with ⟨g, cs, t, h1, h2, h3, h4⟩ | h
  · exact .inl ⟨g, cs, t, h1, h2, by rw [hw]; exact h3, h4.mono k⟩
  · exact .inr h
end Go.Proofs.Ytkecenijjdpfdaa.AL
