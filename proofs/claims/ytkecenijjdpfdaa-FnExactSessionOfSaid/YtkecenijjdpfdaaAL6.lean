/-
  Writing, new variables, and what reads no memory: each operation does as told; no conditions beyond each lemma's own.
-/
import Derived.Test.YtkecenijjdpfdaaAL5
namespace Go.Proofs.Ytkecenijjdpfdaa.AL
open Go
set_option linter.unusedVariables false
set_option linter.unusedSimpArgs false

theorem cell_at {w : World} {g j : Nat} {cs : Array Value} {t : TypeId} {f : Nat × Nat} (h : w.heap[g]? = some (.cells cs t f)) : w.cell? ⟨g, j, none⟩ = cs[j]? := by simp [World.cell?, h]
theorem frozen_at {w : World} {g j : Nat} {cs : Array Value} {t : TypeId} (h : w.heap[g]? = some (.cells cs t (0, 0))) : w.frozen? ⟨g, j, none⟩ = false := by simp [World.frozen?, h]

theorem run_stores {P : Program} {w : World} {g o : Nat} {cs : Array Value} {t : TypeId} {us : List Value} (h : w.heap[g]? = some (.cells cs t (0, 0))) (hl : o + us.length ≤ cs.size) (h1 : ∀ u ∈ us, u.oneCell' = true) :
    ∃ cs', (storeCells ⟨g, o, none⟩ us).run P w = .ok () (setBlk w g cs' t) ∧ cs'.size = cs.size ∧ cs'.toList = splice cs.toList o us := by
  obtain ⟨cs', h2, h3, h4⟩ := setCells_blk g t us o w cs h hl
  refine ⟨cs', ?_, h3, h4⟩
  have := run_storeCells_cells (P := P) g o us 0 w (fun j hj => by rw [cell_at h, Array.getElem?_eq_getElem (by omega)]; rfl) (fun j hj => frozen_at h) h1
  rw [this, ← h2]
  rfl

theorem mul_row {k r sz c c' : Nat} (h : k < r) (hc : c' < sz) : k * sz + c' < r * sz + c := by
  have : (k + 1) * sz ≤ r * sz := Nat.mul_le_mul_right _ h
  rw [Nat.add_mul, Nat.one_mul] at this
  omega

theorem get_toList {cs : Array Value} {j : Nat} : cs[j]? = cs.toList[j]? := by simp

theorem blk_splice_box {ρ : Ren} {F : Nat → Prop} {w : World} {cells vs : List AV} {us : List Value} {cs cs' : Array Value} {c : Nat} (h : BlkR ρ F w (.box cells) cs) (hv : VRs ρ F w vs us) (hl : c + vs.length ≤ cells.length) (h' : cs'.toList = splice cs.toList c us) :
    BlkR ρ F w (.box (splice cells c vs)) cs' := by
  have hsz : cs.toList.length = cells.length := by rw [Array.length_toList]; exact h.1
  have hsz' : cs'.size = cs.size := by rw [← Array.length_toList, h', splice_length _ _ _ (by rw [hsz, ← hv.1]; exact hl), Array.length_toList]
  refine ⟨by rw [hsz', splice_length _ _ _ hl]; exact h.1, fun j x hx => ?_⟩
  rw [splice_get _ _ _ _ hl] at hx
  rw [get_toList, h', splice_get _ _ _ _ (by rw [hsz, ← hv.1]; exact hl), ← hv.1]
  split at hx
  · rename_i hj
    rw [if_pos hj]
    have hlt : j - c < us.length := by rw [← hv.1]; exact (List.getElem?_eq_some_iff.1 hx).1
    exact ⟨_, List.getElem?_eq_getElem hlt, hv.2 _ _ _ hx (List.getElem?_eq_getElem hlt)⟩
  · rename_i hj
    rw [if_neg hj, ← get_toList]
    exact h.2 j x hx

/-- Rows from r on are written anew. -/
theorem blk_splice_rows {ρ : Ren} {F : Nat → Prop} {w : World} {sz : Nat} {rows src : List (List AV)} {us : List Value} {cs cs' : Array Value} {r : Nat} (h : BlkR ρ F w (.arr sz rows) cs) (hr : r ≤ rows.length) (hsrc : ∀ row ∈ src, row.length = sz)
    (hul : us.length = src.length * sz) (hus : ∀ (i c : Nat) row x, src[i]? = some row → row[c]? = some x → ∃ u, us[i * sz + c]? = some u ∧ VR ρ F w x u) (hl : r * sz + us.length ≤ cs.size) (h' : cs'.toList = splice cs.toList (r * sz) us) :
    BlkR ρ F w (.arr sz (rows.take r ++ src ++ rows.drop (r + src.length))) cs' := by
  have hsz' : cs'.size = cs.size := by rw [← Array.length_toList, h', splice_length _ _ _ (by rw [Array.length_toList]; exact hl), Array.length_toList]
  have hlt : (rows.take r).length = r := by simp [hr]
  refine ⟨?_, ?_, ?_⟩
  · rw [hsz']
    have h1 := h.1
    simp only [List.length_append, hlt, List.length_drop]
    rcases Nat.lt_or_ge (r + src.length) rows.length with h2 | h2
    · rw [show r + src.length + (rows.length - (r + src.length)) = rows.length by omega]; exact h1
    · rw [show rows.length - (r + src.length) = 0 by omega, Nat.add_zero, Nat.add_mul, ← hul]; exact hl
  · intro row hrow
    simp only [List.mem_append] at hrow
    rcases hrow with (h2 | h2) | h2
    · exact h.2.1 row (List.mem_of_mem_take h2)
    · exact hsrc row h2
    · exact h.2.1 row (List.mem_of_mem_drop h2)
  · intro i c row x hrow hx
    have hc : c < row.length := (List.getElem?_eq_some_iff.1 hx).1
    rw [get_toList, h', splice_get _ _ _ _ (by rw [Array.length_toList]; exact hl)]
    rcases Nat.lt_or_ge i r with hi | hi
    · rw [List.append_assoc, List.getElem?_append_left (by rw [hlt]; exact hi), List.getElem?_take, if_pos hi] at hrow
      have hrl := h.2.1 row (List.mem_of_getElem? hrow)
      have := mul_row (c := 0) hi (by omega : c < sz)
      rw [if_neg (by omega), ← get_toList]
      exact h.2.2 i c row x hrow hx
    · rcases Nat.lt_or_ge i (r + src.length) with hi' | hi'
      · rw [List.append_assoc, List.getElem?_append_right (by rw [hlt]; exact hi), hlt, List.getElem?_append_left (by omega)] at hrow
        have hrl := hsrc row (List.mem_of_getElem? hrow)
        have h1 := mul_row (c := 0) (show i - r < src.length by omega) (by omega : c < sz)
        have h2 : i * sz = r * sz + (i - r) * sz := by rw [← Nat.add_mul]; congr 1; omega
        rw [if_pos (by omega), show i * sz + c - r * sz = (i - r) * sz + c by omega]
        exact hus _ _ _ _ hrow hx
      · rw [List.getElem?_append_right (by simp [hlt]; omega), List.getElem?_drop] at hrow
        simp only [List.length_append, hlt] at hrow
        rw [show r + src.length + (i - (r + src.length)) = i by omega] at hrow
        have hrl := h.2.1 row (List.mem_of_getElem? hrow)
        have h2 : (r + src.length) * sz ≤ i * sz := Nat.mul_le_mul_right _ hi'
        rw [Nat.add_mul, ← hul] at h2
        rw [if_neg (by omega), ← get_toList]
        exact h.2.2 i c row x hrow hx

/-- A part of one row. -/
theorem blk_splice_row {ρ : Ren} {F : Nat → Prop} {w : World} {sz : Nat} {rows : List (List AV)} {vs : List AV} {us : List Value} {cs cs' : Array Value} {r c : Nat} (h : BlkR ρ F w (.arr sz rows) cs) (hr : r < rows.length) (hc : c + vs.length ≤ sz) (hv : VRs ρ F w vs us)
    (h' : cs'.toList = splice cs.toList (r * sz + c) us) : BlkR ρ F w (.arr sz (rows.set r (splice (rows.getD r []) c vs))) cs' := by
  have hget : rows.getD r [] = rows[r] := by simp [List.getD_eq_getElem?_getD, hr]
  have hrl : rows[r].length = sz := h.2.1 _ (List.getElem_mem hr)
  have hbig : r * sz + c + us.length ≤ cs.size := by
    have := h.1
    have h2 : (r + 1) * sz ≤ rows.length * sz := Nat.mul_le_mul_right _ hr
    rw [Nat.add_mul, Nat.one_mul] at h2
    rw [← hv.1]; omega
  have hsz' : cs'.size = cs.size := by rw [← Array.length_toList, h', splice_length _ _ _ (by rw [Array.length_toList]; exact hbig), Array.length_toList]
  rw [hget]
  refine ⟨by simp only [List.length_set]; rw [hsz']; exact h.1, fun row hrow => ?_, fun i j row x hrow hx => ?_⟩
  · rcases List.mem_or_eq_of_mem_set hrow with h2 | rfl
    · exact h.2.1 row h2
    · rw [splice_length _ _ _ (by omega)]; exact hrl
  · have hj : j < row.length := (List.getElem?_eq_some_iff.1 hx).1
    rw [get_toList, h', splice_get _ _ _ _ (by rw [Array.length_toList]; exact hbig)]
    by_cases hir : r = i
    · subst hir
      rw [List.getElem?_set_self hr] at hrow
      cases hrow
      rw [splice_get _ _ _ _ (by omega)] at hx
      split at hx
      · rename_i hj'
        rw [if_pos (by rw [← hv.1]; omega), show r * sz + j - (r * sz + c) = j - c by omega]
        have hlt : j - c < us.length := by rw [← hv.1]; exact (List.getElem?_eq_some_iff.1 hx).1
        exact ⟨_, List.getElem?_eq_getElem hlt, hv.2 _ _ _ hx (List.getElem?_eq_getElem hlt)⟩
      · rename_i hj'
        rw [if_neg (by rw [← hv.1]; omega), ← get_toList]
        exact h.2.2 r j _ x (List.getElem?_eq_getElem hr) hx
    · rw [List.getElem?_set_ne hir] at hrow
      have hrl' := h.2.1 row (List.mem_of_getElem? hrow)
      rw [if_neg, ← get_toList]
      · exact h.2.2 i j row x hrow hx
      · rw [← hv.1]
        rcases Nat.lt_or_ge i r with h2 | h2
        · have := mul_row (c := c) h2 (by omega : j < sz); omega
        · have h3 : (r + 1) * sz ≤ i * sz := Nat.mul_le_mul_right _ (by omega)
          rw [Nat.add_mul, Nat.one_mul] at h3
          omega

/-- Writing behind a pointer. -/
theorem wr_ok {P : Program} {ρ : Ren} {F : Nat → Prop} {H H' : Heap} {w : World} (r : Rel ρ F H w) (f : Fresh ρ H) {p : AV} {u : Value} {vs : List AV} {us : List Value} {C : Prop} (h : VR ρ F w p u) (hv : VRs ρ F w vs us) (h1 : ∀ u ∈ us, u.oneCell' = true)
    (hw : wr H p vs = some (C, H')) (hC : C) : ∃ A w', u = .pointer (some A) ∧ (storeCells A us).run P w = .ok () w' ∧ Rel ρ F H' w' ∧ Fresh ρ H' ∧ Ext ρ F H w ρ F H' w' := by
  unfold wr at hw
  split at hw
  · rename_i id c
    obtain ⟨g, hg, rfl⟩ := vr_ptr h
    split at hw
    · rename_i cells hb
      cases hw
      rcases r.blk id _ hb with ⟨g', cs, t, hg', hnf, hcs, hB⟩ | ⟨hg', sz, hb'⟩
      · rw [hg] at hg'
        cases hg'
        obtain ⟨cs', h2, h3, h4⟩ := run_stores (P := P) hcs (o := c) (us := us) (by rw [hB.1, ← hv.1]; exact hC) h1
        obtain ⟨a1, a2, a3⟩ := rel_set r f hb hg hcs h3 (b' := .box (splice cells c vs)) (fun k => blk_splice_box (hB.mono k) (hv.mono k) hC h4)
        exact ⟨_, _, rfl, h2, a1, a2, a3⟩
      · cases hb'
    · cases hw
  · rename_i id sz off len lc i c
    obtain ⟨A, n, cap, hs, hi, hsp, rfl⟩ := vr_eptr h
    split at hw
    · rename_i sz' rows hb
      cases hw
      obtain ⟨rfl, h5, h6⟩ := hC
      cases hs with
      | own _ _ _ _ _ _ m t a hid hs' ho hl hc hm hf =>
        rcases r.blk id _ hb with ⟨g', cs, t', hg', hnf, hcs, hB⟩ | ⟨hg', _⟩
        · rw [hid] at hg'
          cases hg'
          have hri : off + i < rows.length := by omega
          have hbig : (off + i) * sz' + c + us.length ≤ cs.size := by
            have := hB.1
            have h2 : (off + i + 1) * sz' ≤ rows.length * sz' := Nat.mul_le_mul_right _ hri
            rw [Nat.add_mul, Nat.one_mul] at h2
            rw [← hv.1]; omega
          obtain ⟨cs', h2, h3, h4⟩ := run_stores (P := P) hcs (o := (off + i) * sz' + c) (us := us) hbig h1
          obtain ⟨a1, a2, a3⟩ := rel_set r f hb hid hcs h3 (b' := .arr sz' (rows.set (off + i) (splice (rows.getD (off + i) []) c vs))) (fun k => blk_splice_row (hB.mono k) hri h6 (hv.mono k) h4)
          refine ⟨_, _, rfl, ?_, a1, a2, a3⟩
          have : A.off + (i * szv (.own id sz' off len lc) + c) = (off + i) * sz' + c := by rw [ho (by omega)]; simp only [szv]; rw [Nat.add_mul]; omega
          rw [this]; exact h2
        · rw [hid] at hg'; cases hg'
      | own0 => omega
    · cases hw
  · cases hw

section ops
variable {P : Program} {T : Tab} (hT : TOk P T) {t : List AV} {H : Heap} {o : Oper}

theorem not_any {x : AV} (h : (cellsOf x).all isCell = true) : x ≠ .any := by rintro rfl; simp [cellsOf, isCell] at h

include hT in
theorem ok_store (ty : TypeId) (p x : Operand) (ti : TI) (C : Prop) (H' : Heap) (ho : o.op = .store ty p x) (ht : T ty = some ti) (hw : wr H (ev t p) (cellsOf (ev t x)) = some (C, H')) (hC : C)
    (hl : (cellsOf (ev t x)).length = ti.size) (h1 : (cellsOf (ev t x)).all isCell = true) : OK P o t H .any H' :=
  .of_skip fun ρ F w a r f tr => by
    have hv := cells_ok (ev_ok tr x) (not_any h1)
    obtain ⟨A, w', hu, h2, a1, a2, a3⟩ := wr_ok (P := P) r f (ev_ok tr p) hv (all_one hv h1) hw hC
    refine ⟨w', ρ, F, ?_, a1, a2, a3⟩
    have hs : (a.eval x).cells.size = ti.size := by rw [← Array.length_toList, ← hv.1, hl]
    simp [execOp, ho, Instr.storeAt, hu, Instr.sureAddr, storeVar, run_size hT ht, hs, h2]

theorem ok_box (ty : TypeId) (x : Operand) (ho : o.op = .box ty x) (h1 : (cellsOf (ev t x)).all isCell = true) : OK P o t H (.ptr H.length 0) (H ++ [some (.box (cellsOf (ev t x)))]) :=
  .of_run fun ρ F w a r f tr => by
    have hv := cells_ok (ev_ok tr x) (not_any h1)
    obtain ⟨a1, a2, a3⟩ := rel_push r f (w' := w.alloc (.cells (a.eval x).cells ty)) (b := .box (cellsOf (ev t x))) rfl rfl rfl rfl (fun k => ⟨by rw [← Array.length_toList, ← hv.1], fun c y hy => by
      have hlt : c < (a.eval x).cells.toList.length := by rw [← hv.1]; exact (List.getElem?_eq_some_iff.1 hy).1
      exact ⟨_, by rw [get_toList]; exact List.getElem?_eq_getElem hlt, k _ _ (hv.2 c y _ hy (List.getElem?_eq_getElem hlt))⟩⟩)
    refine ⟨.pointer (some ⟨w.heap.size, 0, none⟩), _, _, _, ?_, .ptr _ _ _ (by simp [upd]), a1, a2, a3⟩
    simp [execOp, ho, Instr.box, newVar, newRow]

include hT in
theorem ok_alloc (ty : TypeId) (ti : TI) (ho : o.op = .alloc ty) (ht : T ty = some ti) : OK P o t H (.ptr H.length 0) (H ++ [some (.box ti.zero)]) :=
  .of_run fun ρ F w a r f tr => by
    obtain ⟨i, d, z, k⟩ := hT.get ht
    have hv : VRs ρ F w ti.zero z.cells.toList := by rw [k.zcells]; exact conc_vrs k.zconc
    obtain ⟨a1, a2, a3⟩ := rel_push r f (w' := w.alloc (.cells z.cells ty)) (b := .box ti.zero) rfl rfl rfl rfl (fun k => ⟨by rw [← Array.length_toList, ← hv.1], fun c y hy => by
      have hlt : c < z.cells.toList.length := by rw [← hv.1]; exact (List.getElem?_eq_some_iff.1 hy).1
      exact ⟨_, by rw [get_toList]; exact List.getElem?_eq_getElem hlt, k _ _ (hv.2 c y _ hy (List.getElem?_eq_getElem hlt))⟩⟩)
    refine ⟨.pointer (some ⟨w.heap.size, 0, none⟩), _, _, _, ?_, .ptr _ _ _ (by simp [upd]), a1, a2, a3⟩
    simp [execOp, ho, Instr.alloc, zeroValue, typeInfo, k.info, k.zero, newVar, newRow]
end ops
end Go.Proofs.Ytkecenijjdpfdaa.AL
