/-
  All new blocks are read alone from now on; no conditions.
-/
import Derived.Test.YtkecenijjdpfdaaAL20
namespace Go.Proofs.Ytkecenijjdpfdaa.AL
open Go
set_option linter.unusedVariables false
set_option linter.unusedSimpArgs false

/-- What may become of a value where the blocks of the names from n on are read alone from now on. -/
inductive Fz (n : Nat) (H : Heap) : AV → AV → Prop
  | same (x : AV) (h : Lt n x) : Fz n H x x
  | any (x : AV) : Fz n H x .any
  | agg (l l' : List AV) (hl : l.length = l'.length) (h : ∀ (i : Nat) x y, l[i]? = some x → l'[i]? = some y → Fz n H x y) : Fz n H (.agg l) (.agg l')
  | own (id sz off len lc : Nat) (rows rows' : List (List AV)) (hid : n ≤ id) (hr : rowsOf H (.own id sz off len lc) = some rows) (hl : rows.length = rows'.length)
      (hz : ∀ (i : Nat) r r', rows[i]? = some r → rows'[i]? = some r' → r.length = r'.length)
      (h : ∀ (i c : Nat) r r' x y, rows[i]? = some r → rows'[i]? = some r' → r[c]? = some x → r'[c]? = some y → Fz n H x y) : Fz n H (.own id sz off len lc) (.fro sz rows')

theorem Fz.ids {n : Nat} {H : Heap} {x y : AV} (h : Fz n H x y) : Lt n y := by
  induction h with
  | same x h => exact h
  | any x => exact .any
  | agg l l' hl h ih =>
    refine .agg _ fun y hy => ?_
    obtain ⟨i, hi, rfl⟩ := List.getElem_of_mem hy
    exact ih i _ _ (List.getElem?_eq_getElem (by omega)) (List.getElem?_eq_getElem hi)
  | own id sz off len lc rows rows' hid hr hl hz h ih =>
    refine .fro _ _ fun row hrow y hy => ?_
    obtain ⟨i, hi, rfl⟩ := List.getElem_of_mem hrow
    obtain ⟨c, hc, rfl⟩ := List.getElem_of_mem hy
    have hi' : i < rows.length := by omega
    have := hz i _ _ (List.getElem?_eq_getElem hi') (List.getElem?_eq_getElem hi)
    exact ih i c _ _ _ _ (List.getElem?_eq_getElem hi') (List.getElem?_eq_getElem hi) (List.getElem?_eq_getElem (by omega)) (List.getElem?_eq_getElem hc)

theorem vr_fz {ρ : Ren} {F F' : Nat → Prop} {n : Nat} {H : Heap} {w : World} (r : Rel ρ F H w) (hF : ∀ g, F g → F' g) (hI : ∀ i g, n ≤ i → live H i → ρ i = some (some g) → F' g) {x y : AV} (h : Fz n H x y) : ∀ {u : Value}, VR ρ F w x u → VR ρ F' w y u := by
  induction h with
  | same x h => intro u hv; exact hv.mono (fun _ _ h => h) hF (fun _ _ => rfl) (fun _ _ _ h => h)
  | any x => intro u _; exact .any u
  | agg l l' hl h ih =>
    intro u hv
    cases hv with
    | agg _ us hlen hu =>
      refine .agg l' us (by omega) fun i y v hy hv => ?_
      have hi : i < l.length := by have := (List.getElem?_eq_some_iff.1 hy).1; omega
      exact ih i _ y (List.getElem?_eq_getElem hi) hy (hu i _ v (List.getElem?_eq_getElem hi) hv)
  | own id sz off len lc rows rows' hid hr hl hz h ih =>
    intro u hv
    have key : ∀ A m cap, u = .slice A m cap → (len ≠ 0 → ∃ a, A = some a ∧ ρ id = some (some a.block)) → (m ≤ cap) → (A = none → cap = 0) → VR ρ F' w (.fro sz rows') u := by
      intro A m cap hu hA hcap hnone
      subst hu
      obtain ⟨hn, hrow⟩ := rows_ok r hr hv
      have hlen : len = rows.length := by have := len_of_rows hr; simp only [lenOf, Option.some.injEq] at this; exact this
      have hm : m = rows'.length := by omega
      subst hm
      have hlv : live H id := by
        simp only [rowsOf] at hr
        split at hr
        · rename_i hb; exact ⟨_, hb⟩
        · cases hr
      have old : ∀ (i : Nat) row', rows'[i]? = some row' → ∃ row, rows[i]? = some row ∧ row.length = row'.length := fun i row' h' => by
        have hi : i < rows.length := by have := (List.getElem?_eq_some_iff.1 h').1; omega
        exact ⟨_, List.getElem?_eq_getElem hi, hz i _ _ (List.getElem?_eq_getElem hi) h'⟩
      have cellAt : ∀ (i c : Nat) row' y, rows'[i]? = some row' → row'[c]? = some y → ∃ a, A = some a ∧ a.spot = none ∧ F' a.block ∧ w.cell? ⟨a.block, a.off + (i * sz + c), none⟩ = some (cellU w A sz i c) ∧ VR ρ F' w y (cellU w A sz i c) := by
        intro i c row' y h1 h2
        obtain ⟨row, hr1, hrl⟩ := old i row' h1
        obtain ⟨hl', a, us, ha, hs, hvs, hc⟩ := hrow i row hr1
        subst ha
        have hne : len ≠ 0 := by rw [hlen]; have := (List.getElem?_eq_some_iff.1 hr1).1; omega
        obtain ⟨a', ha', hg⟩ := hA hne
        cases ha'
        have hcl : c < row.length := by rw [hrl]; exact (List.getElem?_eq_some_iff.1 h2).1
        have hcu : c < us.length := by rw [← hvs.1]; exact hcl
        have hcc := hc c _ (List.getElem?_eq_getElem hcu)
        simp only [szv] at hcc
        obtain ⟨ab, ao, as⟩ := a
        simp only at hs
        subst hs
        simp only [Addr.add, Nat.add_assoc] at hcc
        refine ⟨_, rfl, rfl, hI id _ hid hlv hg, ?_, ?_⟩
        · simp only [cellU, hcc, Option.getD_some]
        · simp only [cellU, hcc, Option.getD_some]
          exact ih i c row row' _ y hr1 h1 (List.getElem?_eq_getElem hcl) h2 (hvs.2 c _ _ (List.getElem?_eq_getElem hcl) (List.getElem?_eq_getElem hcu))
      refine .fro sz rows' A cap (cellU w A sz) (fun row' hm' => ?_) hcap (fun hne => ?_) hnone (fun i c row' y h1 h2 => ?_) (fun i c row' y h1 h2 => ?_)
      · obtain ⟨i, hi, rfl⟩ := List.getElem_of_mem hm'
        obtain ⟨row, hr1, hrl⟩ := old i _ (List.getElem?_eq_getElem hi)
        rw [← hrl]; exact (hrow i row hr1).1
      · cases hrows : rows with
        | nil => rw [hrows] at hl; exact absurd (List.eq_nil_of_length_eq_zero hl.symm) hne
        | cons r0 rs =>
          obtain ⟨_, a, us, ha, hs, _⟩ := hrow 0 r0 (by rw [hrows]; rfl)
          exact ⟨a, ha, hs⟩
      · obtain ⟨a, h1, h2, h3, h4, _⟩ := cellAt i c row' y h1 h2
        exact ⟨a, h1, h2, h3, h4⟩
      · obtain ⟨a, _, _, _, _, h5⟩ := cellAt i c row' y h1 h2
        exact h5
    cases hv with
    | own _ _ _ _ _ cap m t A hg hs ho hl hc hm hf => exact key (some A) len cap rfl (fun _ => ⟨A, rfl, hg⟩) (by omega) (fun e => by cases e)
    | own0 _ _ _ A hg => exact key A 0 0 rfl (fun e => absurd rfl e) (Nat.le_refl _) (fun _ => rfl)

/-- Slots, one by one. -/
def FzL (n : Nat) (H : Heap) : List AV → List AV → Prop
  | [], [] => True
  | x :: xs, y :: ys => Fz n H x y ∧ FzL n H xs ys
  | _, _ => False
theorem fzL_ok {n : Nat} {H : Heap} : ∀ {t t' : List AV}, FzL n H t t' → t.length = t'.length ∧ ∀ (i : Nat) x y, t[i]? = some x → t'[i]? = some y → Fz n H x y
  | [], [], _ => ⟨rfl, fun i x y h => by simp at h⟩
  | x :: xs, y :: ys, h => by
    obtain ⟨h1, h2⟩ := fzL_ok h.2
    refine ⟨by simp [h1], fun i a b ha hb => ?_⟩
    cases i with
    | zero => simp at ha hb; subst ha; subst hb; exact h.1
    | succ i => exact h2 i a b (by simpa using ha) (by simpa using hb)
  | [], _ :: _, h => h.elim
  | _ :: _, [], h => h.elim

theorem wk_fz {H L : Heap} {t t' : List AV} (ht : FzL H.length (H ++ L) t t') : Wk H t (H ++ L) t' H := by
  obtain ⟨hl, hs⟩ := fzL_ok ht
  refine Wk.trans (H1 := H ++ L.map fun _ => none) (t1 := t') ?_ (Wk.drop ⟨rfl, fun i x hx => .inr ⟨hx, ?_⟩⟩)
  · intro ρ0 F0 w0 r0 f0 ρ F w us r f tr e
    let F' : Nat → Prop := fun g => F g ∨ ∃ i, H.length ≤ i ∧ live (H ++ L) i ∧ ρ i = some (some g)
    have hF : ∀ g, F g → F' g := fun g h => .inl h
    have mono : ∀ x u, VR ρ F w x u → VR ρ F' w x u := fun x u h => h.mono (fun _ _ h => h) hF (fun _ _ => rfl) (fun _ _ _ h => h)
    have hget : ∀ (i : Nat) b, (H ++ L.map fun _ => none)[i]? = some (some b) → i < H.length ∧ (H ++ L)[i]? = some (some b) := by
      intro i b hi
      rcases Nat.lt_or_ge i H.length with h | h
      · rw [List.getElem?_append_left h] at hi ⊢; exact ⟨h, hi⟩
      · rw [List.getElem?_append_right h, List.getElem?_map] at hi
        cases hx : L[i - H.length]? with
        | none => rw [hx] at hi; cases hi
        | some y => rw [hx] at hi; cases hi
    have hlv : ∀ i, live (H ++ L.map fun _ => none) i → i < H.length ∧ live (H ++ L) i := fun i ⟨b, hb⟩ => ⟨(hget i b hb).1, b, (hget i b hb).2⟩
    have e2 : Ext ρ F (H ++ L) w ρ F' (H ++ L.map fun _ => none) w :=
      { pre := fun _ _ => rfl, fsub := hF, os := rfl, tape := rfl, output := rfl, size := Nat.le_refl _, shape := fun _ _ => rfl, frame := fun _ _ _ => rfl,
        fnew := fun g hg => by
          rcases hg with h | ⟨i, h1, h2, h3⟩
          · exact .inl h
          · exact .inr (.inr ⟨i, h2, h3⟩),
        len := by simp, old := fun i _ h => (hlv i h).2,
        new := fun i g hi h _ => by have := (hlv i h).1; simp at hi; omega }
    refine ⟨ρ, F', { blk := fun i b hi => ?_, inj := fun i j g hi hj => r.inj i j g (hlv i hi).2 (hlv j hj).2, fsz := fun g hg => ?_, rsz := r.rsz }, fun i hi => f i (by simpa using hi), ⟨by rw [← hl]; exact tr.1, fun i y u hy hu => ?_⟩, e.trans e2⟩
    · obtain ⟨h1, h2⟩ := hget i b hi
      rcases r.blk i b h2 with ⟨g, cs, tt, a1, a2, a3, a4⟩ | a
      · refine .inl ⟨g, cs, tt, a1, ?_, a3, a4.mono mono⟩
        rintro (h | ⟨k, k1, k2, k3⟩)
        · exact a2 h
        · have := r.inj i k g ⟨b, h2⟩ k2 a1 k3; omega
      · exact .inr a
    · rcases hg with h | ⟨i, _, _, h3⟩
      · exact r.fsz g h
      · exact r.rsz i g h3
    · have hi : i < t.length := by have := (List.getElem?_eq_some_iff.1 hy).1; omega
      exact vr_fz r hF (fun i g h1 h2 h3 => .inr ⟨i, h1, h2, h3⟩) (hs i _ y (List.getElem?_eq_getElem hi) hy) (tr.2 i _ u (List.getElem?_eq_getElem hi) hu)
  · have hi : i < t.length := by have := (List.getElem?_eq_some_iff.1 hx).1; omega
    exact (hs i _ x (List.getElem?_eq_getElem hi) hx).ids

/-- A contract that tells less. -/
theorem ADet.weak {P : Program} {f : FuncId} {args : List AV} {H H1 H' : Heap} {v v' : AV} (h : ADet P f args H v H1) (k : Wk H [v] H1 [v'] H') : ADet P f args H v' H' := by
  refine ⟨h.1, fun ρ F w cargs r fr hv => (h.2 ρ F w cargs r fr hv).mono ?_⟩
  rintro e w' ⟨u, ρ1, F1, he, h1, h2, h3, h4⟩
  have tr : TR ρ1 F1 w' [v] #[u] := ⟨rfl, fun i x y hx hy => by
    cases i with
    | zero => simp at hx hy; subst hx; subst hy; exact h1
    | succ i => simp at hx⟩
  obtain ⟨ρ', F', r', f', tr', e'⟩ := k ρ F w r fr ρ1 F1 w' #[u] h2 h3 tr h4
  exact ⟨u, ρ', F', he, tr'.2 0 v' u rfl rfl, r', f', e'⟩

theorem fz_agg {n : Nat} {H : Heap} {l l' : List AV} (h : FzL n H l l') : Fz n H (.agg l) (.agg l') := .agg _ _ (fzL_ok h).1 (fzL_ok h).2
/-- A slice of rows that name nothing new. -/
theorem fz_own {H L : Heap} {k sz lc : Nat} {rows : List (List AV)} (hL : L[k]? = some (some (.arr sz rows))) (hl : ∀ row ∈ rows, LtL H.length row) : Fz H.length (H ++ L) (.own (H.length + k) sz 0 rows.length lc) (.fro sz rows) := by
  refine .own _ _ _ _ _ rows rows (by omega) ?_ rfl (fun i r r' h1 h2 => by rw [h1] at h2; cases h2; rfl) (fun i c r r' x y h1 h2 h3 h4 => ?_)
  · simp only [rowsOf, hgetS, hL, true_and, Nat.zero_add, Nat.le_refl, if_true, List.drop_zero, List.take_length]
  · rw [h1] at h2; cases h2
    rw [h3] at h4; cases h4
    exact .same _ (hl r (List.mem_of_getElem? h1) x (List.mem_of_getElem? h3))
theorem fz_own0 {H L : Heap} {sz lc : Nat} {rows : List (List AV)} (hL : L[0]? = some (some (.arr sz rows))) (hl : ∀ row ∈ rows, LtL H.length row) : Fz H.length (H ++ L) (.own H.length sz 0 rows.length lc) (.fro sz rows) := fz_own (k := 0) hL hl
end Go.Proofs.Ytkecenijjdpfdaa.AL
