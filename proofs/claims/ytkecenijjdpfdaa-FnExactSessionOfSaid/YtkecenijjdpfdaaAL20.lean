/-
  A slice of one's own that is read alone from now on; no conditions.
-/
import Derived.Test.YtkecenijjdpfdaaAL19
namespace Go.Proofs.Ytkecenijjdpfdaa.AL
open Go
set_option linter.unusedVariables false
set_option linter.unusedSimpArgs false

def cellU (w : World) (A : Option Addr) (sz i c : Nat) : Value := match A with | some a => (w.cell? ⟨a.block, a.off + (i * sz + c), none⟩).getD undef | none => undef

theorem vr_freeze {ρ : Ren} {F F' : Nat → Prop} {H : Heap} {w : World} (r : Rel ρ F H w) {id sz off len lc : Nat} {rows : List (List AV)} {u : Value} (hr : rowsOf H (.own id sz off len lc) = some rows) (h : VR ρ F w (.own id sz off len lc) u)
    (hF : ∀ g, F g → F' g) (hI : ∀ g, ρ id = some (some g) → F' g) : VR ρ F' w (.fro sz rows) u := by
  have key : ∀ A n cap, u = .slice A n cap → (len ≠ 0 → ∃ a, A = some a ∧ ρ id = some (some a.block)) → (n ≤ cap) → (A = none → cap = 0) → VR ρ F' w (.fro sz rows) u := by
    intro A n cap hu hA hcap hnone
    subst hu
    obtain ⟨hn, hrow⟩ := rows_ok r hr h
    have hlen : len = rows.length := by have := len_of_rows hr; simp only [lenOf, Option.some.injEq] at this; exact this
    subst hn
    have hz : ∀ row ∈ rows, row.length = sz := fun row hm => by
      obtain ⟨i, hi, rfl⟩ := List.getElem_of_mem hm
      exact (hrow i _ (List.getElem?_eq_getElem hi)).1
    refine .fro sz rows A cap (cellU w A sz) hz hcap (fun hne => ?_) hnone (fun i c row x h1 h2 => ?_) (fun i c row x h1 h2 => ?_)
    · cases rows with
      | nil => exact absurd rfl hne
      | cons r0 rs =>
        obtain ⟨_, a, us, ha, hs, _⟩ := hrow 0 r0 rfl
        exact ⟨a, ha, hs⟩
    · obtain ⟨hl, a, us, ha, hs, hv, hc⟩ := hrow i row h1
      subst ha
      obtain ⟨a', ha', hg⟩ := hA (by rw [hlen]; have := (List.getElem?_eq_some_iff.1 h1).1; omega)
      cases ha'
      refine ⟨a, rfl, hs, hI _ hg, ?_⟩
      have hcl : c < us.length := by rw [← hv.1]; exact (List.getElem?_eq_some_iff.1 h2).1
      have := hc c _ (List.getElem?_eq_getElem hcl)
      simp only [szv] at this
      obtain ⟨ab, ao, as⟩ := a
      simp only at hs
      subst hs
      simp only [Addr.add, Nat.add_assoc] at this
      simp only [cellU, this, Option.getD_some]
    · obtain ⟨hl, a, us, ha, hs, hv, hc⟩ := hrow i row h1
      subst ha
      have hcl : c < us.length := by rw [← hv.1]; exact (List.getElem?_eq_some_iff.1 h2).1
      have := hc c _ (List.getElem?_eq_getElem hcl)
      simp only [szv] at this
      obtain ⟨ab, ao, as⟩ := a
      simp only at hs
      subst hs
      simp only [Addr.add, Nat.add_assoc] at this
      simp only [cellU, this, Option.getD_some]
      exact (hv.2 c x _ h2 (List.getElem?_eq_getElem hcl)).mono (fun _ _ h => h) hF (fun _ _ => rfl) (fun _ _ _ h => h)
  cases h with
  | own _ _ _ _ _ cap m t A hg hs ho hl hc hm hf => exact key (some A) len cap rfl (fun _ => ⟨A, rfl, hg⟩) (by omega) (fun e => by cases e)
  | own0 _ _ _ A hg => exact key A 0 0 rfl (fun e => absurd rfl e) (Nat.le_refl _) (fun _ => rfl)

/-- What may become of a slot where block id is read alone from now on. -/
def Frz (H : Heap) (id : Nat) (x y : AV) : Prop := y = .any ∨ x = y ∨ ∃ sz off len lc rows, x = .own id sz off len lc ∧ rowsOf H x = some rows ∧ y = .fro sz rows
def FrzL (H : Heap) (id : Nat) : List AV → List AV → Prop
  | [], [] => True
  | x :: xs, y :: ys => Frz H id x y ∧ FrzL H id xs ys
  | _, _ => False

theorem frzL_ok {H : Heap} {id : Nat} : ∀ {t t' : List AV}, FrzL H id t t' → t'.length = t.length ∧ ∀ (i : Nat) y, t'[i]? = some y → ∃ x, t[i]? = some x ∧ Frz H id x y
  | [], [], _ => ⟨rfl, fun i x h => by simp at h⟩
  | x :: xs, y :: ys, h => by
    obtain ⟨h1, h2⟩ := frzL_ok h.2
    refine ⟨by simp [h1], fun i z hz => ?_⟩
    cases i with
    | zero => simp at hz; subst hz; exact ⟨x, rfl, h.1⟩
    | succ i => simpa using h2 i z (by simpa using hz)
  | [], _ :: _, h => h.elim
  | _ :: _, [], h => h.elim

theorem Wk.freeze {H0 H : Heap} {t t' : List AV} (id : Nat) (hb : live H id) (ht : FrzL H id t t') : Wk H0 t H t' (H.set id none) := by
  intro ρ0 F0 w0 r0 f0 ρ F w us r f tr e
  obtain ⟨r1, f1, e1⟩ := rel_kill r f id
  have hlt : id < H.length := by obtain ⟨b, hb⟩ := hb; exact (List.getElem?_eq_some_iff.1 hb).1
  have hlv : ∀ i, live (H.set id none) i → live H i ∧ i ≠ id := fun i hi => by
    by_cases h : i = id
    · subst h
      obtain ⟨b, hb⟩ := hi
      rw [List.getElem?_set] at hb
      simp [hlt] at hb
    · exact ⟨live_set hi h, h⟩
  let F' : Nat → Prop := fun g => F g ∨ ρ id = some (some g)
  have hF : ∀ g, F g → F' g := fun g h => .inl h
  have mono : ∀ x u, VR ρ F w x u → VR ρ F' w x u := fun x u h => h.mono (fun _ _ h => h) hF (fun _ _ => rfl) (fun _ _ _ h => h)
  have r2 : Rel ρ F' (H.set id none) w := by
    refine { blk := fun i b hi => ?_, inj := r1.inj, fsz := fun g hg => ?_, rsz := r1.rsz }
    · obtain ⟨h1, h2⟩ := hlv i ⟨b, hi⟩
      rcases r1.blk i b hi with ⟨g, cs, tt, a1, a2, a3, a4⟩ | a
      · refine .inl ⟨g, cs, tt, a1, ?_, a3, a4.mono mono⟩
        rintro (h | h)
        · exact a2 h
        · exact h2 (r.inj i id g h1 hb a1 h)
      · exact .inr a
    · rcases hg with h | h
      · exact r.fsz g h
      · exact r.rsz id g h
  have e2 : Ext ρ F H w ρ F' (H.set id none) w :=
    { pre := e1.pre, fsub := hF, os := e1.os, tape := e1.tape, output := e1.output, size := e1.size, shape := e1.shape, frame := e1.frame, fnew := fun g hg => ?_, len := e1.len, old := e1.old, new := e1.new }
  · obtain ⟨hl, hs⟩ := frzL_ok ht
    refine ⟨ρ, F', r2, f1, ⟨by rw [hl]; exact tr.1, fun i y u hy hu => ?_⟩, e.trans e2⟩
    obtain ⟨x, hx, hf⟩ := hs i y hy
    rcases hf with rfl | rfl | ⟨sz, off, len, lc, rows, rfl, h2, rfl⟩
    · exact .any _
    · exact mono _ _ (tr.2 i _ u hx hu)
    · exact vr_freeze r h2 (tr.2 i _ u hx hu) hF (fun g hg => .inr hg)
  · rcases hg with h | h
    · exact .inl h
    · exact .inr (.inr ⟨id, hb, h⟩)

/-- A new slice comes back to be read alone; nothing else that is new is kept. -/
theorem wk_fro {H L : Heap} {sz off len lc k : Nat} {rows rows' : List (List AV)} (hL : L[k]? = some (some (.arr sz rows'))) (hr : off + len ≤ rows'.length ∧ (rows'.drop off).take len = rows) (hl : ∀ row ∈ rows, LtL H.length row) : Wk H [.own (H.length + k) sz off len lc] (H ++ L) [.fro sz rows] H := by
  have hk : (H ++ L)[H.length + k]? = some (some (.arr sz rows')) := by rw [hgetS]; exact hL
  refine Wk.trans (Wk.freeze (H.length + k) (t' := [.fro sz rows]) ⟨_, hk⟩ ⟨.inr (.inr ⟨sz, off, len, lc, rows, rfl, ?_, rfl⟩), trivial⟩) ?_
  · simp only [rowsOf, hk, true_and, hr.1, if_true, hr.2]
  · rw [hsetS]
    refine Wk.drop ⟨rfl, fun i x hx => .inr ⟨hx, ?_⟩⟩
    cases i with
    | zero => simp at hx; subst hx; exact .fro _ _ fun row hrow x hx => hl row hrow x hx
    | succ i => simp at hx

section
variable {P : Program} {T : Tab} {mc : Nat → Bool} {Q : AX → List AV → Heap → Prop} {k : List It} {t : List AV} {H : Heap} {all : Array Oper} {l : List Oper}
theorem callA_of0 {f : FuncId} {args : List AV} {dst : Option Tmp} {v : AV} {H' : Heap} (h : ADet P f args H v H') (k' : R P T mc Q (.ops all l :: k) (putA t dst v) H') : callA P T mc Q (.func f []) args dst all l k t H := ⟨v, H', .inl (by rw [List.append_nil]; exact h), k'⟩
theorem callD_of0 {f : FuncId} {args : List AV} {dst : Option Tmp} {m : Bool} {v : AV} (h : ADet P f args H v H) (k' : R P T mc Q (.dops all m l :: k) (putA t dst v) H) : callD P T mc Q (.func f []) args dst all m l k t H := ⟨v, H, .inl (by rw [List.append_nil]; exact h), .inr rfl, k'⟩
end

/-- A slice of no element is nil, or it is not. -/
theorem vr_empty {ρ : Ren} {F : Nat → Prop} {w : World} {s : AV} {u : Value} (hs : lenOf s = some 0) (h : VR ρ F w s u) : VR ρ F w .snil u ∨ ∀ sz, VR ρ F w (.efro sz) u := by
  have key : ∀ A cap, (A = none → cap = 0) → VR ρ F w .snil (.slice A 0 cap) ∨ ∀ sz, VR ρ F w (.efro sz) (.slice A 0 cap) := by
    intro A cap h
    cases A with
    | none => obtain rfl := h rfl; exact .inl .snil
    | some a => exact .inr fun sz => .efro sz cap a
  cases h <;> simp only [lenOf, reduceCtorEq, Option.some.injEq] at hs
  case own => subst hs; exact key _ _ (fun e => by cases e)
  case own0 => exact key _ _ (fun _ => rfl)
  case efro => exact key _ _ (fun e => by cases e)
  case fro hn _ _ => rw [hs]; exact key _ _ hn
  case snil => exact key _ _ (fun _ => rfl)
  case emp => exact key _ _ (fun _ => rfl)

theorem ADet.empty {P : Program} {f : FuncId} {s : AV} {post : List AV} {H H' : Heap} {v : AV} (hs : lenOf s = some 0) (h1 : ADet P f (.snil :: post) H v H') (h2 : ADet P f (.efro 1 :: post) H v H') : ADet P f (s :: post) H v H' := by
  refine ⟨h1.1, fun ρ F w cargs r fr hv => ?_⟩
  cases cargs with
  | nil => exact absurd hv.1 (by simp)
  | cons u us =>
    have hu : VR ρ F w s u := hv.2 0 s u rfl rfl
    have tl : ∀ s', VR ρ F w s' u → VRs ρ F w (s' :: post) (u :: us) := fun s' hs' => ⟨by simpa using hv.1, fun i x y hx hy => by
      cases i with
      | zero => simp at hx hy; subst hx; subst hy; exact hs'
      | succ i => exact hv.2 (i + 1) x y (by simpa using hx) (by simpa using hy)⟩
    rcases vr_empty hs hu with h | h
    · exact h1.2 ρ F w _ r fr (tl _ h)
    · exact h2.2 ρ F w _ r fr (tl _ (h 1))

/-- Nil, as a slice of a block of no element. -/
theorem wk_virt {H0 H : Heap} {s : AV} (sz : Nat) (hs : s = .snil ∨ s = .emp) : Wk H0 [s] H [.own H.length sz 0 0 0] (H ++ [some (.arr sz [])]) := by
  intro ρ0 F0 w0 r0 f0 ρ F w us r f tr e
  obtain ⟨r1, f1, e1⟩ := rel_virt r f sz
  refine ⟨_, F, r1, f1, ⟨tr.1, fun i x u hx hu => ?_⟩, e.trans e1⟩
  cases i with
  | succ i => simp at hx
  | zero =>
    simp at hx
    subst hx
    have h := tr.2 0 s u rfl hu
    have : ∃ A, u = .slice A 0 0 := by
      rcases hs with rfl | rfl
      · cases h; exact ⟨_, rfl⟩
      · cases h; exact ⟨_, rfl⟩
    obtain ⟨A, rfl⟩ := this
    exact .own0 _ _ _ _ (by simp [updv])

/-- Nothing new is kept, and one block was written. -/
theorem wk_0s {H L : Heap} {id : Nat} {b : Blk} {t t' : List AV} (hb : IdsB (· < H.length) b) (ht : SlKs H.length [] t t') : Wk H t (H.set id (some b) ++ L) t' (H.set id (some b)) := by
  refine Wk.keep (fun i => i) (by simp) (fun _ _ => rfl) (fun i j _ _ h => h) (fun i h1 h2 => h1) ?_ (fun i x hi => ?_)
  · have key : ∀ (t t' : List AV), SlKs H.length [] t t' → t'.length = t.length ∧ ∀ (i : Nat) x, t'[i]? = some x → x = .any ∨ (t[i]? = some (ren (fun i => i) x) ∧ Ids (· < (H.set id (some b)).length) x) := by
      intro t
      induction t with
      | nil => intro t' h; cases t' with
        | nil => exact ⟨rfl, fun i x hx => by simp at hx⟩
        | cons y ys => exact h.elim
      | cons x xs ih =>
        intro t' h
        cases t' with
        | nil => exact h.elim
        | cons y ys =>
          obtain ⟨h1, h2⟩ := h
          obtain ⟨h3, h4⟩ := ih ys h2
          refine ⟨by simp [h3], fun i z hz => ?_⟩
          cases i with
          | zero =>
            simp at hz
            subst hz
            have hr : ∀ {y : AV}, Lt H.length y → ren (fun i => i) y = y := fun h => ren_id (D := (· < H.length)) (fun _ _ => rfl) h
            rcases h1 with h1 | ⟨h1, h5⟩ | ⟨h1, h5⟩
            · exact .inl h1
            · exact .inr ⟨by rw [hr h5, h1]; rfl, h5.mono fun i hi => by simpa using hi⟩
            · have h5' : Lt H.length y := by simpa using h5
              exact .inr ⟨by rw [hr h5', h1, ren_lt h5']; rfl, h5'.mono fun i hi => by simpa using hi⟩
          | succ i => simpa using h4 i z (by simpa using hz)
    exact key t t' ht
  · have hlt := (List.getElem?_eq_some_iff.1 hi).1
    rw [List.getElem?_append_left hlt]
    by_cases h : i = id
    · subst h
      have hl : i < H.length := by simpa using hlt
      simp only [List.getElem?_set_self hl, Option.some.injEq] at hi
      subst hi
      refine .inr ⟨?_, ?_⟩
      · rw [List.getElem?_set_self hl, renB_id (D := (· < H.length)) (fun _ _ => rfl) hb]
      · rw [List.length_set]; exact hb
    · rw [List.getElem?_set_ne (Ne.symm h)] at hi ⊢
      exact .inl ⟨by simpa using hlt, hi, hi⟩

theorem wk_0e {H L : Heap} {id : Nat} {b b' : Blk} {t t' : List AV} (hb : IdsB (· < H.length) b) (he : b' = b) (ht : SlKs H.length [] t t') : Wk H t (H.set id (some b') ++ L) t' (H.set id (some b)) := by subst he; exact wk_0s hb ht

/-- Blocks as they were, or that name nothing new. -/
def Sub (B H0 : Heap) : Prop := B.length = H0.length ∧ ∀ (i : Nat) b, B[i]? = some (some b) → H0[i]? = some (some b) ∨ IdsB (· < H0.length) b
theorem sub_refl {H : Heap} : Sub H H := ⟨rfl, fun i b h => .inl h⟩
theorem sub_none {B H : Heap} {id : Nat} (h : Sub B H) : Sub (B.set id none) H := ⟨by rw [List.length_set]; exact h.1, fun i b hi => by
  rw [List.getElem?_set] at hi
  split at hi
  · split at hi <;> simp at hi
  · exact h.2 i b hi⟩
theorem sub_set {B H : Heap} {id : Nat} {b : Blk} (h : Sub B H) (hb : IdsB (· < H.length) b) : Sub (B.set id (some b)) H := ⟨by rw [List.length_set]; exact h.1, fun i c hi => by
  rw [List.getElem?_set] at hi
  split at hi
  · split at hi
    · simp at hi; subst hi; exact .inr hb
    · simp at hi
  · exact h.2 i c hi⟩

/-- Some new blocks are kept, and slots for them. -/
theorem wk_gen {H B L bs : Heap} {t t' : List AV} (hs : Sub B H) (ks : List Nat) (hl : bs.length = ks.length) (hn : ∀ i j, i < ks.length → j < ks.length → ks.getD i 0 = ks.getD j 0 → i = j) (ht : SlKs H.length ks t t')
    (hb : ∀ (j : Nat) b, bs[j]? = some (some b) → L[ks.getD j 0]? = some (some (renB (tau H.length ks) b)) ∧ IdsB (· < H.length + ks.length) b) : Wk H t (B ++ L) t' (B ++ bs) := by
  have hlen : (B ++ bs).length = H.length + ks.length := by rw [List.length_append, hl, hs.1]
  refine Wk.keep (tau H.length ks) (by omega) (fun i hi => tau_lt hi) (fun i j hi hj h => ?_) (fun i h1 h2 => ?_) ?_ (fun i b hi => ?_)
  · rw [hlen] at hi hj
    unfold tau at h
    split at h <;> split at h
    · exact h
    · omega
    · omega
    · have := hn (i - H.length) (j - H.length) (by omega) (by omega) (by omega); omega
  · rw [show i = H.length + (i - H.length) by omega, tau_S]; omega
  · rw [hlen]
    have key : ∀ (t t' : List AV), SlKs H.length ks t t' → t'.length = t.length ∧ ∀ (i : Nat) x, t'[i]? = some x → x = .any ∨ (t[i]? = some (ren (tau H.length ks) x) ∧ Ids (· < H.length + ks.length) x) := by
      intro t
      induction t with
      | nil => intro t' h; cases t' with
        | nil => exact ⟨rfl, fun i x hx => by simp at hx⟩
        | cons y ys => exact h.elim
      | cons x xs ih =>
        intro t' h
        cases t' with
        | nil => exact h.elim
        | cons y ys =>
          obtain ⟨h1, h2⟩ := h
          obtain ⟨h3, h4⟩ := ih ys h2
          refine ⟨by simp [h3], fun i z hz => ?_⟩
          cases i with
          | zero =>
            simp at hz
            subst hz
            rcases h1 with h1 | ⟨h1, h5⟩ | ⟨h1, h5⟩
            · exact .inl h1
            · exact .inr ⟨by rw [ren_lt h5, h1]; rfl, h5.more _⟩
            · exact .inr ⟨by rw [← h1]; rfl, h5⟩
          | succ i => simpa using h4 i z (by simpa using hz)
    exact key t t' ht
  · rcases Nat.lt_or_ge i B.length with h | h
    · rw [List.getElem?_append_left h] at hi
      have h' : i < H.length := by rw [← hs.1]; exact h
      rcases hs.2 i b hi with h0 | h0
      · exact .inl ⟨h', h0, by rw [List.getElem?_append_left h]; exact hi⟩
      · refine .inr ⟨?_, ?_⟩
        · rw [tau_lt h', List.getElem?_append_left h, renB_id (D := (· < H.length)) (fun i hi => tau_lt hi) h0]
          exact hi
        · rw [hlen]
          cases b with
          | box l => exact fun x hx => (h0 x hx).mono fun i hi => by omega
          | arr sz rows => exact fun row hr x hx => (h0 row hr x hx).mono fun i hi => by omega
    · rw [List.getElem?_append_right h] at hi
      obtain ⟨h1, h2⟩ := hb _ _ hi
      rw [hs.1] at h h1
      refine .inr ⟨?_, by rw [hlen]; exact h2⟩
      rw [show i = H.length + (i - H.length) by omega, tau_S, ← hs.1, hgetS, hs.1]
      exact h1
theorem wkb_0 {H B L : Heap} {t t' : List AV} (hs : Sub B H) (ht : SlKs H.length [] t t') : Wk H t (B ++ L) t' B := by
  have := wk_gen (L := L) (bs := []) hs [] rfl (fun i j hi => by simp at hi) ht (fun j b h => by simp at h)
  rwa [List.append_nil] at this
theorem wkb_1 {H B L : Heap} {t t' : List AV} (hs : Sub B H) (k : Nat) {b : Blk} (ht : SlKs H.length [k] t t') (hb : L[k]? = some (some b)) (hi : IdsB (· < H.length) b) : Wk H t (B ++ L) t' (B ++ [some b]) := by
  refine wk_gen hs [k] rfl (fun i j hi hj _ => by simp at hi hj; omega) ht (fun j c h => ?_)
  cases j with
  | zero =>
    simp at h
    subst h
    have e : renB (tau H.length [k]) b = b := renB_id (D := (· < H.length)) (fun i hi => tau_lt hi) hi
    refine ⟨by simp only [List.getD_cons_zero]; rw [e]; exact hb, ?_⟩
    cases b with
    | box l => exact fun x hx => (hi x hx).mono fun i hi => by omega
    | arr sz rows => exact fun row hr x hx => (hi row hr x hx).mono fun i hi => by omega
  | succ j => simp at h

/-- A block under a new name. -/
def SlM (id n : Nat) (x y : AV) : Prop := y = .any ∨ x = y ∨ ∃ sz off len lc, x = .own id sz off len lc ∧ y = .own n sz off len lc
def SlMs (id n : Nat) : List AV → List AV → Prop
  | [], [] => True
  | x :: xs, y :: ys => SlM id n x y ∧ SlMs id n xs ys
  | _, _ => False
theorem slM_any {id n : Nat} {x : AV} : SlM id n x .any = True := eq_true (.inl rfl)
theorem slM_same {id n : Nat} {x : AV} : SlM id n x x = True := eq_true (.inr (.inl rfl))
theorem slM_own {id n sz off len lc : Nat} : SlM id n (.own id sz off len lc) (.own n sz off len lc) = True := eq_true (.inr (.inr ⟨_, _, _, _, rfl, rfl⟩))
theorem slM_int {id n : Nat} {k : IntKind} {a b : Int} : SlM id n (.int k a) (.int k b) = (a = b) := propext ⟨fun h => by
  rcases h with h | h | ⟨_, _, _, _, h, _⟩ <;> cases h
  rfl, fun h => by subst h; exact .inr (.inl rfl)⟩
theorem slMs_nil {id n : Nat} : SlMs id n [] [] = True := rfl
theorem slMs_cons {id n : Nat} {x y : AV} {xs ys : List AV} : SlMs id n (x :: xs) (y :: ys) = (SlM id n x y ∧ SlMs id n xs ys) := rfl
theorem slMs_ok {id n : Nat} : ∀ {t t' : List AV}, SlMs id n t t' → t'.length = t.length ∧ ∀ (i : Nat) y, t'[i]? = some y → ∃ x, t[i]? = some x ∧ SlM id n x y
  | [], [], _ => ⟨rfl, fun i x h => by simp at h⟩
  | x :: xs, y :: ys, h => by
    obtain ⟨h1, h2⟩ := slMs_ok h.2
    refine ⟨by simp [h1], fun i z hz => ?_⟩
    cases i with
    | zero => simp at hz; subst hz; exact ⟨x, rfl, h.1⟩
    | succ i => simpa using h2 i z (by simpa using hz)
  | [], _ :: _, h => h.elim
  | _ :: _, [], h => h.elim

theorem wk_mv {H0 H : Heap} {t t' : List AV} (id : Nat) {b : Blk} (hb : H[id]? = some (some b)) (ht : SlMs id H.length t t') : Wk H0 t H t' (H.set id none ++ [some b]) := by
  intro ρ0 F0 w0 r0 f0 ρ F w us r f tr e
  have hlt : id < H.length := (List.getElem?_eq_some_iff.1 hb).1
  have hlv : live H id := ⟨b, hb⟩
  let ρ' : Ren := fun i => if i = H.length then ρ id else ρ i
  have hne : ∀ i, i ≠ H.length → ρ' i = ρ i := fun i hi => by simp [ρ', hi]
  have hup : ρ' H.length = ρ id := by simp [ρ']
  have hpre : ∀ i g, ρ i = some g → ρ' i = some g := fun i g hg => by
    rw [hne]
    · exact hg
    · rintro rfl; rw [f H.length (Nat.le_refl _)] at hg; cases hg
  have k : ∀ x u, VR ρ F w x u → VR ρ' F w x u := fun x u h => h.mono hpre (fun _ h => h) (fun _ _ => rfl) (fun _ _ _ h => h)
  have hget : ∀ (i : Nat) c, (H.set id none ++ [some b])[i]? = some (some c) → (i < H.length ∧ i ≠ id ∧ H[i]? = some (some c)) ∨ (i = H.length ∧ c = b) := by
    intro i c hi
    rcases Nat.lt_or_ge i H.length with h | h
    · rw [List.getElem?_append_left (by simpa using h), List.getElem?_set] at hi
      split at hi
      · simp at hi
      · rename_i h1; exact .inl ⟨h, fun e => h1 e.symm, hi⟩
    · have := (List.getElem?_eq_some_iff.1 hi).1
      simp at this
      obtain rfl : i = H.length := by omega
      rw [hget0s] at hi
      simp at hi
      exact .inr ⟨rfl, hi.symm⟩
  have hcase : ∀ i, live (H.set id none ++ [some b]) i → (i < H.length ∧ i ≠ id ∧ live H i) ∨ i = H.length := fun i ⟨c, hc⟩ => by
    rcases hget i c hc with ⟨h1, h2, h3⟩ | ⟨h1, _⟩
    · exact .inl ⟨h1, h2, c, h3⟩
    · exact .inr h1
  obtain ⟨hl, hsl⟩ := slMs_ok ht
  refine ⟨ρ', F, { blk := ?_, inj := ?_, fsz := r.fsz, rsz := ?_ }, fun i hi => ?_, ⟨by rw [hl]; exact tr.1, fun i y u hy hu => ?_⟩, e.trans { pre := fun i hi => hne i (by omega), fsub := fun _ h => h, os := rfl, tape := rfl, output := rfl, size := Nat.le_refl _, shape := fun _ _ => rfl, frame := fun _ _ _ => rfl, fnew := fun _ h => .inl h, len := by simp, old := fun i hi h => ?_, new := fun i g hi h hg => ?_ }⟩
  · intro i c hi
    rcases hget i c hi with ⟨h1, h2, h3⟩ | ⟨rfl, rfl⟩
    · rcases r.blk i c h3 with ⟨g, ca, tt, a1, a2, a3, a4⟩ | ⟨a1, a2⟩
      · exact .inl ⟨g, ca, tt, hpre i _ a1, a2, a3, a4.mono k⟩
      · exact .inr ⟨hpre i _ a1, a2⟩
    · rcases r.blk id c hb with ⟨g, ca, tt, a1, a2, a3, a4⟩ | ⟨a1, a2⟩
      · exact .inl ⟨g, ca, tt, by rw [hup]; exact a1, a2, a3, a4.mono k⟩
      · exact .inr ⟨by rw [hup]; exact a1, a2⟩
  · intro i j g hi hj h1 h2
    rcases hcase i hi with ⟨hi1, hi2, hi3⟩ | rfl <;> rcases hcase j hj with ⟨hj1, hj2, hj3⟩ | rfl
    · rw [hne i (by omega)] at h1; rw [hne j (by omega)] at h2; exact r.inj i j g hi3 hj3 h1 h2
    · rw [hne i (by omega)] at h1; rw [hup] at h2; exact absurd (r.inj i id g hi3 hlv h1 h2) hi2
    · rw [hup] at h1; rw [hne j (by omega)] at h2; exact absurd (r.inj j id g hj3 hlv h2 h1) hj2
    · rfl
  · intro i g hg
    by_cases hi : i = H.length
    · subst hi; rw [hup] at hg; exact r.rsz _ g hg
    · rw [hne i hi] at hg; exact r.rsz i g hg
  · have : H.length + 1 ≤ i := by simpa using hi
    rw [hne i (by omega)]; exact f i (by omega)
  · obtain ⟨x, hx, hm⟩ := hsl i y hy
    rcases hm with rfl | rfl | ⟨sz, off, len, lc, rfl, rfl⟩
    · exact .any _
    · exact k _ _ (tr.2 i _ u hx hu)
    · have hv := k _ _ (tr.2 i _ u hx hu)
      cases hv with
      | own _ _ _ _ _ cap m t A hg hs ho hl hc hm hf => exact .own _ _ _ _ _ cap m t A (by rw [hup, ← hne id (by omega)]; exact hg) hs ho hl hc hm hf
      | own0 _ _ _ A hg => exact .own0 _ _ _ A (by rw [hup, ← hne id (by omega)]; exact hg)
  · rcases hcase i h with ⟨_, _, h⟩ | h
    · exact h
    · omega
  · rcases hcase i h with ⟨h1, _, _⟩ | rfl
    · omega
    · rw [hup] at hg
      exact .inr ⟨id, hlv, hg⟩
end Go.Proofs.Ytkecenijjdpfdaa.AL
