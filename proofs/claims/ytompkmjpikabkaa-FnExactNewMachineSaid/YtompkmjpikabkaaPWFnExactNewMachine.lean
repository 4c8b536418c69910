/-
  Words for loops over lists that a printed function runs with a number of rounds: what they come to; no conditions beyond each lemma's own.
-/
import Derived.Test.YtompkmjpikabkaaVFnExactNewMachine
import Derived.IntWalk
namespace Go.Proofs.Ytompkmjpikabkaa.PW
open Go.RowKit Go.Proofs.YtompkmjpikabkaaW.PrintWords Go.Proofs.YtompkmjpikabkaaW.PrintMore
set_option linter.unusedVariables false
set_option linter.unusedSimpArgs false

theorem wrap_id {n : Int} (h0 : -9223372036854775808 ≤ n) (h1 : n ≤ 9223372036854775807) : wrap64 n = n := Go.IntWalk.wrap64_in n ⟨h0, h1⟩

/-- A call whose answer is known, then the rest. -/
theorem Ev.then_ {α β : Type} {g : Nat → Option α} {f : Nat → α → Option β} {a : α} {r : β} (h : Ev g a) (k : Ev (fun n => f n a) r) : Ev (fun n => (g n).bind (f n)) r := Ev.bind h k

theorem ev_eq {α : Type} {g : Nat → Option α} {r : α} (K : Nat) (h : ∀ k, K ≤ k → g k = some r) : Ev g r := ⟨K, h⟩

theorem ev_add {α : Type} {g : Nat → Option α} {r : α} (K : Nat) (h : ∀ k, g (k + K) = some r) : Ev g r := ⟨K, fun k hk => by have := h (k - K); rwa [Nat.sub_add_cancel hk] at this⟩

/-- A loop: each state either ends, or goes to a smaller one. -/
theorem ev_loop {σ ρ : Type} (l : Nat → σ → Option ρ) (I : σ → Prop) (m : σ → Nat) (R : σ → ρ → Prop)
    (h : ∀ s, I s → (∃ r, R s r ∧ ∃ K, ∀ k, K ≤ k → l (k + 1) s = some r) ∨ (∃ s', I s' ∧ m s' < m s ∧ (∀ r, R s' r → R s r) ∧ ∃ K, ∀ k, K ≤ k → l (k + 1) s = l k s')) :
    ∀ s, I s → ∃ r, R s r ∧ Ev (fun k => l k s) r := by
  have key : ∀ n s, m s < n → I s → ∃ r, R s r ∧ Ev (fun k => l k s) r := by
    intro n
    induction n with
    | zero => exact fun s hn => absurd hn (Nat.not_lt_zero _)
    | succ n ih =>
      intro s hs hI
      rcases h s hI with ⟨r, hr, K, hk⟩ | ⟨s', hI', hm, hR, K, hk⟩
      · exact ⟨r, hr, K + 1, fun k hkk => by
          obtain ⟨j, rfl⟩ : ∃ j, k = j + 1 := ⟨k - 1, by omega⟩
          exact hk j (by omega)⟩
      · obtain ⟨r, hr, K', hk'⟩ := ih s' (by omega) hI'
        exact ⟨r, hR r hr, max K K' + 1, fun k hkk => by
          obtain ⟨j, rfl⟩ : ∃ j, k = j + 1 := ⟨k - 1, by omega⟩
          exact (hk j (by omega)).trans (hk' j (by omega))⟩
  exact fun s hI => key (m s + 1) s (Nat.lt_succ_self _) hI

theorem take_succ_map {α β : Type} (f : α → β) (d : α) (xs : List α) (i : Nat) (h : i < xs.length) : (xs.take (i + 1)).map f = (xs.take i).map f ++ [f (xs.getD i d)] := by
  rw [List.take_succ_eq_append_getElem h, List.map_append, List.map_singleton, List.getD_eq_getElem?_getD, List.getElem?_eq_getElem h]; rfl

theorem rd_mem {α : Type} (d : α) (xs : List α) (i : Nat) (h : i < xs.length) : xs.getD i d ∈ xs := by
  rw [List.getD_eq_getElem?_getD, List.getElem?_eq_getElem h]; exact List.getElem_mem h

/-- A loop that takes each element's size off what is left. -/
theorem ev_szs {α : Type} (L : Nat → List α → Int → Int → Option Int) (xs : List α) (d : α) (P : α → Prop) (hn : xs.length ≤ 9223372036854775806)
    (hs : ∀ (i : Nat), i < xs.length → ∀ n : Int, 0 ≤ n → n ≤ 1048576 → ∃ v : Int, (v < 0 ∧ ∃ K, ∀ k, K ≤ k → L (k + 1) xs n i = some (-1)) ∨ (0 ≤ v ∧ v ≤ n ∧ P (xs.getD i d) ∧ ∃ K, ∀ k, K ≤ k → L (k + 1) xs n i = L k xs v (wrap64 (i + 1))))
    (he : ∀ k (n : Int) (i : Int), ¬ i < xs.length → L (k + 1) xs n i = some n) (n : Int) (h0 : 0 ≤ n) (h1 : n ≤ 1048576) :
    ∃ v : Int, Ev (fun k => L k xs n 0) v ∧ (v < 0 ∨ 0 ≤ v ∧ v ≤ n ∧ ∀ y ∈ xs, P y) := by
  obtain ⟨r, hr, hv⟩ := ev_loop (fun k (s : Int × Int) => L k xs s.1 s.2) (fun s => ∃ i : Nat, i ≤ xs.length ∧ s.2 = i ∧ 0 ≤ s.1 ∧ s.1 ≤ n) (fun s => xs.length - s.2.toNat) (fun s r => r < 0 ∨ 0 ≤ r ∧ r ≤ s.1 ∧ ∀ j : Nat, s.2.toNat ≤ j → j < xs.length → P (xs.getD j d))
    (fun s ⟨i, hi, h2, h3, h4⟩ => by
      obtain ⟨m, j⟩ := s
      simp only at h2 h3 h4
      subst h2
      rcases Nat.lt_or_ge i xs.length with hlt | hge
      · obtain ⟨v, hv⟩ := hs i hlt m h3 (by omega)
        rcases hv with ⟨hv, K, hK⟩ | ⟨hv1, hv2, hp, K, hK⟩
        · exact Or.inl ⟨-1, Or.inl (by omega), K, hK⟩
        · refine Or.inr ⟨(v, ((i + 1 : Nat) : Int)), ⟨i + 1, by omega, rfl, hv1, by simp only; omega⟩, by simp; omega, fun r hr => ?_, K, fun k hk => ?_⟩
          · rcases hr with hr | ⟨hr1, hr2, hr3⟩
            · exact Or.inl hr
            · refine Or.inr ⟨hr1, by simp only at hr2 ⊢; omega, fun j hj hj2 => ?_⟩
              simp only [Int.toNat_natCast] at hj hr3
              rcases Nat.eq_or_lt_of_le hj with rfl | hj
              · exact hp
              · exact hr3 j (by omega) hj2
          · simp only
            rw [hK k hk, wrap_id (by omega) (by omega)]
            rfl
      · refine Or.inl ⟨m, Or.inr ⟨h3, Int.le_refl _, fun j hj hj2 => ?_⟩, 0, fun k _ => he k m _ (by simp only; omega)⟩
        simp only [Int.toNat_natCast] at hj
        omega) (n, 0) ⟨0, Nat.zero_le _, rfl, h0, by simp only; omega⟩
  refine ⟨r, hv, ?_⟩
  rcases hr with hr | ⟨hr1, hr2, hr3⟩
  · exact Or.inl hr
  · refine Or.inr ⟨hr1, hr2, fun y hy => ?_⟩
    obtain ⟨j, hj, rfl⟩ := List.getElem_of_mem hy
    have := hr3 j (by simp) hj
    rwa [List.getD_eq_getElem?_getD, List.getElem?_eq_getElem hj] at this

/-- A list turned element by element into a new one; each element's turning may take rounds. -/
theorem ev_conv2 {α β : Type} (L : Nat → List α → List β → Int → Option (List β)) (f : α → β) (d : α) (z : β) (xs : List α) (hn : xs.length ≤ 9223372036854775806)
    (h : ∀ (i : Nat), i < xs.length → ∃ K, ∀ k, K ≤ k → ∀ out : List β, out.length = xs.length → L (k + 1) xs out i = L k xs (out.set i (f (xs.getD i d))) (wrap64 (i + 1)))
    (h0 : ∀ k out (i : Int), ¬ i < xs.length → L (k + 1) xs out i = some out) : Ev (fun k => L k xs (List.replicate xs.length z) 0) (xs.map f) := by
  have := ev_loop (fun k (s : List β × Int) => L k xs s.1 s.2) (fun s => ∃ i : Nat, i ≤ xs.length ∧ s.2 = i ∧ s.1 = (xs.take i).map f ++ List.replicate (xs.length - i) z) (fun s => xs.length - s.2.toNat) (fun _ r => r = xs.map f)
    (fun s ⟨i, hi, h2, h1⟩ => by
      obtain ⟨out, j⟩ := s
      simp only at h1 h2
      subst h1; subst h2
      rcases Nat.lt_or_ge i xs.length with hlt | hge
      · right
        obtain ⟨K, hK⟩ := h i hlt
        refine ⟨(((xs.take (i + 1)).map f ++ List.replicate (xs.length - (i + 1)) z), ((i + 1 : Nat) : Int)), ⟨i + 1, by omega, rfl, rfl⟩, by simp; omega, fun r hr => hr, K, fun k hk => ?_⟩
        simp only
        rw [hK k hk _ (by simp; omega)]
        rw [wrap_id (by omega) (by omega)]
        simp only [Int.natCast_add]
        congr 1
        rw [take_succ_map f d xs i hlt, List.set_append_right _ _ (by simp [Nat.min_le_left])]
        simp only [List.length_map, List.length_take, Nat.min_eq_left (Nat.le_of_lt hlt), Nat.sub_self]
        rw [show xs.length - i = (xs.length - (i + 1)) + 1 by omega, List.replicate_succ, List.set_cons_zero]
        simp
      · left
        refine ⟨_, ?_, 0, fun k _ => h0 k _ _ (by omega)⟩
        have : i = xs.length := by omega
        subst this
        simp)
    (List.replicate xs.length z, 0) ⟨0, by omega, rfl, by simp⟩
  obtain ⟨r, rfl, hr⟩ := this
  exact hr
/-- A list turned element by element into a new one. -/
theorem ev_conv {α β : Type} (L : Nat → List α → List β → Int → Option (List β)) (f : α → β) (d : α) (z : β) (xs : List α) (hn : xs.length ≤ 9223372036854775806)
    (h : ∀ k out (i : Int), 0 ≤ i → i < xs.length → i < out.length → L (k + 1) xs out i = L k xs (out.set i.toNat (f (xs.getD i.toNat d))) (wrap64 (i + 1)))
    (h0 : ∀ k out (i : Int), ¬ i < xs.length → L (k + 1) xs out i = some out) : Ev (fun k => L k xs (List.replicate xs.length z) 0) (xs.map f) :=
  ev_conv2 L f d z xs hn (fun i hi => ⟨0, fun k _ out ho => by have := h k out i (by omega) (by omega) (by omega); simpa using this⟩) h0

/-- A list held against itself, element by element. -/
theorem ev_same {α : Type} (E : Nat → List α → List α → Int → Option Bool) (xs : List α) (hn : xs.length ≤ 9223372036854775806)
    (h : ∀ (i : Int), 0 ≤ i → i < xs.length → ∃ K, ∀ k, K ≤ k → E (k + 1) xs xs i = E k xs xs (wrap64 (i + 1)))
    (h0 : ∀ k (i : Int), ¬ i < xs.length → E (k + 1) xs xs i = some true) : Ev (fun k => E k xs xs 0) true := by
  obtain ⟨r, rfl, hr⟩ := ev_loop (fun k (s : Int) => E k xs xs s) (fun s => 0 ≤ s ∧ s ≤ xs.length) (fun s => xs.length - s.toNat) (fun _ r => r = true)
    (fun s hs => by
      by_cases hlt : s < xs.length
      · right
        obtain ⟨K, hK⟩ := h s hs.1 hlt
        rw [wrap_id (by omega) (by omega)] at hK
        exact ⟨s + 1, ⟨by omega, by omega⟩, by omega, fun r hr => hr, K, hK⟩
      · left
        exact ⟨true, rfl, 0, fun k _ => h0 k s hlt⟩) 0 ⟨by omega, by omega⟩
  exact hr

/-- How many of the first numbers are so. -/
def cntN (p : Nat → Bool) : Nat → Int
  | 0 => 0
  | n + 1 => cntN p n + if p n = true then 1 else 0
theorem cntN_bd (p : Nat → Bool) : ∀ n, 0 ≤ cntN p n ∧ cntN p n ≤ n
  | 0 => by simp [cntN]
  | n + 1 => by have := cntN_bd p n; simp only [cntN]; split <;> omega
theorem cntN_congr {p q : Nat → Bool} : ∀ n, (∀ i, i < n → p i = q i) → cntN p n = cntN q n
  | 0, _ => rfl
  | n + 1, h => by simp only [cntN]; rw [cntN_congr n (fun i hi => h i (by omega)), h n (by omega)]
/-- A loop that counts. -/
theorem ev_cnt {ρ : Type} (L : Nat → Int → Int → Option ρ) (n : Nat) (p : Nat → Bool) (c0 : Int) (fin : Int → ρ) (hn : n ≤ 1048576) (hc0 : 0 ≤ c0) (hc1 : c0 ≤ 1048576)
    (h1 : ∀ k (c : Int) (i : Nat), i < n → p i = true → L (k + 1) c i = L k (wrap64 (c + 1)) (wrap64 (i + 1)))
    (h2 : ∀ k (c : Int) (i : Nat), i < n → p i = false → L (k + 1) c i = L k c (wrap64 (i + 1)))
    (h3 : ∀ k (c : Int), L (k + 1) c n = some (fin c)) : Ev (fun k => L k c0 0) (fin (c0 + cntN p n)) := by
  obtain ⟨r, hr0, hr⟩ := ev_loop (fun k (s : Int × Int) => L k s.1 s.2) (fun s => ∃ i : Nat, i ≤ n ∧ s.2 = i ∧ s.1 = c0 + cntN p i) (fun s => n - s.2.toNat) (fun _ r => r = fin (c0 + cntN p n))
    (fun s ⟨i, hi, e2, e1⟩ => by
      obtain ⟨c, j⟩ := s
      simp only at e1 e2
      subst e1; subst e2
      have hb := cntN_bd p i
      rcases Nat.lt_or_ge i n with hlt | hge
      · right
        by_cases hp : p i = true
        · refine ⟨(c0 + cntN p (i + 1), ((i + 1 : Nat) : Int)), ⟨i + 1, by omega, rfl, rfl⟩, by simp; omega, fun r hr => hr, 0, fun k _ => ?_⟩
          simp only
          rw [h1 k _ i hlt hp, wrap_id (by omega) (by omega), wrap_id (by omega) (by omega)]
          simp only [cntN, if_pos hp, Int.add_assoc]
          rfl
        · refine ⟨(c0 + cntN p (i + 1), ((i + 1 : Nat) : Int)), ⟨i + 1, by omega, rfl, rfl⟩, by simp; omega, fun r hr => hr, 0, fun k _ => ?_⟩
          simp only
          rw [h2 k _ i hlt (by simpa using hp), wrap_id (by omega) (by omega)]
          simp only [cntN, if_neg hp, Int.add_zero]
          rfl
      · left
        obtain rfl : i = n := by omega
        exact ⟨_, rfl, 0, fun k _ => h3 k _⟩) (c0, 0) ⟨0, Nat.zero_le _, rfl, by simp [cntN]⟩
  rw [← hr0]; exact hr

/-- Are all of the first numbers so? -/
def allN (p : Nat → Bool) : Nat → Bool
  | 0 => true
  | n + 1 => allN p n && p n
theorem allN_true {p : Nat → Bool} : ∀ {n}, allN p n = true ↔ ∀ i, i < n → p i = true
  | 0 => by simp [allN]
  | n + 1 => by
    simp only [allN, Bool.and_eq_true, allN_true]
    exact ⟨fun h i hi => (Nat.lt_succ_iff_lt_or_eq.1 hi).elim (fun hi => h.1 i hi) (fun e => e ▸ h.2), fun h => ⟨fun i hi => h i (by omega), h n (by omega)⟩⟩
/-- A loop that ends at the first that is not so. -/
theorem ev_all {ρ : Type} (L : Nat → Int → Option ρ) (n : Nat) (p : Nat → Bool) (no yes : ρ) (hn : n ≤ 1048576)
    (h1 : ∀ (i : Nat), i < n → p i = true → ∃ K, ∀ k, K ≤ k → L (k + 1) i = L k (wrap64 (i + 1)))
    (h2 : ∀ (i : Nat), i < n → p i = false → ∃ K, ∀ k, K ≤ k → L (k + 1) i = some no)
    (h3 : ∃ K, ∀ k, K ≤ k → L (k + 1) n = some yes) : Ev (fun k => L k 0) (if allN p n = true then yes else no) := by
  obtain ⟨r, hr0, hr⟩ := ev_loop (fun k (s : Int) => L k s) (fun s => ∃ i : Nat, i ≤ n ∧ s = i ∧ allN p i = true) (fun s => n - s.toNat) (fun _ r => r = if allN p n = true then yes else no)
    (fun s ⟨i, hi, e1, e2⟩ => by
      subst e1
      rcases Nat.lt_or_ge i n with hlt | hge
      · by_cases hp : p i = true
        · right
          obtain ⟨K, hK⟩ := h1 i hlt hp
          exact ⟨((i + 1 : Nat) : Int), ⟨i + 1, by omega, rfl, by simp [allN, e2, hp]⟩, by simp; omega, fun r hr => hr, K, fun k hk => by rw [hK k hk, wrap_id (by omega) (by omega)]; rfl⟩
        · left
          obtain ⟨K, hK⟩ := h2 i hlt (by simpa using hp)
          exact ⟨no, by rw [if_neg (fun h => hp (allN_true.1 h i hlt))], K, hK⟩
      · left
        obtain rfl : i = n := by omega
        obtain ⟨K, hK⟩ := h3
        exact ⟨yes, by rw [if_pos e2], K, hK⟩) 0 ⟨0, Nat.zero_le _, rfl, rfl⟩
  rw [← hr0]; exact hr
/-- Two lists of one length, element by element. -/
def eqLB {α : Type} (q : α → α → Bool) (d : α) (a b : List α) : Bool := decide (a.length = b.length) && allN (fun i => q (a.getD i d) (b.getD i d)) a.length
theorem ev_eqLB {α : Type} (F : Nat → Option Bool) (L : Nat → Int → Option Bool) (q : α → α → Bool) (d : α) (a b : List α) (hn : a.length ≤ 1048576)
    (hF : ∀ k, F k = if (a.length : Int) = (b.length : Int) then L k 0 else some false)
    (h1 : a.length = b.length → ∀ (i : Nat), i < a.length → q (a.getD i d) (b.getD i d) = true → ∃ K, ∀ k, K ≤ k → L (k + 1) i = L k (wrap64 (i + 1)))
    (h2 : a.length = b.length → ∀ (i : Nat), i < a.length → q (a.getD i d) (b.getD i d) = false → ∃ K, ∀ k, K ≤ k → L (k + 1) i = some false)
    (h3 : ∀ k, L (k + 1) a.length = some true) : Ev F (eqLB q d a b) := by
  unfold eqLB
  by_cases h : a.length = b.length
  · refine Ev.congr (f := fun k => L k 0) (fun k => by rw [hF, if_pos (by omega)]) ?_
    have := ev_all L a.length (fun i => q (a.getD i d) (b.getD i d)) false true hn (h1 h) (h2 h) ⟨0, fun k _ => h3 k⟩
    simp only [h, decide_true, Bool.true_and] at this ⊢
    cases hh : allN (fun i => q (a.getD i d) (b.getD i d)) b.length <;> simp_all
  · refine Ev.congr (f := fun _ => some false) (fun k => by rw [hF, if_neg (by omega)]) ?_
    simp only [h, decide_false, Bool.false_and]
    exact Ev.now false

/-- How many elements two lists have in common, from the first on. -/
def cm {α : Type} (q : α → α → Bool) : List α → List α → Nat
  | x :: xs, y :: ys => if q x y = true then cm q xs ys + 1 else 0
  | _, _ => 0
theorem cm_left {α : Type} (q : α → α → Bool) : ∀ xs ys : List α, cm q xs ys ≤ xs.length
  | x :: xs, y :: ys => by
    simp only [cm]
    split
    · have := cm_left q xs ys; simp; omega
    · simp
  | [], _ => by simp [cm]
  | _ :: _, [] => by simp [cm]
theorem cm_right {α : Type} (q : α → α → Bool) : ∀ xs ys : List α, cm q xs ys ≤ ys.length
  | x :: xs, y :: ys => by
    simp only [cm]
    split
    · have := cm_right q xs ys; simp; omega
    · simp
  | [], _ => by simp [cm]
  | _ :: _, [] => by simp [cm]

theorem ev_common {α : Type} (q : α → α → Bool) (d : α) (xs ys : List α) (L : Nat → Int → Option Int) (hn : xs.length ≤ 9223372036854775806)
    (h1 : ∀ k (i : Int), 0 ≤ i → i < xs.length → i < ys.length → q (xs.getD i.toNat d) (ys.getD i.toNat d) = true → L (k + 1) i = L k (wrap64 (i + 1)))
    (h2 : ∀ k (i : Int), 0 ≤ i → i < xs.length → i < ys.length → ¬ q (xs.getD i.toNat d) (ys.getD i.toNat d) = true → L (k + 1) i = some i)
    (h3 : ∀ k (i : Int), 0 ≤ i → ¬ (i < xs.length ∧ i < ys.length) → L (k + 1) i = some i) : Ev (fun k => L k 0) (cm q xs ys : Int) := by
  obtain ⟨r, hr0, hr⟩ := ev_loop (fun k (s : Int) => L k s) (fun s => 0 ≤ s ∧ s ≤ xs.length) (fun s => xs.length - s.toNat) (fun s r => r = s + cm q (xs.drop s.toNat) (ys.drop s.toNat))
    (fun s hs => by
      obtain ⟨i, rfl⟩ := Int.eq_ofNat_of_zero_le hs.1
      by_cases hlt : i < xs.length ∧ i < ys.length
      · have e1 : xs.drop i = xs.getD i d :: xs.drop (i + 1) := by rw [List.drop_eq_getElem_cons hlt.1, List.getD_eq_getElem?_getD, List.getElem?_eq_getElem hlt.1]; rfl
        have e2 : ys.drop i = ys.getD i d :: ys.drop (i + 1) := by rw [List.drop_eq_getElem_cons hlt.2, List.getD_eq_getElem?_getD, List.getElem?_eq_getElem hlt.2]; rfl
        by_cases hq : q (xs.getD i d) (ys.getD i d) = true
        · right
          refine ⟨((i + 1 : Nat) : Int), ⟨by omega, by omega⟩, by simp; omega, fun r hr => ?_, 0, fun k _ => ?_⟩
          · simp only [Int.toNat_natCast] at hr ⊢
            rw [hr, e1, e2]
            simp only [cm, hq, if_true]
            omega
          · rw [h1 k i (by omega) (by omega) (by omega) (by simpa using hq), wrap_id (by omega) (by omega)]
            rfl
        · left
          refine ⟨_, rfl, 0, fun k _ => ?_⟩
          rw [h2 k i (by omega) (by omega) (by omega) (by simpa using hq)]
          simp only [Int.toNat_natCast]
          rw [e1, e2]
          simp only [cm, hq]
          simp
      · left
        refine ⟨_, rfl, 0, fun k _ => ?_⟩
        rw [h3 k i (by omega) (by omega)]
        simp only [Int.toNat_natCast]
        rcases Nat.lt_or_ge i xs.length with h | h
        · rw [List.drop_eq_nil_of_le (as := ys) (by omega)]
          cases xs.drop i <;> simp [cm]
        · rw [List.drop_eq_nil_of_le (as := xs) (by omega)]
          simp [cm]) 0 ⟨by omega, by omega⟩
  simp at hr0
  rw [hr0] at hr
  exact hr
end Go.Proofs.Ytompkmjpikabkaa.PW
