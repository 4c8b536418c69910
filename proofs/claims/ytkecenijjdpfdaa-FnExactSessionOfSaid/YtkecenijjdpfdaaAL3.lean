/-
  What abstract blocks tell of the world's cells: reading, writing, a new block; no conditions beyond each lemma's own.
-/
import Derived.Test.YtkecenijjdpfdaaAL2
namespace Go.Proofs.Ytkecenijjdpfdaa.AL
open Go
set_option linter.unusedVariables false
set_option linter.unusedSimpArgs false

theorem ev_ok {ρ : Ren} {F : Nat → Prop} {w : World} {t : List AV} {a : Act} (h : TR ρ F w t a.tmps) (x : Operand) : VR ρ F w (ev t x) (a.eval x) := by
  cases x with
  | tmp i =>
    simp only [ev, Act.eval]
    rcases Nat.lt_or_ge i t.length with hi | hi
    · have hi' : i < a.tmps.size := by rw [← h.1]; exact hi
      have h1 : t.getD i .any = t[i] := by simp [List.getD_eq_getElem?_getD, hi]
      have h2 : a.tmps.getD i undef = a.tmps[i] := by simp [Array.getD, hi']
      rw [h1, h2]
      exact h.2 i _ _ (List.getElem?_eq_getElem hi) (Array.getElem?_eq_getElem hi')
    · have h1 : t.getD i .any = .any := by simp [List.getD_eq_getElem?_getD, List.getElem?_eq_none hi]
      rw [h1]; exact .any _
  | const v =>
    simp only [ev, Act.eval]
    unfold cv
    split
    · exact .int _ _
    · exact .bool _
    · exact .snil
    · exact .nilp
    · exact .any _
  | global g => exact .any _
  | func f => exact .func f [] [] rfl (fun i x u h => by simp at h)

/-- Cells behind an address. -/
def CellsFrom (w : World) (A : Addr) (o : Nat) (us : List Value) : Prop := ∀ (j : Nat) v, us[j]? = some v → w.cell? ⟨A.block, A.off + (o + j), none⟩ = some v

/-- Values one by one. -/
def VRs (ρ : Ren) (F : Nat → Prop) (w : World) (xs : List AV) (us : List Value) : Prop := xs.length = us.length ∧ ∀ (i : Nat) x u, xs[i]? = some x → us[i]? = some u → VR ρ F w x u

theorem VRs.nil {ρ : Ren} {F : Nat → Prop} {w : World} : VRs ρ F w [] [] := ⟨rfl, fun i x u h => by simp at h⟩
theorem VRs.cons {ρ : Ren} {F : Nat → Prop} {w : World} {x : AV} {u : Value} {xs : List AV} {us : List Value} (h : VR ρ F w x u) (t : VRs ρ F w xs us) : VRs ρ F w (x :: xs) (u :: us) := by
  refine ⟨by simp [t.1], fun i y v hy hv => ?_⟩
  cases i with
  | zero => simp at hy hv; subst hy; subst hv; exact h
  | succ i => exact t.2 i y v (by simpa using hy) (by simpa using hv)
theorem VRs.one {ρ : Ren} {F : Nat → Prop} {w : World} {x : AV} {u : Value} (h : VR ρ F w x u) : VRs ρ F w [x] [u] := .cons h .nil
theorem VRs.take {ρ : Ren} {F : Nat → Prop} {w : World} {xs : List AV} {us : List Value} (h : VRs ρ F w xs us) (n : Nat) : VRs ρ F w (xs.take n) (us.take n) :=
  ⟨by simp [h.1], fun i x u hx hu => by
    rw [List.getElem?_take] at hx hu
    split at hx
    · rename_i hi; rw [if_pos hi] at hu; exact h.2 i x u hx hu
    · cases hx⟩
theorem VRs.drop {ρ : Ren} {F : Nat → Prop} {w : World} {xs : List AV} {us : List Value} (h : VRs ρ F w xs us) (n : Nat) : VRs ρ F w (xs.drop n) (us.drop n) :=
  ⟨by simp [h.1], fun i x u hx hu => by rw [List.getElem?_drop] at hx hu; exact h.2 _ x u hx hu⟩
theorem VRs.append {ρ : Ren} {F : Nat → Prop} {w : World} {xs ys : List AV} {us vs : List Value} (h : VRs ρ F w xs us) (k : VRs ρ F w ys vs) : VRs ρ F w (xs ++ ys) (us ++ vs) := by
  refine ⟨by simp [h.1, k.1], fun i x u hx hu => ?_⟩
  rcases Nat.lt_or_ge i xs.length with hi | hi
  · rw [List.getElem?_append_left hi] at hx
    rw [List.getElem?_append_left (by rw [← h.1]; exact hi)] at hu
    exact h.2 i x u hx hu
  · rw [List.getElem?_append_right hi] at hx
    rw [List.getElem?_append_right (by rw [← h.1]; exact hi), ← h.1] at hu
    exact k.2 _ x u hx hu
theorem VRs.mono {ρ ρ' : Ren} {F F' : Nat → Prop} {w w' : World} {xs : List AV} {us : List Value} (h : VRs ρ F w xs us) (k : ∀ x u, VR ρ F w x u → VR ρ' F' w' x u) : VRs ρ' F' w' xs us := ⟨h.1, fun i x u hx hu => k x u (h.2 i x u hx hu)⟩

theorem cells_ok {ρ : Ren} {F : Nat → Prop} {w : World} {x : AV} {u : Value} (h : VR ρ F w x u) (hn : x ≠ .any) : VRs ρ F w (cellsOf x) u.cells.toList := by
  cases h with
  | any => exact absurd rfl hn
  | agg l us hl h => exact ⟨by simpa [cellsOf, Value.cells] using hl, fun i x u hx hu => h i x u hx (by simpa [Value.cells] using hu)⟩
  | _ => refine .one ?_; first | constructor; done | (constructor <;> assumption)

theorem cell_one {ρ : Ren} {F : Nat → Prop} {w : World} {x : AV} {u : Value} (h : VR ρ F w x u) (hc : isCell x = true) : u.oneCell' = true := by
  cases h <;> first | rfl | (simp [isCell] at hc; done)

theorem all_one {ρ : Ren} {F : Nat → Prop} {w : World} {xs : List AV} {us : List Value} (h : VRs ρ F w xs us) (hc : xs.all isCell = true) : ∀ u ∈ us, u.oneCell' = true := by
  intro u hu
  obtain ⟨i, hi, rfl⟩ := List.getElem_of_mem hu
  have hx : i < xs.length := by rw [h.1]; exact hi
  exact cell_one (h.2 i _ _ (List.getElem?_eq_getElem hx) (List.getElem?_eq_getElem hi)) (List.all_eq_true.1 hc _ (List.getElem_mem hx))

theorem len_ok {ρ : Ren} {F : Nat → Prop} {w : World} {s : AV} {A : Option Addr} {n cap k : Nat} (h : VR ρ F w s (.slice A n cap)) (hk : lenOf s = some k) : n = k := by
  cases h <;> simp [lenOf] at hk <;> omega

theorem slice_of_len {ρ : Ren} {F : Nat → Prop} {w : World} {s : AV} {u : Value} {k : Nat} (h : VR ρ F w s u) (hk : lenOf s = some k) : ∃ A cap, u = .slice A k cap ∧ (0 < k → ∃ a, A = some a ∧ a.spot = none) := by
  cases h with
  | own id sz off len lc cap m t A h hs' ho hl hc hm hf => simp [lenOf] at hk; subst hk; exact ⟨_, _, rfl, fun _ => ⟨A, rfl, hs'⟩⟩
  | own0 id sz off A => simp [lenOf] at hk; subst hk; exact ⟨_, _, rfl, fun h => by omega⟩
  | fro sz rows A cap U hz hc ha hn hU h => simp [lenOf] at hk; subst hk; exact ⟨_, _, rfl, fun hp => ha (fun e => by subst e; simp at hp)⟩
  | snil => simp [lenOf] at hk; subst hk; exact ⟨_, _, rfl, fun h => by omega⟩
  | emp A => simp [lenOf] at hk; subst hk; exact ⟨_, _, rfl, fun h => by omega⟩
  | efro sz cap A => simp [lenOf] at hk; subst hk; exact ⟨_, _, rfl, fun h => by omega⟩
  | _ => simp [lenOf] at hk

/-- The values of a list's indices. -/
theorem choose_list {β : Type} (P : Nat → β → Prop) (n : Nat) (h : ∀ i, i < n → ∃ b, P i b) : ∃ l : List β, l.length = n ∧ ∀ (i : Nat) b, l[i]? = some b → P i b := by
  induction n with
  | zero => exact ⟨[], rfl, fun i b h => by simp at h⟩
  | succ n ih =>
    obtain ⟨l, hl, hp⟩ := ih (fun i hi => h i (by omega))
    obtain ⟨b, hb⟩ := h n (Nat.lt_succ_self n)
    refine ⟨l ++ [b], by simp [hl], fun i c hc => ?_⟩
    rcases Nat.lt_or_ge i l.length with hi | hi
    · rw [List.getElem?_append_left hi] at hc; exact hp i c hc
    · have := (List.getElem?_eq_some_iff.1 hc).1
      simp at this
      obtain rfl : i = l.length := by omega
      simp at hc
      subst hc
      rw [hl]; exact hb

theorem row_mid {sz i k c m : Nat} (h : i < k) (hc : c < sz) (hm : k * sz ≤ m) : i * sz + c < m := by
  have : (i + 1) * sz ≤ k * sz := Nat.mul_le_mul_right _ h
  rw [Nat.add_mul, Nat.one_mul] at this
  omega

/-- A slice's elements lie where they should. -/
theorem rows_ok {ρ : Ren} {F : Nat → Prop} {H : Heap} {w : World} (r : Rel ρ F H w) {s : AV} {rows : List (List AV)} {A : Option Addr} {n cap : Nat} (hr : rowsOf H s = some rows) (h : VR ρ F w s (.slice A n cap)) :
    rows.length = n ∧ ∀ (i : Nat) row, rows[i]? = some row → row.length = szv s ∧ ∃ a us, A = some a ∧ a.spot = none ∧ VRs ρ F w row us ∧ CellsFrom w a (i * szv s) us := by
  cases h with
  | own id sz off len lc cap m t a h hs' ho hl hc hm hf =>
    simp only [rowsOf] at hr
    split at hr
    · rename_i sz' all hb
      split at hr
      · rename_i hc2
        obtain ⟨rfl, hle⟩ := hc2
        cases hr
        refine ⟨by simp; omega, fun i row hrow => ?_⟩
        rcases r.blk id _ hb with ⟨g, cs, t', hg, hnf, hcs, hsz, hrows, hcell⟩ | ⟨hg, _⟩
        · rw [h] at hg
          cases hg
          rw [List.getElem?_take, List.getElem?_drop] at hrow
          split at hrow
          · rename_i hi
            have hlen := hrows row (List.mem_of_getElem? hrow)
            refine ⟨hlen, a, ?_⟩
            obtain ⟨us, hul, hus⟩ := choose_list (fun c u => cs[(off + i) * sz' + c]? = some u ∧ ∀ x, row[c]? = some x → VR ρ F w x u) row.length (fun c hc' => by
              obtain ⟨u, hu, hv⟩ := hcell (off + i) c row row[c] hrow (List.getElem?_eq_getElem hc')
              exact ⟨u, hu, fun x hx => by rw [List.getElem?_eq_getElem hc'] at hx; cases hx; exact hv⟩)
            refine ⟨us, rfl, hs', ⟨hul.symm, fun c x u hx hu => (hus c u hu).2 x hx⟩, fun c u hu => ?_⟩
            have hcap : cap ≠ 0 := by omega
            have := (hus c u hu).1
            unfold World.cell?
            simp only [hcs]
            show cs[_]? = _
            rw [ho hcap, ← this]
            congr 1
            simp only [szv]
            rw [Nat.add_mul]; omega
          · cases hrow
        · rw [h] at hg; cases hg
      · cases hr
    · cases hr
  | own0 id sz off a =>
    simp only [rowsOf] at hr
    split at hr
    · split at hr
      · cases hr
        exact ⟨by simp, fun i row hrow => by simp at hrow⟩
      · cases hr
    · cases hr
  | fro sz rows' a cap U hz hc ha hn hU h =>
    simp only [rowsOf, Option.some.injEq] at hr
    subst hr
    refine ⟨rfl, fun i row hrow => ⟨hz row (List.mem_of_getElem? hrow), ?_⟩⟩
    have hne : rows' ≠ [] := fun e => by subst e; simp at hrow
    obtain ⟨ad, rfl, hsp⟩ := ha hne
    obtain ⟨us, hul, hus⟩ := choose_list (fun c u => u = U i c) row.length (fun c _ => ⟨_, rfl⟩)
    refine ⟨ad, us, rfl, hsp, ⟨hul.symm, fun c x u hx hu => by rw [hus c u hu]; exact h i c row x hrow hx⟩, fun c u hu => ?_⟩
    have hc' : c < row.length := by rw [← hul]; exact (List.getElem?_eq_some_iff.1 hu).1
    obtain ⟨a', ha', _, _, hcell⟩ := hU i c row _ hrow (List.getElem?_eq_getElem hc')
    cases ha'
    rw [hus c u hu]
    exact hcell
  | any => simp [rowsOf] at hr
  | snil => simp only [rowsOf, Option.some.injEq] at hr; subst hr; exact ⟨rfl, fun i row hrow => by simp at hrow⟩
  | emp a => simp only [rowsOf, Option.some.injEq] at hr; subst hr; exact ⟨rfl, fun i row hrow => by simp at hrow⟩
  | efro sz cap a => simp only [rowsOf, Option.some.injEq] at hr; subst hr; exact ⟨rfl, fun i row hrow => by simp at hrow⟩

/-- What is read behind a pointer. -/
theorem rd_ok {ρ : Ren} {F : Nat → Prop} {H : Heap} {w : World} (r : Rel ρ F H w) {p : AV} {u : Value} {n : Nat} {cs : List AV} (h : VR ρ F w p u) (hr : rd H p n = some cs) (hn : cs.length = n) :
    ∃ A us, u = .pointer (some A) ∧ A.spot = none ∧ VRs ρ F w cs us ∧ CellsFrom w A 0 us := by
  cases h with
  | ptr id c g h =>
    simp only [rd] at hr
    split at hr
    · rename_i cells hb
      cases hr
      rcases r.blk id _ hb with ⟨g', ca, t, hg, hnf, hcs, hsz, hcell⟩ | ⟨hg, sz, hb'⟩
      · rw [h] at hg
        cases hg
        refine ⟨_, (ca.toList.drop c).take n, rfl, rfl, ⟨by simp [hsz], fun i x v hx hv => ?_⟩, fun j v hv => ?_⟩
        · rw [List.getElem?_take, List.getElem?_drop] at hx hv
          split at hx
          · rename_i hi
            rw [if_pos hi] at hv
            obtain ⟨v', hv', hvr⟩ := hcell _ x hx
            rw [Array.getElem?_toList, hv'] at hv
            cases hv
            exact hvr
          · cases hx
        · rw [List.getElem?_take, List.getElem?_drop] at hv
          split at hv
          · unfold World.cell?
            simp only [hcs]
            show ca[_]? = _
            rw [← Array.getElem?_toList, ← hv]
            congr 1; omega
          · cases hv
      · cases hb'
    · cases hr
  | eptr s i c n' cap A h hi hs' =>
    simp only [rd, Option.map_eq_some_iff] at hr
    obtain ⟨rows, hrows, rfl⟩ := hr
    obtain ⟨hlen, hrow⟩ := rows_ok r hrows h
    have hi' : i < rows.length := by omega
    have hget : rows.getD i [] = rows[i] := by simp [List.getD_eq_getElem?_getD, hi']
    rw [hget] at hn ⊢
    obtain ⟨hl, a, us, ha, hsp, hvr, hcf⟩ := hrow i _ (List.getElem?_eq_getElem hi')
    cases ha
    refine ⟨_, (us.drop c).take n, rfl, rfl, (hvr.drop c).take n, fun j v hv => ?_⟩
    rw [List.getElem?_take, List.getElem?_drop] at hv
    split at hv
    · have := hcf _ v hv
      show w.cell? ⟨A.block, A.off + (i * szv s + c) + (0 + j), none⟩ = _
      rw [← this]
      congr 2; omega
    · cases hv
  | _ => simp [rd] at hr

theorem splice_length {α : Type} (l vs : List α) (c : Nat) (h : c + vs.length ≤ l.length) : (splice l c vs).length = l.length := by simp [splice]; omega

theorem splice_get {α : Type} (l vs : List α) (c j : Nat) (h : c + vs.length ≤ l.length) : (splice l c vs)[j]? = if c ≤ j ∧ j < c + vs.length then vs[j - c]? else l[j]? := by
  unfold splice
  rcases Nat.lt_or_ge j c with hj | hj
  · rw [List.append_assoc, List.getElem?_append_left (by simp; omega), List.getElem?_take, if_pos hj, if_neg (by omega)]
  · rcases Nat.lt_or_ge j (c + vs.length) with hj' | hj'
    · rw [List.append_assoc, List.getElem?_append_right (by simp; omega), List.getElem?_append_left (by simp; omega), if_pos ⟨hj, hj'⟩]
      congr 1; simp; omega
    · rw [List.getElem?_append_right (by simp; omega), List.getElem?_drop, if_neg (by omega)]
      congr 1; simp; omega
end Go.Proofs.Ytkecenijjdpfdaa.AL
