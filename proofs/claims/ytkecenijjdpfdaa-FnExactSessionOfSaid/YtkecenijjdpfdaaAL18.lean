/-
  Words for the contracts of functions: lists of elements in slices, counting loops, numbers; no conditions beyond each lemma's own.
-/
import Derived.Test.YtkecenijjdpfdaaAL17
import Derived.IntWalk
namespace Go.Proofs.Ytkecenijjdpfdaa.AL
open Go
set_option linter.unusedVariables false
set_option linter.unusedSimpArgs false

/-- The room is for all elements. -/
def lcOk : AV → Prop
  | .own _ _ _ len lc => len ≤ lc
  | _ => True
/-- Not nil, by its form. -/
def nnil : AV → Prop
  | .own _ _ _ _ lc => lc ≠ 0
  | .fro _ rows => rows ≠ []
  | _ => True
/-- A slice of such elements. -/
structure Sl (H : Heap) (s : AV) (sz : Nat) (rows : List (List AV)) : Prop where
  get : rowsOf H s = some rows
  szk : szOk s sz = true
  row : ∀ row ∈ rows, RowOk sz row
  lcok : lcOk s

theorem len_of_rows {H : Heap} {s : AV} {rows : List (List AV)} (h : rowsOf H s = some rows) : lenOf s = some rows.length := by
  cases s <;> simp only [rowsOf, reduceCtorEq, Option.some.injEq] at h
  case own =>
    split at h
    · split at h
      · cases h
        rename_i hc
        simp [lenOf]; omega
      · cases h
    · cases h
  all_goals (subst h; rfl)

theorem rows_app {H L : Heap} {s : AV} {rows : List (List AV)} (h : rowsOf H s = some rows) : rowsOf (H ++ L) s = some rows := by
  cases s <;> simp only [rowsOf, reduceCtorEq] at h ⊢ <;> try exact h
  rename_i id sz off len lc
  rcases Nat.lt_or_ge id H.length with hl | hl
  · rw [List.getElem?_append_left hl]; exact h
  · rw [List.getElem?_eq_none hl] at h; simp at h

theorem Sl.len {H : Heap} {s : AV} {sz : Nat} {rows : List (List AV)} (h : Sl H s sz rows) : lenOf s = some rows.length := len_of_rows h.get
theorem Sl.app {H : Heap} {s : AV} {sz : Nat} {rows : List (List AV)} (h : Sl H s sz rows) (L : Heap) : rowsOf (H ++ L) s = some rows := rows_app h.get
theorem Sl.more {H : Heap} {s : AV} {sz : Nat} {rows : List (List AV)} (h : Sl H s sz rows) (L : Heap) : Sl (H ++ L) s sz rows := ⟨h.app L, h.szk, h.row, h.lcok⟩

theorem getD_map {α : Type} {f : α → List AV} {l : List α} {k : Nat} (h : k < l.length) : (l.map f).getD k [] = f (l[k]'h) := by
  simp [List.getD_eq_getElem?_getD, h]

theorem wrap_in {n : Int} (h0 : -9223372036854775808 ≤ n) (h1 : n ≤ 9223372036854775807) : IntKind.i64.wrap n = n := Go.IntWalk.i64_in n ⟨h0, h1⟩
theorem wrap_succ {k : Nat} (h : k ≤ 9223372036854775806) : IntKind.i64.wrap ((k : Int) + 1) = ((k + 1 : Nat) : Int) := by rw [wrap_in (by omega) (by omega)]; omega

section
variable {P : Program} {T : Tab} {mc : Nat → Bool} {Q : AX → List AV → Heap → Prop} {k : List It} {t : List AV} {H : Heap}

/-- Where a round of a loop comes out. -/
def LQ (N : List AV → Heap → Prop) (B : AX → List AV → Heap → Prop) : AX → List AV → Heap → Prop
  | .normal, t, H => N t H
  | .ret, t, H => B .ret t H
  | .exit id, t, H => B (.exit id) t H
theorem lq_normal {N : List AV → Heap → Prop} {B : AX → List AV → Heap → Prop} : LQ N B .normal t H = N t H := rfl
theorem lq_ret {N : List AV → Heap → Prop} {B : AX → List AV → Heap → Prop} : LQ N B .ret t H = B .ret t H := rfl
theorem lq_exit {N : List AV → Heap → Prop} {B : AX → List AV → Heap → Prop} {id : Nat} : LQ N B (.exit id) t H = B (.exit id) t H := rfl
theorem cont_exit {id : Nat} : cont P T mc Q k (.exit id) t H = E P T mc Q id k t H := rfl

/-- A loop that counts up to n. -/
theorem lp_up (hT : TOk P T) (n : Nat) {b : Code} (I : Nat → List AV) (J : Nat → Heap) (V : Nat → Prop) (hd : dAll mc b = true) (hv : V 0) (h0 : Wk H t H (I 0) (J 0))
    (round : ∀ j, j < n → V j → R P T mc (LQ (fun t H' => V (j + 1) ∧ Wk H t H' (I (j + 1)) (J (j + 1))) (cont P T mc Q k)) [.code b] (I j) (J j))
    (last : V n → R P T mc (LQ (fun _ _ => False) (cont P T mc Q k)) [.code b] (I n) (J n)) : Lp P T mc Q b k t H := by
  refine lp_run hT hd (σ := { j : Nat // j ≤ n ∧ V j }) (fun s => I s.1) (fun s => J s.1) (fun s => n - s.1) (fun s => ?_) ⟨0, Nat.zero_le _, hv⟩ h0
  obtain ⟨j, hj, hV⟩ := s
  rcases Nat.lt_or_ge j n with hlt | hge
  · refine mono_ (round j hlt hV) fun x t' H' hx => ?_
    cases x with
    | normal => obtain ⟨h1, h2⟩ := hx; exact ⟨⟨j + 1, hlt, h1⟩, by simp; omega, h2⟩
    | ret => exact hx
    | exit id => exact hx
  · obtain rfl : j = n := by omega
    refine mono_ (last hV) fun x t' H' hx => ?_
    cases x with
    | normal => exact hx.elim
    | ret => exact hx
    | exit id => exact hx
where
  mono_ {Q Q' : AX → List AV → Heap → Prop} {b : Code} {t : List AV} {H : Heap} (h : R P T mc Q [.code b] t H) (hq : ∀ x t H, Q x t H → Q' x t H) : R P T mc Q' [.code b] t H := vc_mono b hq h
  vcOps_mono {ops : Array Oper} {K K' : List AV → Heap → Prop} (hk : ∀ t H, K t H → K' t H) : ∀ (l : List Oper) (t : List AV) (H : Heap), vcOps P T ops l t H K → vcOps P T ops l t H K'
    | [], t, H, h => hk _ _ h
    | o :: l, t, H, h => by
      unfold vcOps at h ⊢
      split
      · rename_i hg; rw [hg] at h; exact vcOp_mono (fun v H' h => vcOps_mono hk l _ _ h) h
      · rename_i j want hg
        rw [hg] at h
        simp only at h
        split
        · rename_i d hd
          rw [hd] at h
          simp only at h
          split
          · rename_i b hb
            rw [hb] at h
            exact ⟨fun e => vcOp_mono (fun v H' h => vcOps_mono hk l _ _ h) (h.1 e), fun e => vcOps_mono hk l _ _ (h.2 e)⟩
          · rename_i hb
            rw [hb] at h
            exact vcOps_mono hk l _ _ h
          · rename_i hb hb2
            split at h
            · rename_i b hb'; exact absurd hb' (hb b)
            · rename_i hb'; exact absurd hb' hb2
            · exact h
        · rename_i hd; rw [hd] at h; exact h
  vcD_mono {ops : Array Oper} {K K' : List AV → Heap → Prop} (hk : ∀ t H, K t H → K' t H) : ∀ (l : List Oper) (fl : List Bool) (t : List AV) (H : Heap), vcD P T ops l fl t H K → vcD P T ops l fl t H K'
    | [], fl, t, H, h => hk _ _ h
    | o :: l, fl, t, H, h => by
      unfold vcD at h ⊢
      split
      · rename_i hg; rw [hg] at h; exact vcOp_mono (fun v H' h => ⟨h.1, vcD_mono hk l _ _ _ h.2⟩) h
      · rename_i j want hg
        rw [hg] at h
        simp only at h
        split
        · rename_i d hd
          rw [hd] at h
          simp only at h
          split
          · rename_i b hb
            rw [hb] at h
            exact ⟨fun e => vcOp_mono (fun v H' h => ⟨h.1, vcD_mono hk l _ _ _ h.2⟩) (h.1 e), fun e => vcD_mono hk l _ _ _ (h.2 e)⟩
          · rename_i hb
            rw [hb] at h
            exact vcD_mono hk l _ _ _ h
          · rename_i hb hb2
            split at h
            · rename_i b hb'; exact absurd hb' (hb b)
            · rename_i hb'; exact absurd hb' hb2
            · exact h
        · rename_i hd; rw [hd] at h; exact h
  vc_mono : ∀ (c : Code) {Q Q' : AX → List AV → Heap → Prop} {t : List AV} {H : Heap}, (∀ x t H, Q x t H → Q' x t H) → vc P T mc c Q t H → vc P T mc c Q' t H
    | .skip, Q, Q', t, H, hq, h => hq _ _ _ h
    | .region id ops draw, Q, Q', t, H, hq, h => by
      unfold vc at h ⊢
      split
      · rename_i hd; rw [if_pos hd] at h; exact vcD_mono (hq _) _ _ _ _ h
      · rename_i hd; rw [if_neg hd] at h; exact vcOps_mono (hq _) _ _ _ h
    | .seq a b, Q, Q', t, H, hq, h => vc_mono a (fun x t H hx => by cases x <;> first | exact vc_mono b hq hx | exact hq _ _ _ hx) h
    | .cond c x y, Q, Q', t, H, hq, h => by
      unfold vc at h ⊢
      split
      · rename_i b hb; rw [hb] at h; exact ⟨fun e => vc_mono x hq (h.1 e), fun e => vc_mono y hq (h.2 e)⟩
      · rename_i hb
        split at h
        · rename_i b hb'; exact absurd hb' (hb b)
        · exact h
    | .block id b, Q, Q', t, H, hq, h => vc_mono b (fun x t H hx => by
        cases x with
        | normal => exact hq _ _ _ hx
        | ret => exact hq _ _ _ hx
        | exit id' =>
          simp only [inBlockQ] at hx ⊢
          split
          · rename_i e; rw [if_pos e] at hx; exact hq _ _ _ hx
          · rename_i e; rw [if_neg e] at hx; exact hq _ _ _ hx) h
    | .loop b, Q, Q', t, H, hq, h => h.mono hq
    | .exit id, Q, Q', t, H, hq, h => hq _ _ _ h
    | .ret, Q, Q', t, H, hq, h => hq _ _ _ h
    | .rangeFunc .., _, _, _, _, _, h => by simp [vc] at h
    | .scope _, _, _, _, _, _, h => by simp [vc] at h
    | .label _, _, _, _, _, _, h => by simp [vc] at h
    | .goto _, _, _, _, _, _, h => by simp [vc] at h
    | .refuse _, _, _, _, _, _, h => by simp [vc] at h
end

/-! ### Names below a number -/
def Lt (n : Nat) (x : AV) : Prop := Ids (· < n) x
def LtL (n : Nat) (l : List AV) : Prop := ∀ x ∈ l, Lt n x
section
variable {n : Nat}
theorem lt_any : Lt n .any = True := eq_true .any
theorem lt_int {k : IntKind} {m : Int} : Lt n (.int k m) = True := eq_true (.int _ _)
theorem lt_bool {b : Bool} : Lt n (.bool b) = True := eq_true (.bool _)
theorem lt_nilp : Lt n .nilp = True := eq_true .nilp
theorem lt_snil : Lt n .snil = True := eq_true .snil
theorem lt_emp : Lt n .emp = True := eq_true .emp
theorem lt_efro {sz : Nat} : Lt n (.efro sz) = True := eq_true (.efro _)
theorem lt_ptr {id c : Nat} : Lt n (.ptr id c) = (id < n) := propext ⟨fun h => by cases h; assumption, fun h => .ptr _ _ h⟩
theorem lt_own {id sz off len lc : Nat} : Lt n (.own id sz off len lc) = (id < n) := propext ⟨fun h => by cases h; assumption, fun h => .own _ _ _ _ _ h⟩
theorem lt_eptr {s : AV} {i c : Nat} : Lt n (.eptr s i c) = Lt n s := propext ⟨fun h => by cases h; assumption, fun h => .eptr _ _ _ h⟩
theorem lt_agg {l : List AV} : Lt n (.agg l) = LtL n l := propext ⟨fun h => by cases h; assumption, fun h => .agg _ h⟩
theorem lt_tup {l : List AV} : Lt n (.tup l) = LtL n l := propext ⟨fun h => by cases h; assumption, fun h => .tup _ h⟩
theorem lt_func {f : FuncId} {l : List AV} : Lt n (.func f l) = LtL n l := propext ⟨fun h => by cases h; assumption, fun h => .func _ _ h⟩
theorem ltL_nil : LtL n [] = True := eq_true (fun x h => by cases h)
theorem ltL_cons {x : AV} {l : List AV} : LtL n (x :: l) = (Lt n x ∧ LtL n l) := propext ⟨fun h => ⟨h x (by simp), fun y hy => h y (by simp [hy])⟩, fun h y hy => by rcases List.mem_cons.1 hy with rfl | hy; exact h.1; exact h.2 y hy⟩
theorem lt_fro {sz : Nat} {rows : List (List AV)} (h : ∀ row ∈ rows, LtL n row) : Lt n (.fro sz rows) := .fro _ _ h
theorem Lt.more {x : AV} (h : Lt n x) (m : Nat) : Lt (n + m) x := h.mono fun i hi => by omega
theorem Lt.le {m : Nat} {x : AV} (h : Lt n x) (hm : n ≤ m) : Lt m x := h.mono fun i hi => by omega
end

theorem Sl.lt {H : Heap} {s : AV} {sz : Nat} {rows : List (List AV)} (h : Sl H s sz rows) (hr : ∀ row ∈ rows, LtL H.length row) : Lt H.length s := by
  have hg := h.get
  cases s <;> simp only [rowsOf, reduceCtorEq, Option.some.injEq] at hg
  case own id _ _ _ _ =>
    rw [lt_own]
    rcases Nat.lt_or_ge id H.length with hl | hl
    · exact hl
    · rw [List.getElem?_eq_none hl] at hg; simp at hg
  case fro => subst hg; exact lt_fro hr
  case snil => rw [lt_snil]; trivial
  case emp => rw [lt_emp]; trivial
  case efro => rw [lt_efro]; trivial

/-- The names of the blocks that are kept. -/
def tau (n : Nat) (ks : List Nat) (i : Nat) : Nat := if i < n then i else n + ks.getD (i - n) 0
theorem tau_0 {n : Nat} {ks : List Nat} : tau n ks n = n + ks.getD 0 0 := by simp [tau]
theorem tau_S {n j : Nat} {ks : List Nat} : tau n ks (n + j) = n + ks.getD j 0 := by unfold tau; rw [if_neg (by omega), Nat.add_sub_cancel_left]
theorem tau_lt {n i : Nat} {ks : List Nat} (h : i < n) : tau n ks i = i := by simp [tau, h]
theorem ren_lt {n : Nat} {ks : List Nat} {x : AV} (h : Lt n x) : ren (tau n ks) x = x := ren_id (D := (· < n)) (fun i hi => tau_lt hi) h

/-- What becomes of a slot. -/
def SlK (n : Nat) (ks : List Nat) (x y : AV) : Prop := y = .any ∨ (y = x ∧ Lt n y) ∨ (x = ren (tau n ks) y ∧ Lt (n + ks.length) y)
def SlKs (n : Nat) (ks : List Nat) : List AV → List AV → Prop
  | [], [] => True
  | x :: xs, y :: ys => SlK n ks x y ∧ SlKs n ks xs ys
  | _, _ => False

theorem slK_any {n : Nat} {ks : List Nat} {x : AV} : SlK n ks x .any = True := eq_true (.inl rfl)
theorem slK_old {n : Nat} {ks : List Nat} {x : AV} (h : Lt n x) : SlK n ks x x = True := eq_true (.inr (.inl ⟨rfl, h⟩))
theorem slK_int {n : Nat} {ks : List Nat} {k k' : IntKind} {a b : Int} : SlK n ks (.int k a) (.int k' b) = (k = k' ∧ a = b) := propext ⟨fun h => by
  rcases h with h | ⟨h, _⟩ | ⟨h, _⟩
  · cases h
  · cases h; exact ⟨rfl, rfl⟩
  · simp only [ren] at h; cases h; exact ⟨rfl, rfl⟩, fun ⟨h1, h2⟩ => by subst h1; subst h2; exact .inr (.inl ⟨rfl, .int _ _⟩)⟩
theorem slK_bool {n : Nat} {ks : List Nat} {a b : Bool} : SlK n ks (.bool a) (.bool b) = (a = b) := propext ⟨fun h => by
  rcases h with h | ⟨h, _⟩ | ⟨h, _⟩
  · cases h
  · cases h; rfl
  · simp only [ren] at h; cases h; rfl, fun h => by subst h; exact .inr (.inl ⟨rfl, .bool _⟩)⟩
/-- a new slice. -/
theorem slK_own {n : Nat} {ks : List Nat} {id j sz off len lc sz' off' len' lc' : Nat} (hj : j < ks.length) (hid : id = n + ks.getD j 0) (h1 : sz = sz') (h2 : off = off') (h3 : len = len') (h4 : lc = lc') : SlK n ks (.own id sz off len lc) (.own (n + j) sz' off' len' lc') := by
  subst h1; subst h2; subst h3; subst h4
  exact .inr (.inr ⟨by simp only [ren]; rw [tau_S, hid], .own _ _ _ _ _ (by omega)⟩)

/-- Some new blocks are kept, and slots for them. -/
theorem wk_ks {H L bs : Heap} {t t' : List AV} (ks : List Nat) (hl : bs.length = ks.length) (hn : ∀ i j, i < ks.length → j < ks.length → ks.getD i 0 = ks.getD j 0 → i = j) (ht : SlKs H.length ks t t')
    (hb : ∀ (j : Nat) b, bs[j]? = some (some b) → L[ks.getD j 0]? = some (some (renB (tau H.length ks) b)) ∧ IdsB (· < H.length + ks.length) b) : Wk H t (H ++ L) t' (H ++ bs) := by
  have hlen : (H ++ bs).length = H.length + ks.length := by rw [List.length_append, hl]
  refine Wk.keep (tau H.length ks) (by omega) (fun i hi => tau_lt hi) (fun i j hi hj h => ?_) (fun i h1 h2 => ?_) ?_ (fun i b hi => ?_)
  · rw [hlen] at hi hj
    unfold tau at h
    split at h <;> split at h
    · exact h
    · omega
    · omega
    · have := hn (i - H.length) (j - H.length) (by omega) (by omega) (by omega); omega
  · rw [show i = H.length + (i - H.length) by omega, tau_S]; omega
  · rw [hlen]
    have key : ∀ (t t' : List AV), SlKs H.length ks t t' → t'.length = t.length ∧ ∀ (i : Nat) x, t'[i]? = some x → x = .any ∨ (t[i]? = some (ren (tau H.length ks) x) ∧ Ids (· < H.length + ks.length) x) := by
      intro t
      induction t with
      | nil => intro t' h; cases t' with
        | nil => exact ⟨rfl, fun i x hx => by simp at hx⟩
        | cons y ys => exact h.elim
      | cons x xs ih =>
        intro t' h
        cases t' with
        | nil => exact h.elim
        | cons y ys =>
          obtain ⟨h1, h2⟩ := h
          obtain ⟨h3, h4⟩ := ih ys h2
          refine ⟨by simp [h3], fun i z hz => ?_⟩
          cases i with
          | zero =>
            simp at hz
            subst hz
            rcases h1 with h1 | ⟨h1, h5⟩ | ⟨h1, h5⟩
            · exact .inl h1
            · exact .inr ⟨by rw [ren_lt h5, h1]; rfl, h5.more _⟩
            · exact .inr ⟨by rw [← h1]; rfl, h5⟩
          | succ i => simpa using h4 i z (by simpa using hz)
    exact key t t' ht
  · rcases Nat.lt_or_ge i H.length with h | h
    · rw [List.getElem?_append_left h] at hi
      exact .inl ⟨h, hi, by rw [List.getElem?_append_left h]; exact hi⟩
    · rw [List.getElem?_append_right h] at hi
      obtain ⟨h1, h2⟩ := hb _ _ hi
      refine .inr ⟨?_, by rw [hlen]; exact h2⟩
      rw [show i = H.length + (i - H.length) by omega, tau_S, hgetS]
      exact h1

theorem slKs_nil {n : Nat} {ks : List Nat} : SlKs n ks [] [] = True := rfl
theorem slKs_cons {n : Nat} {ks : List Nat} {x y : AV} {xs ys : List AV} : SlKs n ks (x :: xs) (y :: ys) = (SlK n ks x y ∧ SlKs n ks xs ys) := rfl

/-- Nothing new is kept. -/
theorem wk_0 {H L : Heap} {t t' : List AV} (ht : SlKs H.length [] t t') : Wk H t (H ++ L) t' H := by
  have := wk_ks (L := L) (bs := []) [] rfl (fun i j hi => by simp at hi) ht (fun j b h => by simp at h)
  rwa [List.append_nil] at this
theorem wk_00 {H : Heap} {t t' : List AV} (ht : SlKs H.length [] t t') : Wk H t H t' H := by
  have := wk_0 (L := []) ht
  rwa [List.append_nil] at this
/-- One new block is kept, of cells without new names. -/
theorem wk_1 {H L : Heap} {t t' : List AV} (k : Nat) {b : Blk} (ht : SlKs H.length [k] t t') (hb : L[k]? = some (some b)) (hi : IdsB (· < H.length) b) : Wk H t (H ++ L) t' (H ++ [some b]) := by
  refine wk_ks [k] rfl (fun i j hi hj _ => by simp at hi hj; omega) ht (fun j c h => ?_)
  cases j with
  | zero =>
    simp at h
    subst h
    have e : renB (tau H.length [k]) b = b := renB_id (D := (· < H.length)) (fun i hi => tau_lt hi) hi
    refine ⟨by simp only [List.getD_cons_zero]; rw [e]; exact hb, ?_⟩
    cases b with
    | box l => exact fun x hx => (hi x hx).mono fun i hi => by omega
    | arr sz rows => exact fun row hr x hx => (hi row hr x hx).mono fun i hi => by omega
  | succ j => simp at h

/-! ### What is known of a slice, form by form -/
section
variable {H : Heap} {id sz off len lc n : Nat} {rows : List (List AV)}
theorem len_own : lenOf (.own id sz off len lc) = some len := rfl
theorem len_fro : lenOf (.fro sz rows) = some rows.length := rfl
theorem len_snil : lenOf .snil = some 0 := rfl
theorem len_emp : lenOf .emp = some 0 := rfl
theorem len_efro : lenOf (.efro sz) = some 0 := rfl
theorem rows_own : rowsOf H (.own id sz off len lc) = match H[id]? with
    | some (some (.arr sz' rows)) => if sz' = sz ∧ off + len ≤ rows.length then some ((rows.drop off).take len) else none
    | _ => none := rfl
theorem rows_fro : rowsOf H (.fro sz rows) = some rows := rfl
theorem rows_snil : rowsOf H .snil = some [] := rfl
theorem rows_emp : rowsOf H .emp = some [] := rfl
theorem rows_efro : rowsOf H (.efro sz) = some [] := rfl
theorem szk_own : szOk (.own id sz off len lc) n = (sz == n) := rfl
theorem szk_fro : szOk (.fro sz rows) n = (sz == n) := rfl
theorem szk_snil : szOk .snil n = true := rfl
theorem szk_emp : szOk .emp n = true := rfl
theorem szk_efro : szOk (.efro sz) n = true := rfl
theorem beq_same {n : Nat} : (n == n) = true := by simp
end

/-! ### A new slice that is filled place by place -/
def Fill (ys : List (List AV)) (z : List AV) (j : Nat) : List (List AV) := ys.take j ++ List.replicate (ys.length - j) z
section
variable {ys : List (List AV)} {z : List AV} {j : Nat}
theorem fill_0 : List.replicate ys.length z = Fill ys z 0 := by simp [Fill]
theorem fill_n : Fill ys z ys.length = ys := by simp [Fill]
theorem fill_len (h : j ≤ ys.length) : (Fill ys z j).length = ys.length := by simp [Fill]; omega
theorem fill_at (h : j < ys.length) : (Fill ys z j).getD j [] = z := by
  simp only [Fill, List.getD_eq_getElem?_getD]
  rw [List.getElem?_append_right (by simp; omega), List.getElem?_replicate, if_pos (by simp; omega)]
  rfl
theorem fill_set (h : j < ys.length) : (Fill ys z j).set j (ys.getD j []) = Fill ys z (j + 1) := by
  apply List.ext_getElem?
  intro i
  have h1 : min j ys.length = j := by omega
  have h2 : min (j + 1) ys.length = j + 1 := by omega
  simp only [Fill, List.getD_eq_getElem?_getD, List.getElem?_set, List.getElem?_append, List.getElem?_take, List.getElem?_replicate, List.length_append, List.length_take, List.length_replicate, h1, h2]
  rw [List.getElem?_eq_getElem h]
  by_cases hi : i = j
  · subst hi
    rw [if_pos rfl, if_pos (by omega), if_pos (by omega), if_pos (by omega), List.getElem?_eq_getElem h]
    rfl
  · rw [if_neg (Ne.symm hi)]
    by_cases hj : i < j
    · simp only [hj, show i < j + 1 by omega, if_true]
    · simp only [hj, show ¬ i < j + 1 by omega, if_false]
      by_cases hk : i - j < ys.length - j
      · simp only [hk, show i - (j + 1) < ys.length - (j + 1) by omega, if_true]
      · simp only [hk, show ¬ i - (j + 1) < ys.length - (j + 1) by omega, if_false]
end

theorem fill_set' {ys : List (List AV)} {z y : List AV} {j : Nat} (h : j < ys.length) (hy : ys.getD j [] = y) : (Fill ys z j).set j y = Fill ys z (j + 1) := by subst hy; exact fill_set h

/-- Slots that are forgotten. -/
def AnyL : List AV → List AV → Prop
  | [], [] => True
  | x :: xs, y :: ys => (y = .any ∨ x = y) ∧ AnyL xs ys
  | _, _ => False
theorem anyL_nil : AnyL [] [] = True := rfl
theorem anyL_any {x : AV} {xs ys : List AV} : AnyL (x :: xs) (.any :: ys) = AnyL xs ys := by simp [AnyL]
theorem anyL_same {x : AV} {xs ys : List AV} : AnyL (x :: xs) (x :: ys) = AnyL xs ys := by simp [AnyL]
theorem anyL_int {k : IntKind} {a b : Int} {xs ys : List AV} : AnyL (.int k a :: xs) (.int k b :: ys) = (a = b ∧ AnyL xs ys) := by simp [AnyL]
theorem anyL_bool {a b : Bool} {xs ys : List AV} : AnyL (.bool a :: xs) (.bool b :: ys) = (a = b ∧ AnyL xs ys) := by simp [AnyL]
theorem anyL_cons {x y : AV} {xs ys : List AV} : AnyL (x :: xs) (y :: ys) = ((y = .any ∨ x = y) ∧ AnyL xs ys) := rfl
theorem anyL_ok : ∀ {t t' : List AV}, AnyL t t' → t'.length = t.length ∧ ∀ (i : Nat) x, t'[i]? = some x → x = .any ∨ t[i]? = some x
  | [], [], _ => ⟨rfl, fun i x h => by simp at h⟩
  | x :: xs, y :: ys, h => by
    obtain ⟨h1, h2⟩ := anyL_ok h.2
    refine ⟨by simp [h1], fun i z hz => ?_⟩
    cases i with
    | zero => simp at hz; subst hz; rcases h.1 with e | e
              · exact .inl e
              · subst e; exact .inr rfl
    | succ i => simpa using h2 i z (by simpa using hz)
  | [], _ :: _, h => h.elim
  | _ :: _, [], h => h.elim
theorem wk_any {H0 H H' : Heap} {t t' : List AV} (hH : H = H') (h : AnyL t t') : Wk H0 t H t' H' := by
  subst hH; exact Wk.any (anyL_ok h).1 (anyL_ok h).2

/-! ### Branches one by one -/
section
variable {P : Program} {T : Tab} {mc : Nat → Bool} {Q : AX → List AV → Heap → Prop} {k : List It} {t : List AV} {H : Heap} {all : Array Oper} {l : List Oper}
theorem r_brT {x y : Code} : brA P T mc Q (.bool true) x y k t H = R P T mc Q (.code x :: k) t H := by simp [r_br]
theorem r_brF {x y : Code} : brA P T mc Q (.bool false) x y k t H = R P T mc Q (.code y :: k) t H := by simp [r_br]
theorem br_of {b : Bool} {x y : Code} (h1 : b = true → R P T mc Q (.code x :: k) t H) (h2 : b = false → R P T mc Q (.code y :: k) t H) : brA P T mc Q (.bool b) x y k t H := ⟨h1, h2⟩
theorem r_guBTT {dst : Option Tmp} {op : Op} {ty : TypeId} {d : Tmp} : guB P T mc Q (.bool true) d true dst op ty all l k t H = R P T mc Q (.ops all (⟨dst, op, ty, "", #[], none⟩ :: l) :: k) (t.set d (.bool true)) H := by simp [r_guB]
theorem r_guBTF {dst : Option Tmp} {op : Op} {ty : TypeId} {d : Tmp} : guB P T mc Q (.bool true) d false dst op ty all l k t H = R P T mc Q (.ops all l :: k) (putA (t.set d (.bool true)) dst undA) H := by simp [r_guB]
theorem r_guBFT {dst : Option Tmp} {op : Op} {ty : TypeId} {d : Tmp} : guB P T mc Q (.bool false) d true dst op ty all l k t H = R P T mc Q (.ops all l :: k) (putA (t.set d (.bool false)) dst undA) H := by simp [r_guB]
theorem r_guBFF {dst : Option Tmp} {op : Op} {ty : TypeId} {d : Tmp} : guB P T mc Q (.bool false) d false dst op ty all l k t H = R P T mc Q (.ops all (⟨dst, op, ty, "", #[], none⟩ :: l) :: k) (t.set d (.bool false)) H := by simp [r_guB]
theorem guB_ofT {dst : Option Tmp} {op : Op} {ty : TypeId} {d : Tmp} {b : Bool} (h1 : b = true → R P T mc Q (.ops all (⟨dst, op, ty, "", #[], none⟩ :: l) :: k) (t.set d (.bool true)) H) (h2 : b = false → R P T mc Q (.ops all l :: k) (putA (t.set d (.bool false)) dst undA) H) : guB P T mc Q (.bool b) d true dst op ty all l k t H := ⟨h1, h2⟩
theorem guB_ofF {dst : Option Tmp} {op : Op} {ty : TypeId} {d : Tmp} {b : Bool} (h1 : b = false → R P T mc Q (.ops all (⟨dst, op, ty, "", #[], none⟩ :: l) :: k) (t.set d (.bool false)) H) (h2 : b = true → R P T mc Q (.ops all l :: k) (putA (t.set d (.bool true)) dst undA) H) : guB P T mc Q (.bool b) d false dst op ty all l k t H := ⟨h1, h2⟩
theorem r_guDTT {dst : Option Tmp} {op : Op} {ty : TypeId} {d : Tmp} {m : Bool} : guD P T mc Q (.bool true) d true dst op ty all m l k t H = R P T mc Q (.dops all m (⟨dst, op, ty, "", #[], none⟩ :: l) :: k) (t.set d (.bool true)) H := by simp [r_guD]
theorem r_guDTF {dst : Option Tmp} {op : Op} {ty : TypeId} {d : Tmp} {m : Bool} : guD P T mc Q (.bool true) d false dst op ty all m l k t H = R P T mc Q (.dops all m l :: k) (putA (t.set d (.bool true)) dst undA) H := by simp [r_guD]
theorem r_guDFT {dst : Option Tmp} {op : Op} {ty : TypeId} {d : Tmp} {m : Bool} : guD P T mc Q (.bool false) d true dst op ty all m l k t H = R P T mc Q (.dops all m l :: k) (putA (t.set d (.bool false)) dst undA) H := by simp [r_guD]
theorem r_guDFF {dst : Option Tmp} {op : Op} {ty : TypeId} {d : Tmp} {m : Bool} : guD P T mc Q (.bool false) d false dst op ty all m l k t H = R P T mc Q (.dops all m (⟨dst, op, ty, "", #[], none⟩ :: l) :: k) (t.set d (.bool false)) H := by simp [r_guD]
theorem guD_ofT {dst : Option Tmp} {op : Op} {ty : TypeId} {d : Tmp} {m : Bool} {b : Bool} (h1 : b = true → R P T mc Q (.dops all m (⟨dst, op, ty, "", #[], none⟩ :: l) :: k) (t.set d (.bool true)) H) (h2 : b = false → R P T mc Q (.dops all m l :: k) (putA (t.set d (.bool false)) dst undA) H) : guD P T mc Q (.bool b) d true dst op ty all m l k t H := ⟨h1, h2⟩
theorem guD_ofF {dst : Option Tmp} {op : Op} {ty : TypeId} {d : Tmp} {m : Bool} {b : Bool} (h1 : b = false → R P T mc Q (.dops all m (⟨dst, op, ty, "", #[], none⟩ :: l) :: k) (t.set d (.bool false)) H) (h2 : b = true → R P T mc Q (.dops all m l :: k) (putA (t.set d (.bool true)) dst undA) H) : guD P T mc Q (.bool b) d false dst op ty all m l k t H := ⟨h1, h2⟩
end

/-! ### Is it nil? -/
theorem Sl.nnil {H : Heap} {s : AV} {sz : Nat} {rows : List (List AV)} (h : Sl H s sz rows) (hne : rows ≠ []) : nnil s := by
  have hl := h.len
  have hlc := h.lcok
  have hp : 0 < rows.length := List.length_pos_iff.2 hne
  have hg := h.get
  cases s <;> simp only [AL.nnil, lcOk, lenOf, Option.some.injEq, rowsOf] at *
  · omega
  · subst hg; exact hne
theorem abin_nil {T : Tab} {t e : TypeId} {H : Heap} {s : AV} {sz : Nat} {rows : List (List AV)} (hk : kindOf T t = some (.slice e)) (h : Sl H s sz rows) (hne : rows ≠ []) : abin T .eql t s .snil = some (AL.nnil s, .bool false) ∨ ((∃ z, s = .efro z) ∧ False) := by
  have hg := h.get
  cases s <;> simp only [rowsOf, reduceCtorEq, Option.some.injEq] at hg
  · left; simp only [abin, hk, AL.nnil]
  · left; simp only [abin, hk, AL.nnil]
  · exact absurd hg.symm hne
  · exact absurd hg.symm hne
  · exact absurd hg.symm hne
theorem abin_nil' {T : Tab} {t e : TypeId} {H : Heap} {s : AV} {sz : Nat} {rows : List (List AV)} (hk : kindOf T t = some (.slice e)) (h : Sl H s sz rows) (hne : rows ≠ []) : abin T .eql t s .snil = some (AL.nnil s, .bool false) := by
  rcases abin_nil hk h hne with h | ⟨_, h⟩
  · exact h
  · exact h.elim

/-! ### Blocks behind one that was written -/
section
variable {H L : Heap} {i n : Nat} {b x : Option Blk}
theorem hget0s : (H.set i b ++ L)[H.length]? = L[0]? := by have := hget0 (H := H.set i b) (L := L); rwa [List.length_set] at this
theorem hgetSs : (H.set i b ++ L)[H.length + n]? = L[n]? := by have := hgetS (H := H.set i b) (L := L) (n := n); rwa [List.length_set] at this
theorem hset0s : (H.set i b ++ L).set H.length x = H.set i b ++ L.set 0 x := by have := hset0 (H := H.set i b) (L := L) (x := x); rwa [List.length_set] at this
theorem hsetSs : (H.set i b ++ L).set (H.length + n) x = H.set i b ++ L.set n x := by have := hsetS (H := H.set i b) (L := L) (n := n) (x := x); rwa [List.length_set] at this
theorem hset_app (h : i < H.length) : (H.set i b ++ L).set i x = H.set i x ++ L := by rw [List.set_append_left _ _ (by simpa using h), List.set_set]
theorem hset_app0 (h : i < H.length) : (H ++ L).set i x = H.set i x ++ L := by rw [List.set_append_left _ _ h]
theorem hget_app (h : i < H.length) : (H.set i b ++ L)[i]? = some b := by rw [List.getElem?_append_left (by simpa using h)]; simp [h]
end

/-! ### Operations of two values, form by form -/
section
variable {T : Tab} {op : BinOp} {t : TypeId}
theorem abin_int {k k' : IntKind} {a b : Int} : abin T op t (.int k a) (.int k' b) = match op with
    | .add => some (k = k', .int k (k.wrap (a + b)))
    | .sub => some (k = k', .int k (k.wrap (a - b)))
    | .mul => some (k = k', .int k (k.wrap (a * b)))
    | .quo => some (k = k' ∧ b ≠ 0, .int k (k.wrap (a.tdiv b)))
    | .rem => some (k = k' ∧ b ≠ 0, .int k (a.tmod b))
    | .eql => some (k = k', .bool (decide (a = b)))
    | .neq => some (k = k', .bool (decide (a ≠ b)))
    | .lss => some (k = k', .bool (decide (a < b)))
    | .leq => some (k = k', .bool (decide (a ≤ b)))
    | .gtr => some (k = k', .bool (decide (a > b)))
    | .geq => some (k = k', .bool (decide (a ≥ b)))
    | .shr => some (0 ≤ b, .int k (a / 2 ^ min b.toNat k.bits))
    | _ => none := rfl
theorem abin_bool {a b : Bool} : abin T op t (.bool a) (.bool b) = match kindOf T t, op with
    | some .bool, .eql => some (True, .bool (a == b))
    | some .bool, .neq => some (True, .bool (!(a == b)))
    | _, _ => none := rfl
theorem abin_agg {l l' : List AV} : abin T op t (.agg l) (.agg l') = match eqsOf T t, op with
    | some true, .eql => some (likeL l (zeroOf T t) = true ∧ likeL l' (zeroOf T t) = true, .bool (eqL l l'))
    | some true, .neq => some (likeL l (zeroOf T t) = true ∧ likeL l' (zeroOf T t) = true, .bool (!eqL l l'))
    | _, _ => none := rfl
theorem abin_snil : abin T op t .snil .snil = match kindOf T t, op with
    | some (.slice _), .eql => some (True, .bool true)
    | some (.slice _), .neq => some (True, .bool false)
    | _, _ => none := by
  unfold abin
  generalize kindOf T t = x
  rcases x with _ | k
  · rfl
  · cases k <;> cases op <;> rfl
theorem abin_efro {sz : Nat} : abin T op t (.efro sz) .snil = match kindOf T t, op with
    | some (.slice _), .eql => some (True, .bool false)
    | some (.slice _), .neq => some (True, .bool true)
    | _, _ => none := by
  unfold abin
  generalize kindOf T t = x
  rcases x with _ | k
  · rfl
  · cases k <;> cases op <;> rfl
theorem abin_own {id sz off len lc : Nat} : abin T op t (.own id sz off len lc) .snil = match kindOf T t, op with
    | some (.slice _), .eql => some (lc ≠ 0, .bool false)
    | some (.slice _), .neq => some (lc ≠ 0, .bool true)
    | _, _ => none := by
  unfold abin
  generalize kindOf T t = x
  rcases x with _ | k
  · rfl
  · cases k <;> cases op <;> rfl
theorem abin_fro {sz : Nat} {rows : List (List AV)} : abin T op t (.fro sz rows) .snil = match kindOf T t, op with
    | some (.slice _), .eql => some (rows ≠ [], .bool false)
    | some (.slice _), .neq => some (rows ≠ [], .bool true)
    | _, _ => none := by
  unfold abin
  generalize kindOf T t = x
  rcases x with _ | k
  · rfl
  · cases k <;> cases op <;> rfl
end

/-! ### A new slice comes back -/
theorem wk_own0 {H L : Heap} {b : Blk} {sz off len lc : Nat} (hb : L[0]? = some (some b)) (hi : IdsB (· < H.length) b) : Wk H [.own H.length sz off len lc] (H ++ L) [.own H.length sz off len lc] (H ++ [some b]) :=
  wk_1 0 ⟨.inr (.inr ⟨by simp only [ren, tau, if_neg (Nat.lt_irrefl _), Nat.sub_self, List.getD_cons_zero, Nat.add_zero], .own _ _ _ _ _ (by simp)⟩), trivial⟩ hb hi
theorem wk_ownS {H L : Heap} {b : Blk} {k sz off len lc : Nat} (hb : L[k]? = some (some b)) (hi : IdsB (· < H.length) b) : Wk H [.own (H.length + k) sz off len lc] (H ++ L) [.own H.length sz off len lc] (H ++ [some b]) :=
  wk_1 k ⟨.inr (.inr ⟨by simp only [ren, tau, if_neg (Nat.lt_irrefl _), Nat.sub_self, List.getD_cons_zero], .own _ _ _ _ _ (by simp)⟩), trivial⟩ hb hi
theorem idsB_flat {n sz : Nat} {rows : List (List AV)} (h : ∀ row ∈ rows, LtL n row) : IdsB (· < n) (.arr sz rows) := h

/-! ### One cell, form by form -/
theorem isc_any  : isCell AV.any = false := rfl
theorem cel_any  : cellsOf AV.any = [AV.any] := rfl
theorem nan_any  : notAny AV.any = false := rfl
theorem isc_int {k : IntKind} {n : Int} : isCell (AV.int k n) = true := rfl
theorem cel_int {k : IntKind} {n : Int} : cellsOf (AV.int k n) = [(AV.int k n)] := rfl
theorem nan_int {k : IntKind} {n : Int} : notAny (AV.int k n) = true := rfl
theorem isc_bool {b : Bool} : isCell (AV.bool b) = true := rfl
theorem cel_bool {b : Bool} : cellsOf (AV.bool b) = [(AV.bool b)] := rfl
theorem nan_bool {b : Bool} : notAny (AV.bool b) = true := rfl
theorem isc_nilp  : isCell AV.nilp = true := rfl
theorem cel_nilp  : cellsOf AV.nilp = [AV.nilp] := rfl
theorem nan_nilp  : notAny AV.nilp = true := rfl
theorem isc_agg {l : List AV} : isCell (AV.agg l) = false := rfl
theorem cel_agg {l : List AV} : cellsOf (AV.agg l) = l := rfl
theorem nan_agg {l : List AV} : notAny (AV.agg l) = true := rfl
theorem isc_tup {l : List AV} : isCell (AV.tup l) = false := rfl
theorem cel_tup {l : List AV} : cellsOf (AV.tup l) = [(AV.tup l)] := rfl
theorem nan_tup {l : List AV} : notAny (AV.tup l) = true := rfl
theorem isc_ptr {id c : Nat} : isCell (AV.ptr id c) = true := rfl
theorem cel_ptr {id c : Nat} : cellsOf (AV.ptr id c) = [(AV.ptr id c)] := rfl
theorem nan_ptr {id c : Nat} : notAny (AV.ptr id c) = true := rfl
theorem isc_eptr {s : AV} {i c : Nat} : isCell (AV.eptr s i c) = true := rfl
theorem cel_eptr {s : AV} {i c : Nat} : cellsOf (AV.eptr s i c) = [(AV.eptr s i c)] := rfl
theorem nan_eptr {s : AV} {i c : Nat} : notAny (AV.eptr s i c) = true := rfl
theorem isc_own {id sz off len lc : Nat} : isCell (AV.own id sz off len lc) = true := rfl
theorem cel_own {id sz off len lc : Nat} : cellsOf (AV.own id sz off len lc) = [(AV.own id sz off len lc)] := rfl
theorem nan_own {id sz off len lc : Nat} : notAny (AV.own id sz off len lc) = true := rfl
theorem isc_fro {sz : Nat} {rows : List (List AV)} : isCell (AV.fro sz rows) = true := rfl
theorem cel_fro {sz : Nat} {rows : List (List AV)} : cellsOf (AV.fro sz rows) = [(AV.fro sz rows)] := rfl
theorem nan_fro {sz : Nat} {rows : List (List AV)} : notAny (AV.fro sz rows) = true := rfl
theorem isc_snil  : isCell AV.snil = true := rfl
theorem cel_snil  : cellsOf AV.snil = [AV.snil] := rfl
theorem nan_snil  : notAny AV.snil = true := rfl
theorem isc_emp  : isCell AV.emp = true := rfl
theorem cel_emp  : cellsOf AV.emp = [AV.emp] := rfl
theorem nan_emp  : notAny AV.emp = true := rfl
theorem isc_efro {sz : Nat} : isCell (AV.efro sz) = true := rfl
theorem cel_efro {sz : Nat} : cellsOf (AV.efro sz) = [(AV.efro sz)] := rfl
theorem nan_efro {sz : Nat} : notAny (AV.efro sz) = true := rfl
theorem isc_func {f : FuncId} {l : List AV} : isCell (AV.func f l) = true := rfl
theorem cel_func {f : FuncId} {l : List AV} : cellsOf (AV.func f l) = [(AV.func f l)] := rfl
theorem nan_func {f : FuncId} {l : List AV} : notAny (AV.func f l) = true := rfl
theorem cel_of {x : AV} (h : isCell x = true) : cellsOf x = [x] := by cases x <;> first | rfl | cases h
theorem nan_of {x : AV} (h : isCell x = true) : notAny x = true := by cases x <;> first | rfl | cases h
theorem len_isc {s : AV} {n : Nat} (h : lenOf s = some n) : isCell s = true := by cases s <;> first | rfl | (simp [lenOf] at h)
theorem Sl.isc {H : Heap} {s : AV} {sz : Nat} {rows : List (List AV)} (h : Sl H s sz rows) : isCell s = true := len_isc h.len
theorem Sl.cel {H : Heap} {s : AV} {sz : Nat} {rows : List (List AV)} (h : Sl H s sz rows) : cellsOf s = [s] := cel_of h.isc
theorem Sl.nan {H : Heap} {s : AV} {sz : Nat} {rows : List (List AV)} (h : Sl H s sz rows) : notAny s = true := nan_of h.isc
end Go.Proofs.Ytkecenijjdpfdaa.AL
