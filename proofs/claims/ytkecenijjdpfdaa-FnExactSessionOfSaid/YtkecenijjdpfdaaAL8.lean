/-
  Numbers, functions, tuples, slices that are made: each operation does as told; no conditions beyond each lemma's own.
-/
import Derived.Test.YtkecenijjdpfdaaAL7
import Derived.Laws.Cover3
namespace Go.Proofs.Ytkecenijjdpfdaa.AL
open Go
set_option linter.unusedVariables false
set_option linter.unusedSimpArgs false

theorem made_get {z : Array Value} {n j : Nat} (h : j < n) (hz : 0 < z.size) : (madeCells z n)[j]? = z[j % z.size]? := by
  have hm : j % z.size < z.size := Nat.mod_lt _ hz
  simp [madeCells, h, hm]

theorem blk_made {ρ : Ren} {F : Nat → Prop} {w : World} {z : Array Value} {zero : List AV} {n sz : Nat} (hv : VRs ρ F w zero z.toList) (hs : zero.length = sz) : BlkR ρ F w (.arr sz (List.replicate n zero)) (madeCells z (n * sz)) := by
  have hzs : z.size = sz := by rw [← Array.length_toList, ← hv.1, hs]
  refine ⟨by simp [size_madeCells], fun row hr => by rw [List.eq_of_mem_replicate hr]; exact hs, fun i c row x hr hx => ?_⟩
  rw [List.getElem?_replicate] at hr
  split at hr
  · rename_i hi
    cases hr
    have hc : c < sz := by rw [← hs]; exact (List.getElem?_eq_some_iff.1 hx).1
    have hj := row_mid hi hc (Nat.le_refl (n * sz))
    have hmod : (i * sz + c) % z.size = c := by rw [hzs, Nat.mul_comm, Nat.mul_add_mod]; exact Nat.mod_eq_of_lt hc
    have hlt : c < z.toList.length := by rw [← hv.1, hs]; exact hc
    refine ⟨z.toList[c], ?_, hv.2 c x _ hx (List.getElem?_eq_getElem hlt)⟩
    rw [made_get hj (by omega), hmod, get_toList, List.getElem?_eq_getElem hlt]
  · cases hr

section ops
variable {P : Program} {T : Tab} (hT : TOk P T) {t : List AV} {H : Heap} {o : Oper}

theorem fillRows_ok {ρ : Ren} {F : Nat → Prop} {w : World} {a : Act} (tr : TR ρ F w t a.tmps) (ti : TI) :
    ∀ (ps : List (Nat × Operand)) (rows : List (List AV)) (cs : Array Value) (C : Prop) (r : List (List AV)), BlkR ρ F w (.arr ti.size rows) cs → layRows T ti t ps rows = some (C, r) → C →
      ∃ cs', Instr.fill (fun i => some (i * ti.size, ti.size)) cs (ps.map fun p => (p.1, a.eval p.2)) = some cs' ∧ BlkR ρ F w (.arr ti.size r) cs' ∧ r.length = rows.length ∧ cs'.size = cs.size
  | [], rows, cs, C, r, hv, hl, hC => by
    simp only [layRows, Option.some.injEq, Prod.mk.injEq] at hl
    obtain ⟨_, rfl⟩ := hl
    exact ⟨cs, rfl, hv, rfl, rfl⟩
  | (i, x) :: ps, rows, cs, C, r, hv, hl, hC => by
    simp only [layRows] at hl
    split at hl
    · rename_i c' r' hrec
      simp only [Option.some.injEq, Prod.mk.injEq] at hl
      obtain ⟨rfl, rfl⟩ := hl
      obtain ⟨⟨⟨h1, h1c⟩, h2⟩, h3⟩ := hC
      have hx := cells_ok (ev_ok tr x) (not_any h1c)
      have hsz : (a.eval x).cells.size = ti.size := by rw [← Array.length_toList, ← hx.1, h1]
      have hb : (i + 1) * ti.size ≤ cs.size := Nat.le_trans (Nat.mul_le_mul_right _ h2) hv.1
      rw [Nat.add_mul, Nat.one_mul] at hb
      have hfold := fold_lay' (a.eval x) (i * ti.size) cs (by omega)
      have hget : rows.getD i [] = rows[i] := by simp [List.getD_eq_getElem?_getD, h2]
      have hrl : rows[i].length = ti.size := hv.2.1 _ (List.getElem_mem h2)
      have hB := blk_splice_row (cs' := (a.eval x).cells.zipIdx.foldl (fun cs (c, j) => cs.setIfInBounds (i * ti.size + j) c) cs) hv h2 (c := 0) (vs := cellsOf (ev t x)) (us := (a.eval x).cells.toList) (by omega) hx (by rw [hfold, Nat.add_zero])
      have hspl : splice (rows.getD i []) 0 (cellsOf (ev t x)) = cellsOf (ev t x) := by
        rw [hget]
        simp only [splice, List.take_zero, List.nil_append, Nat.zero_add]
        rw [List.drop_of_length_le (by omega), List.append_nil]
      rw [hspl] at hB
      have hs2 : ((a.eval x).cells.zipIdx.foldl (fun cs (c, j) => cs.setIfInBounds (i * ti.size + j) c) cs).size = cs.size := by
        rw [← Array.length_toList, hfold, splice_length _ _ _ (by simp; omega), Array.length_toList]
      obtain ⟨cs', h4, h5, h6, h7⟩ := fillRows_ok tr ti ps _ _ _ _ hB hrec h3
      refine ⟨cs', ?_, h5, by rw [h6]; simp, by rw [h7, hs2]⟩
      simp only [List.map_cons, Instr.fill]
      rw [if_neg (by simp; omega)]
      exact h4
    · cases hl

include hT in
theorem ok_buildSlice (ty e : TypeId) (n : Nat) (ps : Array (Nat × Operand)) (ti : TI) (C : Prop) (rows : List (List AV)) (ho : o.op = .buildSlice ty n ps) (hk : kindOf T ty = some (.slice e)) (ht : T e = some ti)
    (hl : layRows T ti t ps.toList (List.replicate n ti.zero) = some (C, rows)) (hC : C) (hn : n * ti.size ≤ 16777216) : OK P o t H (.own H.length ti.size 0 n n) (H ++ [some (.arr ti.size rows)]) :=
  .of_run fun ρ F w a r f tr => by
    obtain ⟨i, d, z, k⟩ := hT.get ht
    have hz : VRs ρ F w ti.zero z.cells.toList := by rw [k.zcells]; exact conc_vrs k.zconc
    obtain ⟨cs, h1, h2, h3, h4⟩ := fillRows_ok tr ti ps.toList _ (madeCells z.cells (n * ti.size)) C rows (blk_made hz k.zlen) hl hC
    have hsz : cs.size = n * ti.size := by rw [h4, size_madeCells]
    obtain ⟨a1, a2, a3⟩ := rel_push r f (w' := w.alloc (.cells cs e)) (b := .arr ti.size rows) rfl rfl rfl rfl (fun k => h2.mono k)
    have hnew : (w.alloc (.cells cs e)).shape? w.heap.size = some (e, cs.size) := shape_of (heap_alloc_new w _)
    refine ⟨.slice (some ⟨w.heap.size, 0, none⟩) n n, _, _, _, ?_, .own _ _ _ _ _ _ cs.size e _ (by simp [upd]) rfl (fun _ => by simp) (Nat.le_refl _) (Nat.le_refl _) hnew (by rw [hsz]; simp), a1, a2, a3⟩
    have h16 : ¬ (2 ^ 24 < n * ti.size) := by omega
    have h1' : Instr.fill (fun i => some (i * ti.size, ti.size)) (madeCells z.cells (n * ti.size)) ((ps.map fun (i, x) => (i, a.eval x)).toList) = some cs := by simpa using h1
    by_cases hn0 : n * ti.size = 0
    · have e1 : madeCells z.cells (n * ti.size) = (Array.range (n * ti.size)).map ((#[] : Array Value)[· % (#[] : Array Value).size]!) := by rw [hn0]; simp [madeCells]
      rw [e1] at h1'
      simp [execOp, ho, Instr.buildSlice, run_underlying (hT.slice hk), run_size hT ht, hn0, newRow] at h1' ⊢
      rw [h1']
      rfl
    · have h1'' := h1'
      unfold madeCells at h1''
      simp [execOp, ho, Instr.buildSlice, run_underlying (hT.slice hk), run_size hT ht, hn0, h16, zeroValue, typeInfo, k.info, k.zero, newRow] at h1'' ⊢
      rw [h1'']
      simp

include hT in
theorem ok_makeSlice (ty e : TypeId) (l c : Operand) (kl kc : IntKind) (n m : Int) (ti : TI) (ho : o.op = .makeSlice ty l c) (hk : kindOf T ty = some (.slice e)) (ht : T e = some ti) (hl : ev t l = .int kl n) (hc : ev t c = .int kc m)
    (h0 : 0 ≤ n) (h1 : n ≤ m) (h2 : m ≤ 16777216) (h3 : ti.bytes ≤ 65536) : OK P o t H (.own H.length ti.size 0 n.toNat m.toNat) (H ++ [some (.arr ti.size (List.replicate m.toNat ti.zero))]) :=
  .of_run fun ρ F w a r f tr => by
    obtain ⟨i, d, z, k⟩ := hT.get ht
    have hz : VRs ρ F w ti.zero z.cells.toList := by rw [k.zcells]; exact conc_vrs k.zconc
    have el := ev_ok tr l
    have ec := ev_ok tr c
    rw [hl] at el
    rw [hc] at ec
    have el := vr_int el
    have ec := vr_int ec
    have hb : (i.bytes : Int) * m ≤ 281474976710656 := by
      rw [k.bytes]
      have h4 : (ti.bytes : Int) * m ≤ 65536 * m := Int.mul_le_mul_of_nonneg_right (by omega) (by omega)
      omega
    have hr := run_make (P := P) w ty e i z (hT.slice hk) k.info k.zero kl kc n m h0 h1 hb (by omega)
    rw [k.size] at hr
    obtain ⟨a1, a2, a3⟩ := rel_push r f (w' := w.alloc (.cells (madeCells z.cells (m.toNat * ti.size)) e)) (b := .arr ti.size (List.replicate m.toNat ti.zero)) rfl rfl rfl rfl (fun k' => (blk_made hz k.zlen).mono k')
    have hnew : (w.alloc (.cells (madeCells z.cells (m.toNat * ti.size)) e)).shape? w.heap.size = some (e, m.toNat * ti.size) := by rw [shape_of (heap_alloc_new w _), size_madeCells]
    exact ⟨.slice (some ⟨w.heap.size, 0, none⟩) n.toNat m.toNat, _, _, _, by simp [execOp, ho, el, ec, hr], .own _ _ _ _ _ _ _ e _ (by simp [upd]) rfl (fun _ => by simp) (by omega) (Nat.le_refl _) hnew (by rw [Nat.zero_add]; exact Nat.le_refl _), a1, a2, a3⟩

theorem like_conc : ∀ {l z : List AV} {us : List Value} {ρ : Ren} {F : Nat → Prop} {w : World}, likeL l z = true → VRs ρ F w l us → us = l.map conc
  | [], [], us, ρ, F, w, _, h => List.eq_nil_of_length_eq_zero h.1.symm
  | x :: xs, y :: ys, us, ρ, F, w, hl, h => by
    simp only [likeL, Bool.and_eq_true] at hl
    obtain ⟨v, vs, rfl⟩ : ∃ v vs, us = v :: vs := by cases us with | nil => have := h.1; simp at this | cons v vs => exact ⟨v, vs, rfl⟩
    have h1 := h.2 0 x v rfl rfl
    have h2 : VRs ρ F w xs vs := ⟨by have := h.1; simpa using this, fun i a b ha hb => h.2 (i + 1) a b (by simpa using ha) (by simpa using hb)⟩
    have h3 : v = conc x := by
      cases x <;> cases y <;> simp [like] at hl <;> first | exact vr_int h1 | exact vr_bool h1
    rw [h3, like_conc hl.2 h2]; rfl
  | [], _ :: _, _, _, _, _, hl, _ => by simp [likeL] at hl
  | _ :: _, [], _, _, _, _, hl, _ => by simp [likeL] at hl

include hT in
theorem ok_binOp (op : BinOp) (ty : TypeId) (x y : Operand) (yt : TypeId) (C : Prop) (v : AV) (ho : o.op = .binOp op ty x y yt) (hb : abin T op ty (ev t x) (ev t y) = some (C, v)) (hC : C) : OK P o t H v H :=
  .of_val fun ρ F w a r tr => by
    have hx := ev_ok tr x
    have hy := ev_ok tr y
    generalize ev t x = X at hx hb
    generalize ev t y = Y at hy hb
    unfold abin at hb
    split at hb
    · -- numbers
      rename_i k n k' m
      have ex := vr_int hx
      have ey := vr_int hy
      cases op <;> simp only [Option.some.injEq, Prod.mk.injEq, reduceCtorEq] at hb
      case add | sub | mul =>
        obtain ⟨rfl, rfl⟩ := hb
        cases hC
        exact ⟨_, by simp [execOp, ho, ex, ey, eqGuard, binOp, Op.intArith], .int _ _⟩
      case quo | rem =>
        obtain ⟨rfl, rfl⟩ := hb
        obtain ⟨hk, hm⟩ := hC
        subst hk
        exact ⟨_, by simp [execOp, ho, ex, ey, eqGuard, binOp, Op.intDiv, hm], .int _ _⟩
      case eql =>
        obtain ⟨rfl, rfl⟩ := hb
        cases hC
        exact ⟨.bool (decide (n = m)), by simp [execOp, ho, ex, ey, eqGuard, binOp, Op.intCmp]; rfl, .bool _⟩
      case neq =>
        obtain ⟨rfl, rfl⟩ := hb
        cases hC
        exact ⟨.bool (decide (n ≠ m)), by simp [execOp, ho, ex, ey, eqGuard, binOp, Op.intCmp, bne]; rfl, .bool _⟩
      case lss | leq | gtr | geq =>
        obtain ⟨rfl, rfl⟩ := hb
        cases hC
        exact ⟨_, by simp [execOp, ho, ex, ey, eqGuard, binOp, Op.intCmp], .bool _⟩
      case shr =>
        obtain ⟨rfl, rfl⟩ := hb
        exact ⟨.int k (n / 2 ^ min m.toNat k.bits), by simp [execOp, ho, ex, ey, eqGuard, binOp_shr, shift_shr_any k k' n m hC], .int _ _⟩
    · rename_i b c
      have ex := vr_bool hx
      have ey := vr_bool hy
      split at hb
      · rename_i hk
        simp only [Option.some.injEq, Prod.mk.injEq] at hb
        obtain ⟨rfl, rfl⟩ := hb
        obtain ⟨ti, hti, hk'⟩ := kind_get hk
        obtain ⟨i, d, z, k⟩ := hT.get hti
        have hkd := k.kind
        rw [hk'] at hkd
        cases d <;> simp only [kindB, Bool.false_eq_true] at hkd
        exact ⟨_, by simp [execOp, ho, ex, ey, eqGuard, run_eql_bool _ _ _ _ k.und], .bool _⟩
      · rename_i hk
        simp only [Option.some.injEq, Prod.mk.injEq] at hb
        obtain ⟨rfl, rfl⟩ := hb
        obtain ⟨ti, hti, hk'⟩ := kind_get hk
        obtain ⟨i, d, z, k⟩ := hT.get hti
        have hkd := k.kind
        rw [hk'] at hkd
        cases d <;> simp only [kindB, Bool.false_eq_true] at hkd
        exact ⟨_, by simp [execOp, ho, ex, ey, eqGuard, run_neq_bool _ _ _ _ k.und], .bool _⟩
      · cases hb
    · rename_i l l'
      obtain ⟨us, ex, hvx⟩ := vr_agg hx
      obtain ⟨us', ey, hvy⟩ := vr_agg hy
      have key : ∀ ti, T ty = some ti → ti.eqs = true → likeL l ti.zero = true → likeL l' ti.zero = true →
          (do eqGuard .eql ty x y (a.eval x) (a.eval y); binOp .eql ty (a.eval x) (a.eval y) : Sem Value).run P w = .ok (.bool (eqL l l')) w ∧
          (do eqGuard .neq ty x y (a.eval x) (a.eval y); binOp .neq ty (a.eval x) (a.eval y) : Sem Value).run P w = .ok (.bool (!eqL l l')) w := by
        intro ti hti he h1 h2
        rw [ex, ey, like_conc h1 hvx, like_conc h2 hvy]
        exact hT.eq ty ti hti he l l' h1 h2 w x y
      have hq : ∀ b, eqsOf T ty = some b → ∃ ti, T ty = some ti ∧ ti.eqs = b ∧ zeroOf T ty = ti.zero := by
        intro b hb
        unfold eqsOf at hb
        cases hh : T ty with
        | none => rw [hh] at hb; cases hb
        | some ti => rw [hh] at hb; exact ⟨ti, rfl, by simpa using hb, by simp [zeroOf, hh]⟩
      split at hb
      · rename_i he
        simp only [Option.some.injEq, Prod.mk.injEq] at hb
        obtain ⟨rfl, rfl⟩ := hb
        obtain ⟨ti, h1, h2, h3⟩ := hq _ he
        rw [h3] at hC
        obtain ⟨k1, _⟩ := key ti h1 h2 hC.1 hC.2
        refine ⟨.bool (eqL l l'), ?_, .bool _⟩
        simp only [execOp, ho, Sem.run_bind] at k1 ⊢
        rw [k1]; rfl
      · rename_i he
        simp only [Option.some.injEq, Prod.mk.injEq] at hb
        obtain ⟨rfl, rfl⟩ := hb
        obtain ⟨ti, h1, h2, h3⟩ := hq _ he
        rw [h3] at hC
        obtain ⟨_, k1⟩ := key ti h1 h2 hC.1 hC.2
        refine ⟨.bool (!eqL l l'), ?_, .bool _⟩
        simp only [execOp, ho, Sem.run_bind] at k1 ⊢
        rw [k1]; rfl
      · cases hb
    · -- a slice and nil
      have ey := vr_snil hy
      have hsl : ∀ (A : Option Addr) (n c : Nat) e, kindOf T ty = some (.slice e) → a.eval x = .slice A n c →
          (do eqGuard .eql ty x y (a.eval x) (a.eval y); binOp .eql ty (a.eval x) (a.eval y) : Sem Value).run P w = .ok (.bool A.isNone) w ∧
          (do eqGuard .neq ty x y (a.eval x) (a.eval y); binOp .neq ty (a.eval x) (a.eval y) : Sem Value).run P w = .ok (.bool (!A.isNone)) w := by
        intro A n c e hk hu
        have hun := hT.slice hk
        rw [hu, ey]
        constructor
        · simp [eqGuard, binOp, run_equal_slice_nil w ty e A n c hun]
        · simp [eqGuard, run_neq_slice_nil w ty e A n c hun]
      have fin : ∀ (A : Option Addr) (n c : Nat) e (q : Bool), kindOf T ty = some (.slice e) → a.eval x = .slice A n c → A.isNone = q →
          (op = .eql → ∃ u, (execOp a.eval o).run P w = .ok (.value u) w ∧ VR ρ F w (.bool q) u) ∧ (op = .neq → ∃ u, (execOp a.eval o).run P w = .ok (.value u) w ∧ VR ρ F w (.bool (!q)) u) := by
        intro A n c e q hk hu hq
        obtain ⟨h1, h2⟩ := hsl A n c e hk hu
        subst hq
        constructor
        · rintro rfl
          refine ⟨_, ?_, .bool _⟩
          simp only [execOp, ho, Sem.run_bind] at h1 ⊢
          rw [h1]; rfl
        · rintro rfl
          refine ⟨_, ?_, .bool _⟩
          simp only [execOp, ho, Sem.run_bind] at h2 ⊢
          rw [h2]; rfl
      have own1 : ∀ id sz off len lc, VR ρ F w (.own id sz off len lc) (a.eval x) → lc ≠ 0 → ∃ A n c, a.eval x = .slice (some A) n c := by
        intro id sz off len lc hv hne
        cases hu : a.eval x <;> rw [hu] at hv <;> cases hv
        · exact ⟨_, _, _, rfl⟩
        · exact absurd rfl hne
      have fro1 : ∀ sz rows, VR ρ F w (.fro sz rows) (a.eval x) → rows ≠ [] → ∃ A n c, a.eval x = .slice (some A) n c := by
        intro sz rows hv hne
        cases hu : a.eval x <;> rw [hu] at hv <;> cases hv
        rename_i A cap U hz hc ha hn hU hvr
        obtain ⟨ad, rfl, _⟩ := ha hne
        exact ⟨_, _, _, rfl⟩
      have efro1 : ∀ sz, VR ρ F w (.efro sz) (a.eval x) → ∃ A n c, a.eval x = .slice (some A) n c := by
        intro sz hv
        cases hu : a.eval x <;> rw [hu] at hv <;> cases hv
        exact ⟨_, _, _, rfl⟩
      split at hb <;> simp only [Option.some.injEq, Prod.mk.injEq, reduceCtorEq] at hb <;> obtain ⟨rfl, rfl⟩ := hb
      · exact (fin _ _ _ _ true ‹_› (vr_snil hx) rfl).1 rfl
      · exact (fin _ _ _ _ true ‹_› (vr_snil hx) rfl).2 rfl
      · obtain ⟨A, n, c, hu⟩ := efro1 _ hx; exact (fin _ _ _ _ false ‹_› hu rfl).1 rfl
      · obtain ⟨A, n, c, hu⟩ := efro1 _ hx; exact (fin _ _ _ _ false ‹_› hu rfl).2 rfl
      · obtain ⟨A, n, c, hu⟩ := own1 _ _ _ _ _ hx hC; exact (fin _ _ _ _ false ‹_› hu rfl).1 rfl
      · obtain ⟨A, n, c, hu⟩ := own1 _ _ _ _ _ hx hC; exact (fin _ _ _ _ false ‹_› hu rfl).2 rfl
      · obtain ⟨A, n, c, hu⟩ := fro1 _ _ hx hC; exact (fin _ _ _ _ false ‹_› hu rfl).1 rfl
      · obtain ⟨A, n, c, hu⟩ := fro1 _ _ hx hC; exact (fin _ _ _ _ false ‹_› hu rfl).2 rfl
    · cases hb

theorem ok_unOp (op : UnOp) (ty : TypeId) (x : Operand) (ho : o.op = .unOp op ty x) : (∀ b, op = .not → ev t x = .bool b → OK P o t H (.bool (!b)) H) ∧ (∀ k n, op = .neg → ev t x = .int k n → OK P o t H (.int k (k.wrap (0 - n))) H) := by
  refine ⟨fun b e hx => .of_val fun ρ F w a r tr => ?_, fun k n e hx => .of_val fun ρ F w a r tr => ?_⟩
  · have h := ev_ok tr x
    rw [hx] at h
    have hu := vr_bool h
    exact ⟨_, by simp [execOp, ho, e, hu, Op.unary], .bool _⟩
  · have h := ev_ok tr x
    rw [hx] at h
    have hu := vr_int h
    exact ⟨_, by simp [execOp, ho, e, hu, Op.unary, Op.intArith], .int _ _⟩

include hT in
theorem ok_convert (src dst : TypeId) (x : Operand) (k0 k k1 : IntKind) (n : Int) (ho : o.op = .convert src dst x) (hs : kindOf T src = some (.int k0)) (hd : kindOf T dst = some (.int k)) (hx : ev t x = .int k1 n) : OK P o t H (.int k (k.wrap n)) H :=
  .of_val fun ρ F w a r tr => by
    have h := ev_ok tr x
    rw [hx] at h
    have hu := vr_int h
    have key : ∀ ty kk, kindOf T ty = some (.int kk) → P.underlying ty = some (.int kk) := by
      intro ty kk hk
      obtain ⟨ti, hti, hk'⟩ := kind_get hk
      obtain ⟨i, d, z, kx⟩ := hT.get hti
      have hkd := kx.kind
      rw [hk'] at hkd
      cases d <;> simp only [kindB, Bool.false_eq_true, beq_iff_eq] at hkd
      rw [← hkd]; exact kx.und
    exact ⟨_, by simp [execOp, ho, hu, convert, run_underlying (key _ _ hs), run_underlying (key _ _ hd), Conv.intToInt], .int _ _⟩

theorem vrs_map {ρ : Ren} {F : Nat → Prop} {w : World} {a : Act} (tr : TR ρ F w t a.tmps) (xs : List Operand) : VRs ρ F w (xs.map (ev t)) (xs.map a.eval) :=
  ⟨by simp, fun i x u hx hu => by
    rw [List.getElem?_map, Option.map_eq_some_iff] at hx hu
    obtain ⟨y, hy, rfl⟩ := hx
    obtain ⟨z, hz, rfl⟩ := hu
    rw [hy] at hz
    cases hz
    exact ev_ok tr y⟩

theorem ok_makeFunc (f : FuncId) (first caps : Array Operand) (ho : o.op = .makeFunc (.func f) first caps) (h0 : first.size = 0) : OK P o t H (.func f (caps.toList.map (ev t))) H :=
  .of_val fun ρ F w a r tr => by
    have hf : first = #[] := Array.eq_empty_of_size_eq_zero h0
    subst hf
    have hv := vrs_map tr caps.toList
    refine ⟨.func (.func f) #[] (caps.toList.map a.eval).toArray, ?_, .func _ _ _ hv.1 hv.2⟩
    have e : Array.map a.eval caps = (List.map a.eval caps.toList).toArray := by rw [← List.map_toArray]
    simp [execOp, ho, Instr.makeFunc, e]

theorem ok_extract (x : Operand) (i : Nat) (l : List AV) (v : AV) (ho : o.op = .extract x i) (hx : ev t x = .tup l) (hv : l[i]? = some v) : OK P o t H v H :=
  .of_val fun ρ F w a r tr => by
    have h := ev_ok tr x
    rw [hx] at h
    obtain ⟨us, hu, hvs⟩ := vr_tup h
    have hlt : i < us.length := by rw [← hvs.1]; exact (List.getElem?_eq_some_iff.1 hv).1
    exact ⟨us[i], by simp [execOp, ho, hu, Instr.extract, hlt], hvs.2 i v _ hv (List.getElem?_eq_getElem hlt)⟩
end ops
end Go.Proofs.Ytkecenijjdpfdaa.AL
