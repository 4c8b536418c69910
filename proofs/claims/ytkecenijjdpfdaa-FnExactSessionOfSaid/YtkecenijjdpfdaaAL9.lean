/-
  The builtin functions on slices, and all operations that call no function together: each does as told; no conditions beyond each lemma's own.
-/
import Derived.Test.YtkecenijjdpfdaaAL8
namespace Go.Proofs.Ytkecenijjdpfdaa.AL
open Go
set_option linter.unusedVariables false
set_option linter.unusedSimpArgs false

/-- The cells of rows, one row behind the other. -/
def FlatR (ρ : Ren) (F : Nat → Prop) (w : World) (sz : Nat) (rows : List (List AV)) (us : List Value) : Prop :=
  ∀ (i c : Nat) row x, rows[i]? = some row → row[c]? = some x → ∃ u, us[i * sz + c]? = some u ∧ VR ρ F w x u

theorem FlatR.mono {ρ ρ' : Ren} {F F' : Nat → Prop} {w w' : World} {sz : Nat} {rows : List (List AV)} {us : List Value} (h : FlatR ρ F w sz rows us) (k : ∀ x u, VR ρ F w x u → VR ρ' F' w' x u) : FlatR ρ' F' w' sz rows us :=
  fun i c row x h1 h2 => by obtain ⟨u, h3, h4⟩ := h i c row x h1 h2; exact ⟨u, h3, k _ _ h4⟩

theorem FlatR.take {ρ : Ren} {F : Nat → Prop} {w : World} {sz : Nat} {rows : List (List AV)} {us : List Value} (h : FlatR ρ F w sz rows us) (hok : ∀ row ∈ rows, RowOk sz row) (k : Nat) : FlatR ρ F w sz (rows.take k) (us.take (k * sz)) :=
  fun i c row x h1 h2 => by
    rw [List.getElem?_take] at h1
    split at h1
    · rename_i hi
      obtain ⟨u, h3, h4⟩ := h i c row x h1 h2
      have hc : c < sz := by rw [← (hok row (List.mem_of_getElem? h1)).1]; exact (List.getElem?_eq_some_iff.1 h2).1
      exact ⟨u, by rw [List.getElem?_take, if_pos (row_mid hi hc (Nat.le_refl _))]; exact h3, h4⟩
    · cases h1

theorem div_row {sz i c : Nat} (hc : c < sz) : (i * sz + c) / sz = i ∧ (i * sz + c) % sz = c := by
  rw [Nat.mul_comm]
  exact ⟨by rw [Nat.mul_add_div (by omega), Nat.div_eq_of_lt hc, Nat.add_zero], by rw [Nat.mul_add_mod, Nat.mod_eq_of_lt hc]⟩

theorem flat_ok {P : Program} {ρ : Ren} {F : Nat → Prop} {H : Heap} {w : World} (r : Rel ρ F H w) {s : AV} {rows : List (List AV)} {A : Option Addr} {n cap sz : Nat} (hr : rowsOf H s = some rows) (h : VR ρ F w s (.slice A n cap)) (hok : ∀ row ∈ rows, RowOk sz row) :
    n = rows.length ∧ ∃ us : List Value, us.length = rows.length * sz ∧ FlatR ρ F w sz rows us ∧ (∀ u ∈ us, u.oneCell' = true) ∧
      ∀ k, k ≤ n → ∀ w' : World, w'.heap = w.heap → (Builtin.firstCells sz k (.slice A n cap)).run P w' = .ok (us.take (k * sz)).toArray w' := by
  obtain ⟨hn, hrow⟩ := rows_ok r hr h
  by_cases hne : rows = []
  · subst hne
    simp at hn
    subst hn
    refine ⟨rfl, [], by simp, fun i c row x h1 => by simp at h1, (fun u hu => by cases hu), fun k hk w' hw => ?_⟩
    have hk0 : k = 0 := by omega
    subst hk0
    cases A with
    | none => simp [Builtin.firstCells]
    | some a => simp [Builtin.firstCells, loadCells, loadCellsFrom]
  · have hpos : 0 < rows.length := List.length_pos_iff.2 hne
    obtain ⟨hl0, a, us0, rfl, hsp, _, _⟩ := hrow 0 rows[0] (List.getElem?_eq_getElem hpos)
    have hszv : szv s = sz := by rw [← hl0]; exact (hok _ (List.getElem_mem hpos)).1
    obtain ⟨us, hul, hus⟩ := choose_list (fun j u => w.cell? ⟨a.block, a.off + j, none⟩ = some u ∧ u.oneCell' = true ∧ ∀ (i c : Nat) row x, j = i * sz + c → rows[i]? = some row → row[c]? = some x → VR ρ F w x u) (rows.length * sz) (fun j hj => by
      have hsz0 : 0 < sz := by
        rcases Nat.eq_zero_or_pos sz with h0 | h0
        · subst h0; simp at hj
        · exact h0
      have hi : j / sz < rows.length := (Nat.div_lt_iff_lt_mul hsz0).2 hj
      have hc : j % sz < sz := Nat.mod_lt _ hsz0
      have hrl := hok _ (List.getElem_mem hi)
      have hc' : j % sz < rows[j / sz].length := by rw [hrl.1]; exact hc
      obtain ⟨_, a', us1, ha', _, hv1, hcf1⟩ := hrow _ _ (List.getElem?_eq_getElem hi)
      cases ha'
      have hlt : j % sz < us1.length := by rw [← hv1.1]; exact hc'
      have hj' : j / sz * sz + j % sz = j := by rw [Nat.mul_comm]; exact Nat.div_add_mod j sz
      have hone := all_one hv1 hrl.2 _ (List.getElem_mem hlt)
      refine ⟨us1[j % sz], ?_, hone, fun i c row x he h1 h2 => ?_⟩
      · have := hcf1 _ _ (List.getElem?_eq_getElem hlt)
        rw [hszv, hj'] at this
        exact this
      · have hc2 : c < sz := by rw [← (hok row (List.mem_of_getElem? h1)).1]; exact (List.getElem?_eq_some_iff.1 h2).1
        obtain ⟨e1, e2⟩ := div_row (i := i) hc2
        rw [← he] at e1 e2
        rw [← e1] at h1
        rw [← e2] at h2
        rw [List.getElem?_eq_getElem hi] at h1
        cases h1
        exact hv1.2 _ x _ h2 (List.getElem?_eq_getElem hlt))
    refine ⟨hn.symm, us, hul, fun i c row x h1 h2 => ?_, fun u hu => ?_, fun k hk w' hw => ?_⟩
    · have hc2 : c < sz := by rw [← (hok row (List.mem_of_getElem? h1)).1]; exact (List.getElem?_eq_some_iff.1 h2).1
      have hj := row_mid (List.getElem?_eq_some_iff.1 h1).1 hc2 (Nat.le_refl (rows.length * sz))
      have hlt : i * sz + c < us.length := by rw [hul]; exact hj
      exact ⟨us[i * sz + c], List.getElem?_eq_getElem hlt, (hus _ _ (List.getElem?_eq_getElem hlt)).2.2 i c row x rfl h1 h2⟩
    · obtain ⟨j, hj, rfl⟩ := List.getElem_of_mem hu
      exact (hus j _ (List.getElem?_eq_getElem hj)).2.1
    · have hkl : (us.take (k * sz)).length = k * sz := by
        rw [List.length_take, hul]
        exact Nat.min_eq_left (Nat.mul_le_mul_right _ (by omega))
      have hcell : ∀ x, w'.cell? x = w.cell? x := fun x => by unfold World.cell?; rw [hw]
      have := run_loads (P := P) (w := w') hsp (us := us.take (k * sz)) (fun j v hv => by
        rw [List.getElem?_take] at hv
        split at hv
        · rw [hcell, Nat.zero_add]; exact (hus j v hv).1
        · cases hv)
      simp only [Builtin.firstCells]
      rw [hkl] at this
      exact this

/-- A block gets another name. -/
theorem rel_move {ρ : Ren} {F : Nat → Prop} {H : Heap} {w : World} (r : Rel ρ F H w) (f : Fresh ρ H) {id g : Nat} {b : Blk} (hb : H[id]? = some (some b)) (hg : ρ id = some (some g)) :
    Rel (upd ρ H.length g) F (H.set id none ++ [some b]) w ∧ Fresh (upd ρ H.length g) (H.set id none ++ [some b]) ∧ Ext ρ F H w (upd ρ H.length g) F (H.set id none ++ [some b]) w ∧ ∀ x u, VR ρ F w x u → VR (upd ρ H.length g) F w x u := by
  have hidl : id < H.length := (List.getElem?_eq_some_iff.1 hb).1
  have hpre : ∀ i g', ρ i = some g' → upd ρ H.length g i = some g' := fun i g' hg' => by
    unfold upd
    rw [if_neg]
    · exact hg'
    · rintro rfl; rw [f H.length (Nat.le_refl _)] at hg'; cases hg'
  have k : ∀ x u, VR ρ F w x u → VR (upd ρ H.length g) F w x u := fun x u h => h.mono hpre (fun _ h => h) (fun _ _ => rfl) (fun _ _ _ h => h)
  have hne : ∀ i, i ≠ H.length → upd ρ H.length g i = ρ i := fun i hi => by simp [upd, hi]
  have hup : upd ρ H.length g H.length = some (some g) := by simp [upd]
  have hcase : ∀ i x, (H.set id none ++ [some b])[i]? = some (some x) → (H[i]? = some (some x) ∧ i ≠ id ∧ i < H.length) ∨ (i = H.length ∧ x = b) := by
    intro i x hx
    rcases Nat.lt_or_ge i H.length with h | h
    · rw [List.getElem?_append_left (by simpa using h)] at hx
      by_cases hi : i = id
      · subst hi; rw [List.getElem?_set_self h] at hx; cases hx
      · rw [List.getElem?_set_ne (Ne.symm hi)] at hx; exact .inl ⟨hx, hi, h⟩
    · have := (List.getElem?_eq_some_iff.1 hx).1
      simp at this
      obtain rfl : i = H.length := by omega
      simp at hx
      exact .inr ⟨rfl, hx.symm⟩
  refine ⟨{ blk := fun i x hx => ?_, inj := fun i j g' ⟨x, hx⟩ ⟨y, hy⟩ h1 h2 => ?_, fsz := r.fsz, rsz := fun i g' hg' => ?_ }, fun i hi => ?_, { pre := fun i hi => hne i (by omega), fsub := fun _ h => h, os := rfl, tape := rfl, output := rfl, size := Nat.le_refl _, shape := fun _ _ => rfl, frame := fun _ _ _ => rfl, fnew := fun _ h => .inl h, len := by simp, old := fun i hi ⟨x, hx⟩ => ?_, new := fun i g' hi ⟨x, hx⟩ hg' => ?_ }, k⟩
  · rcases hcase i x hx with ⟨h1, _, h3⟩ | ⟨rfl, rfl⟩
    · rcases r.blk i x h1 with ⟨g', cs, t, a1, a2, a3, a4⟩ | ⟨a1, a2⟩
      · exact .inl ⟨g', cs, t, hpre _ _ a1, a2, a3, a4.mono k⟩
      · exact .inr ⟨by rw [hne i (by omega)]; exact a1, a2⟩
    · rcases r.blk id _ hb with ⟨g', cs, t, a1, a2, a3, a4⟩ | ⟨a1, a2⟩
      · rw [hg] at a1; cases a1
        exact .inl ⟨g, cs, t, hup, a2, a3, a4.mono k⟩
      · rw [hg] at a1; cases a1
  · rcases hcase i x hx with ⟨a1, a2, a3⟩ | ⟨rfl, rfl⟩ <;> rcases hcase j y hy with ⟨b1, b2, b3⟩ | ⟨rfl, rfl⟩
    · rw [hne i (by omega)] at h1; rw [hne j (by omega)] at h2; exact r.inj i j g' ⟨x, a1⟩ ⟨y, b1⟩ h1 h2
    · rw [hne i (by omega)] at h1; rw [hup] at h2; cases h2; exact absurd (r.inj i id g ⟨x, a1⟩ ⟨_, hb⟩ h1 hg) a2
    · rw [hup] at h1; rw [hne j (by omega)] at h2; cases h1; exact absurd (r.inj j id g ⟨y, b1⟩ ⟨_, hb⟩ h2 hg) b2
    · rfl
  · by_cases hi : i = H.length
    · subst hi; rw [hup] at hg'; cases hg'; exact r.rsz id g hg
    · rw [hne i hi] at hg'; exact r.rsz i g' hg'
  · simp at hi; rw [hne i (by omega)]; exact f i (by omega)
  · rcases hcase i x hx with ⟨a1, _, _⟩ | ⟨rfl, _⟩
    · exact ⟨x, a1⟩
    · omega
  · rcases hcase i x hx with ⟨a1, _, a3⟩ | ⟨rfl, _⟩
    · omega
    · rw [hup] at hg'; cases hg'; exact .inr ⟨id, ⟨_, hb⟩, hg⟩

section ops
variable {P : Program} {T : Tab} (hT : TOk P T) {t : List AV} {H : Heap} {o : Oper}

theorem run_builtin (a : Act) (w : World) (b : Builtin) (args : Array Operand) (ts : Array TypeId) (ho : o.op = .call { callee := .builtin b, args, argTypes := ts }) (v : Value) (w' : World)
    (h : ∀ consts, (builtin b ts o.type consts (args.map a.eval)).run P w = .ok (.value v) w') : (execOp a.eval o).run P w = .ok (.value v) w' := by
  simp [execOp, ho, resolve, invoke, h]

theorem map_two {args : Array Operand} {x y : AV} (a : Act) (h : args.toList.map (ev t) = [x, y]) : ∃ p q, args.map a.eval = #[a.eval p, a.eval q] ∧ ev t p = x ∧ ev t q = y := by
  obtain ⟨l⟩ := args
  match l, h with
  | [p, q], h => simp at h; exact ⟨p, q, by simp, h.1, h.2⟩
theorem map_one {args : Array Operand} {x : AV} (a : Act) (h : args.toList.map (ev t) = [x]) : ∃ p, args.map a.eval = #[a.eval p] ∧ ev t p = x := by
  obtain ⟨l⟩ := args
  match l, h with
  | [p], h => simp at h; exact ⟨p, by simp, h⟩

include hT in
theorem ok_len (args : Array Operand) (ts : Array TypeId) (ty e : TypeId) (x : AV) (n : Nat) (ho : o.op = .call { callee := .builtin .len, args, argTypes := ts }) (hts : ts.toList = [ty]) (hx : args.toList.map (ev t) = [x]) (hk : kindOf T ty = some (.slice e)) (hn : lenOf x = some n) : OK P o t H (.int .i64 n) H :=
  .of_val fun ρ F w a r tr => by
    obtain ⟨p, h1, rfl⟩ := map_one a hx
    obtain ⟨A, cap, hu, _⟩ := slice_of_len (ev_ok tr p) hn
    have hts' : ts = #[ty] := by rw [← hts]
    subst hts'
    refine ⟨.int .i64 n, run_builtin a w _ _ _ ho _ _ fun consts => ?_, .int _ _⟩
    simp [builtin, h1, hu, Builtin.len_, run_underlying (hT.slice hk), goInt]

theorem ok_min (args : Array Operand) (ts : Array TypeId) (k : IntKind) (n m : Int) (ho : o.op = .call { callee := .builtin .min, args, argTypes := ts }) (hx : args.toList.map (ev t) = [.int k n, .int k m]) : OK P o t H (.int k (if m < n then m else n)) H :=
  .of_val fun ρ F w a r tr => by
    obtain ⟨p, q, h1, h2, h3⟩ := map_two a hx
    have e1 := ev_ok tr p
    have e2 := ev_ok tr q
    rw [h2] at e1
    rw [h3] at e2
    have e1 := vr_int e1
    have e2 := vr_int e2
    refine ⟨.int k (if m < n then m else n), run_builtin a w _ _ _ ho _ _ fun consts => ?_, .int _ _⟩
    simp [builtin, h1, e1, e2, run_min_int2]

theorem ok_max (args : Array Operand) (ts : Array TypeId) (k : IntKind) (n m : Int) (ho : o.op = .call { callee := .builtin .max, args, argTypes := ts }) (hx : args.toList.map (ev t) = [.int k n, .int k m]) : OK P o t H (.int k (if m > n then m else n)) H :=
  .of_val fun ρ F w a r tr => by
    obtain ⟨p, q, h1, h2, h3⟩ := map_two a hx
    have e1 := ev_ok tr p
    have e2 := ev_ok tr q
    rw [h2] at e1
    rw [h3] at e2
    have e1 := vr_int e1
    have e2 := vr_int e2
    refine ⟨.int k (if m > n then m else n), run_builtin a w _ _ _ ho _ _ fun consts => ?_, .int _ _⟩
    simp [builtin, h1, e1, e2, run_max_int2]

include hT in
theorem run_app_in {w w' : World} {ty e tp : TypeId} {ti : TI} (hk : kindOf T ty = some (.slice e)) (ht : T e = some ti) {g off sLen sCap n cap : Nat} {A : Option Addr} {us : List Value} (hroom : sLen + n ≤ sCap)
    (hf : (Builtin.firstCells ti.size n (.slice A n cap)).run P w = .ok us.toArray w) (hst : (storeCells ⟨g, off + sLen * ti.size, none⟩ us).run P w = .ok () w') :
    (Builtin.append_ #[ty, ty] tp #[.slice (some ⟨g, off, none⟩) sLen sCap, .slice A n cap]).run P w = .ok (.slice (some ⟨g, off, none⟩) (sLen + n) sCap) w' := by
  have hadd : (⟨g, off, none⟩ : Addr).add (sLen * ti.size) = ⟨g, off + sLen * ti.size, none⟩ := Addr.add_mid ..
  simp [Builtin.append_, run_underlying (hT.slice hk), run_size hT ht, Builtin.lenOf, hroom, hf, hadd, hst]

include hT in
theorem run_app_zero {w : World} {ty e tp : TypeId} {ti : TI} (hk : kindOf T ty = some (.slice e)) (ht : T e = some ti) {sLen sCap cap : Nat} {A B : Option Addr} (hroom : sLen ≤ sCap) (hsp : ∀ a, B = some a → a.spot = none) :
    (Builtin.append_ #[ty, ty] tp #[.slice B sLen sCap, .slice A 0 cap]).run P w = .ok (.slice B sLen sCap) w := by
  have hf : (Builtin.firstCells ti.size 0 (.slice A 0 cap)).run P w = .ok #[] w := by cases A <;> simp [Builtin.firstCells, loadCells, loadCellsFrom]
  cases B <;> simp [Builtin.append_, run_underlying (hT.slice hk), run_size hT ht, Builtin.lenOf, hroom, hf, storeCells]

theorem grown_ge (w : World) {need old : Nat} {e : TypeId} : need ≤ grownCap w need old e := by
  unfold grownCap Question.cut
  exact Nat.le_add_right _ _

include hT in
theorem run_app_grow {w : World} {ty e tp : TypeId} {ti : TI} (hk : kindOf T ty = some (.slice e)) (ht : T e = some ti) {sLen sCap n cap : Nat} {A B : Option Addr} {os us : List Value} {z : Value} (hg : sCap < sLen + n) (hb : (sLen + n) * ti.bytes ≤ 70368744177664) (hn : sLen + n ≤ 70368744177664)
    (hz : ∀ i, P.info? e = some i → i.zero = some z)
    (hfo : ∀ w' : World, w'.heap = w.heap → (Builtin.firstCells ti.size sLen (.slice B sLen sCap)).run P w' = .ok os.toArray w') (hf : ∀ w' : World, w'.heap = w.heap → (Builtin.firstCells ti.size n (.slice A n cap)).run P w' = .ok us.toArray w') :
    (Builtin.append_ #[ty, ty] tp #[.slice B sLen sCap, .slice A n cap]).run P w =
      .ok (.slice (some ⟨w.heap.size, 0, none⟩) (sLen + n) (grownCap w (sLen + n) sCap e)) (w.drew.alloc (.cells (os.toArray ++ us.toArray ++ Builtin.zeroCells z.cells (grownCap w (sLen + n) sCap e - (sLen + n))) e)) := by
  obtain ⟨i, d, z', k⟩ := hT.get ht
  have hz' := hz i k.info
  have hroom : ¬ (sLen + n ≤ sCap) := by omega
  have h63 : ¬ (9223372036854775807 < ((sLen : Int) + (n : Int))) := by omega
  have hfit : Builtin.nextslicecap (sLen + n) sCap * i.bytes ≤ 281474976710656 := growslice_fits hg (by rw [k.bytes]; omega)
  have h48 : ¬ (281474976710656 < Builtin.nextslicecap (sLen + n) sCap * i.bytes) := by omega
  have h1 := hfo w.drew rfl
  have h2 := hf w.drew rfl
  have hsz := k.size
  simp [Builtin.append_, run_underlying (hT.slice hk), sizeOf, typeInfo, zeroValue, k.info, hz', hsz, Builtin.lenOf, hroom, h63, h48, Question.forced, h1, h2, newRow, grownCap]
  congr 2
  rw [← List.append_toArray, Array.append_assoc]

theorem shape_new (w : World) (cs : Array Value) (e : TypeId) : (w.alloc (.cells cs e)).shape? w.heap.size = some (e, cs.size) := shape_of (heap_alloc_new w _)

/-- Rows behind one another, and what else there is room for. -/
theorem blk_two {ρ : Ren} {F : Nat → Prop} {w : World} {sz : Nat} {r1 r2 : List (List AV)} {os us : List Value} {z : Array Value} (h1 : FlatR ρ F w sz r1 os) (h2 : FlatR ρ F w sz r2 us) (hl1 : os.length = r1.length * sz) (hl2 : us.length = r2.length * sz) (k1 : ∀ row ∈ r1, row.length = sz) (k2 : ∀ row ∈ r2, row.length = sz) :
    BlkR ρ F w (.arr sz (r1 ++ r2)) (os.toArray ++ us.toArray ++ z) := by
  refine ⟨by simp [hl1, hl2, Nat.add_mul], fun row hr => ?_, fun i c row x hr hx => ?_⟩
  · rcases List.mem_append.1 hr with h | h
    · exact k1 row h
    · exact k2 row h
  · have hj : ∀ u, (os ++ us)[i * sz + c]? = some u → (os.toArray ++ us.toArray ++ z)[i * sz + c]? = some u := fun u hu => by
      have hlt := (List.getElem?_eq_some_iff.1 hu).1
      rw [Array.getElem?_append_left (by simpa using hlt)]
      simpa using hu
    rcases Nat.lt_or_ge i r1.length with hi | hi
    · rw [List.getElem?_append_left hi] at hr
      obtain ⟨u, hu, hv⟩ := h1 i c row x hr hx
      exact ⟨u, hj u (by rw [List.getElem?_append_left (List.getElem?_eq_some_iff.1 hu).1]; exact hu), hv⟩
    · rw [List.getElem?_append_right hi] at hr
      obtain ⟨u, hu, hv⟩ := h2 _ c row x hr hx
      have e : i * sz + c = os.length + ((i - r1.length) * sz + c) := by
        rw [hl1, ← Nat.add_assoc, ← Nat.add_mul]; congr 2; omega
      refine ⟨u, hj u ?_, hv⟩
      rw [e, List.getElem?_append_right (by omega), Nat.add_sub_cancel_left]
      exact hu

include hT in
theorem ok_append_nil (args : Array Operand) (ts : Array TypeId) (ty e : TypeId) (ti : TI) (s x : AV) (src : List (List AV)) (ho : o.op = .call { callee := .builtin .append, args, argTypes := ts }) (hts : ts.toList = [ty, ty]) (hx : args.toList.map (ev t) = [s, x]) (hk : kindOf T ty = some (.slice e)) (ht : T e = some ti)
    (hs : s = .snil ∨ s = .emp) (hr : rowsOf H x = some src) (h0 : 0 < ti.size) (hb : src.length * ti.bytes ≤ 70368744177664) (hn : src.length ≤ 70368744177664) (hok : ∀ row ∈ src, RowOk ti.size row) :
    OK P o t H (.own H.length ti.size 0 src.length src.length) (H ++ [some (.arr ti.size src)]) :=
  .of_run fun ρ F w a r f tr => by
    obtain ⟨p, q, h1, h2, h3⟩ := map_two a hx
    have hts' : ts = #[ty, ty] := by rw [← hts]
    subst hts'
    have es := ev_ok tr p
    have ex := ev_ok tr q
    rw [h2] at es
    rw [h3] at ex
    have hlen : ∃ k, lenOf x = some k := by
      cases x <;> simp [rowsOf] at hr <;> exact ⟨_, rfl⟩
    obtain ⟨k, hk'⟩ := hlen
    obtain ⟨A, cap, hu, _⟩ := slice_of_len ex hk'
    rw [hu] at ex
    obtain ⟨hkl, us, hul, hflat, hone, hfirst⟩ := flat_ok (P := P) r hr ex hok
    subst hkl
    obtain ⟨B, hB⟩ : ∃ B, a.eval p = .slice B 0 0 := by
      rcases hs with rfl | rfl
      · exact ⟨_, vr_snil es⟩
      · cases hh : a.eval p <;> rw [hh] at es <;> cases es; exact ⟨_, rfl⟩
    have hsp : src.length = 0 → ∀ (W : World), (Builtin.append_ #[ty, ty] o.type #[.slice B 0 0, .slice A src.length cap]).run P W = .ok (.slice B 0 0) W := fun h W => by
      rw [h]
      have hf : (Builtin.firstCells ti.size 0 (.slice A 0 cap)).run P W = .ok #[] W := by cases A <;> simp [Builtin.firstCells, loadCells, loadCellsFrom]
      cases B <;> simp [Builtin.append_, run_underlying (hT.slice hk), run_size hT ht, Builtin.lenOf, hf, storeCells]
    rcases Nat.eq_zero_or_pos src.length with hz | hz
    · have hnil : src = [] := List.eq_nil_of_length_eq_zero hz
      obtain ⟨a1, a2, a3⟩ := rel_virt r f ti.size
      refine ⟨.slice B 0 0, w, updv ρ H.length, F, run_builtin a w _ _ _ ho _ _ fun consts => ?_, ?_, ?_, ?_, ?_⟩
      · simp [builtin, h1, hB, hu, hsp hz]
      · rw [hz]; exact .own0 _ _ _ _ (by simp [updv])
      · rw [hnil]; exact a1
      · rw [hnil]; exact a2
      · rw [hnil]; exact a3
    · obtain ⟨i, d, z, kk⟩ := hT.get ht
      have hrun := run_app_grow (P := P) hT (w := w) (tp := o.type) hk ht (sLen := 0) (sCap := 0) (n := src.length) (cap := cap) (A := A) (B := B) (os := []) (us := us) (z := z) (by omega) (by simpa using hb) (by simpa using hn) (fun i' hi' => by rw [kk.info] at hi'; cases hi'; exact kk.zero)
        (fun w' hw => by cases B <;> simp [Builtin.firstCells, loadCells, loadCellsFrom]) (fun w' hw => by
          have := hfirst src.length (Nat.le_refl _) w' hw
          rwa [List.take_of_length_le (by rw [hul]; exact Nat.le_refl _)] at this)
      have hG := grown_ge w (need := 0 + src.length) (old := 0) (e := e)
      obtain ⟨a1, a2, a3⟩ := rel_push r f (w' := w.drew.alloc (.cells (([] : List Value).toArray ++ us.toArray ++ Builtin.zeroCells z.cells (grownCap w (0 + src.length) 0 e - (0 + src.length))) e)) (b := .arr ti.size src) rfl rfl rfl rfl (fun k => by
        have := blk_two (z := Builtin.zeroCells z.cells (grownCap w (0 + src.length) 0 e - (0 + src.length))) (r1 := []) (os := []) (fun i c row x h => by simp at h) (hflat.mono k) (by simp) hul (by simp) (fun row h => (hok row h).1)
        simpa using this)
      refine ⟨_, _, _, _, run_builtin a w _ _ _ ho _ _ fun consts => by simp [builtin, h1, hB, hu] at hrun ⊢; rw [hrun]; rfl, ?_, a1, a2, a3⟩
      have hzs : z.cells.size = ti.size := by rw [← Array.length_toList, kk.zcells]; simp [kk.zlen]
      have := VR.own (ρ := upd ρ H.length w.heap.size) (F := F) (w := w.drew.alloc (.cells (([] : List Value).toArray ++ us.toArray ++ Builtin.zeroCells z.cells (grownCap w (0 + src.length) 0 e - (0 + src.length))) e)) H.length ti.size 0 src.length src.length (grownCap w (0 + src.length) 0 e) _ e ⟨w.heap.size, 0, none⟩ (by simp [upd]) rfl (fun _ => by simp) (Nat.le_refl _) (by omega) (shape_new w.drew _ e) (by
        simp only [Array.size_append, List.size_toArray, List.length_nil, hul, size_zeroCells, hzs]
        have e1 : grownCap w (0 + src.length) 0 e * ti.size = (0 + src.length) * ti.size + (grownCap w (0 + src.length) 0 e - (0 + src.length)) * ti.size := by rw [← Nat.add_mul]; congr 1; omega
        rw [Nat.zero_add, e1]
        simp)
      simpa using this

theorem vr_own {ρ : Ren} {F : Nat → Prop} {w : World} {u : Value} {id sz off len lc : Nat} (h : VR ρ F w (.own id sz off len lc) u) :
    (∃ A cap m t, u = .slice (some A) len cap ∧ ρ id = some (some A.block) ∧ A.spot = none ∧ (cap ≠ 0 → A.off = off * sz) ∧ len ≤ lc ∧ lc ≤ cap ∧ w.shape? A.block = some (t, m) ∧ (off + cap) * sz ≤ m) ∨ ∃ A, u = .slice A 0 0 ∧ len = 0 ∧ lc = 0 ∧ ρ id ≠ none := by
  cases h with
  | own _ _ _ _ _ cap m t A h hs ho hl hc hm hf => exact .inl ⟨A, cap, m, t, rfl, h, hs, ho, hl, hc, hm, hf⟩
  | own0 _ _ _ A h => exact .inr ⟨A, rfl, rfl, rfl, h⟩

theorem lenOf_rows {H : Heap} {x : AV} {src : List (List AV)} (hr : rowsOf H x = some src) : ∃ k, lenOf x = some k := by
  cases x <;> simp [rowsOf] at hr <;> exact ⟨_, rfl⟩

include hT in
/-- append onto a slice of one's own: where it ends then is not known: the old name is given up. -/
theorem ok_append_own (args : Array Operand) (ts : Array TypeId) (ty e : TypeId) (ti : TI) (x : AV) (src rows : List (List AV)) (id sz len : Nat) (ho : o.op = .call { callee := .builtin .append, args, argTypes := ts }) (hts : ts.toList = [ty, ty]) (hx : args.toList.map (ev t) = [.own id sz 0 len len, x])
    (hk : kindOf T ty = some (.slice e)) (ht : T e = some ti) (hr : rowsOf H x = some src) (hid : H[id]? = some (some (.arr sz rows))) (hsz : sz = ti.size) (h0 : 0 < sz) (hle : len ≤ rows.length) (hb : (len + src.length) * ti.bytes ≤ 70368744177664) (hn : len + src.length ≤ 70368744177664) (hok : ∀ row ∈ src, RowOk sz row) :
    OK P o t H (.own H.length sz 0 (len + src.length) (len + src.length)) (H.set id none ++ [some (.arr sz (rows.take len ++ src))]) :=
  .of_run fun ρ F w a r f tr => by
    subst hsz
    obtain ⟨p, q, h1, h2, h3⟩ := map_two a hx
    have hts' : ts = #[ty, ty] := by rw [← hts]
    subst hts'
    have es := ev_ok tr p
    have ex := ev_ok tr q
    rw [h2] at es
    rw [h3] at ex
    obtain ⟨k, hk'⟩ := lenOf_rows hr
    obtain ⟨A, cap, hu, _⟩ := slice_of_len ex hk'
    rw [hu] at ex
    obtain ⟨hkl, us, hul, hflat, hone, hfirst⟩ := flat_ok (P := P) r hr ex hok
    subst hkl
    have hful : ∀ w' : World, w'.heap = w.heap → (Builtin.firstCells ti.size src.length (.slice A src.length cap)).run P w' = .ok us.toArray w' := fun w' hw => by
      have := hfirst src.length (Nat.le_refl _) w' hw
      rwa [List.take_of_length_le (by rw [hul]; exact Nat.le_refl _)] at this
    obtain ⟨i, d, z, kk⟩ := hT.get ht
    have hzs : z.cells.size = ti.size := by rw [← Array.length_toList, kk.zcells]; simp [kk.zlen]
    have hidl : id < H.length := (List.getElem?_eq_some_iff.1 hid).1
    -- a new block: of the old one's first cells and the others
    have grow : ∀ (B : Option Addr) (sCap : Nat) (os : List Value), a.eval p = .slice B len sCap → sCap < len + src.length → os.length = len * ti.size → FlatR ρ F w ti.size (rows.take len) os → (∀ row ∈ rows.take len, row.length = ti.size) →
        (∀ w' : World, w'.heap = w.heap → (Builtin.firstCells ti.size len (.slice B len sCap)).run P w' = .ok os.toArray w') →
        ∃ u w' ρ' F', (execOp a.eval o).run P w = .ok (.value u) w' ∧ VR ρ' F' w' (.own H.length ti.size 0 (len + src.length) (len + src.length)) u ∧ Rel ρ' F' (H.set id none ++ [some (.arr ti.size (rows.take len ++ src))]) w' ∧ Fresh ρ' (H.set id none ++ [some (.arr ti.size (rows.take len ++ src))]) ∧ Ext ρ F H w ρ' F' (H.set id none ++ [some (.arr ti.size (rows.take len ++ src))]) w' := by
      intro B sCap os hB hg hol hof hrl hfo
      have hrun := run_app_grow (P := P) hT (w := w) (tp := o.type) hk ht (sLen := len) (sCap := sCap) (n := src.length) (cap := cap) (A := A) (B := B) (os := os) (us := us) (z := z) hg hb hn (fun i' hi' => by rw [kk.info] at hi'; cases hi'; exact kk.zero) hfo hful
      have hG := grown_ge w (need := len + src.length) (old := sCap) (e := e)
      obtain ⟨b1, b2, b3⟩ := rel_kill r f id
      have hlen : (H.set id none).length = H.length := by simp
      obtain ⟨a1, a2, a3⟩ := rel_push b1 b2 (w' := w.drew.alloc (.cells (os.toArray ++ us.toArray ++ Builtin.zeroCells z.cells (grownCap w (len + src.length) sCap e - (len + src.length))) e)) (b := .arr ti.size (rows.take len ++ src)) rfl rfl rfl rfl (fun k =>
        blk_two (hof.mono k) (hflat.mono k) (by rw [hol, List.length_take, Nat.min_eq_left hle]) hul hrl (fun row h => (hok row h).1))
      rw [hlen] at a1 a2 a3
      refine ⟨_, _, _, _, run_builtin a w _ _ _ ho _ _ fun consts => by simp only [builtin, h1, hB, hu, Sem.run_bind]; rw [hrun]; rfl, ?_, a1, a2, b3.trans a3⟩
      exact VR.own H.length ti.size 0 (len + src.length) (len + src.length) (grownCap w (len + src.length) sCap e) _ e ⟨w.heap.size, 0, none⟩ (by simp [upd]) rfl (fun _ => by simp) (Nat.le_refl _) (by omega) (shape_new w.drew _ e) (by
        simp only [Array.size_append, List.size_toArray, hul, hol, size_zeroCells, hzs]
        have e1 : grownCap w (len + src.length) sCap e * ti.size = (len + src.length) * ti.size + (grownCap w (len + src.length) sCap e - (len + src.length)) * ti.size := by rw [← Nat.add_mul]; congr 1; omega
        rw [Nat.zero_add, e1, Nat.add_mul]
        exact Nat.le_refl _)
    rcases vr_own es with ⟨B, sCap, m, tt, hp, hρ, hspot, hoff, hlc, hlcc, hm, hf⟩ | ⟨B, hp, hl0, _, _⟩
    · rcases r.blk id _ hid with ⟨g, cs, t', hg, hnf, hcs, hB⟩ | ⟨hg, _⟩
      · rw [hρ] at hg
        cases hg
        obtain ⟨rlen, hrow⟩ := rows_ok r (s := .own id ti.size 0 len len) (rows := rows.take len) (by simp [rowsOf, hid, hle]) (.own id ti.size 0 len len sCap m tt B hρ hspot hoff hlc hlcc hm hf)
        have hm' : m = cs.size := by rw [shape_of hcs] at hm; cases hm; rfl
        rcases Nat.lt_or_ge sCap (len + src.length) with hg | hg
        · -- the old cells
          have hfit : len * ti.size ≤ cs.toList.length := by
            rw [Array.length_toList, ← hm']
            exact Nat.le_trans (Nat.mul_le_mul_right _ (by omega)) hf
          refine grow (some B) sCap (cs.toList.take (len * ti.size)) hp hg (by rw [List.length_take]; omega) (fun i c row x hr hx => ?_) (fun row hr => hB.2.1 row (List.mem_of_mem_take hr)) (fun w' hw => ?_)
          · have hi : i < len := by have := (List.getElem?_eq_some_iff.1 hr).1; simp at this; omega
            rw [List.getElem?_take, if_pos hi] at hr
            have hc : c < ti.size := by rw [← hB.2.1 row (List.mem_of_getElem? hr)]; exact (List.getElem?_eq_some_iff.1 hx).1
            obtain ⟨u, hu', hv⟩ := hB.2.2 i c row x hr hx
            exact ⟨u, by rw [List.getElem?_take, if_pos (row_mid hi hc (Nat.le_refl _)), ← get_toList]; exact hu', hv⟩
          · have hl : (cs.toList.take (len * ti.size)).length = len * ti.size := by rw [List.length_take]; omega
            simp only [Builtin.firstCells]
            rcases Nat.eq_zero_or_pos len with h0' | h0'
            · subst h0'; simp [loadCells, loadCellsFrom]
            · have := run_loads (P := P) (w := w') hspot (us := cs.toList.take (len * ti.size)) (fun j v hv => by
                rw [List.getElem?_take] at hv
                split at hv
                · rw [show w'.cell? _ = w.cell? _ from by unfold World.cell?; rw [hw], hoff (by omega)]
                  unfold World.cell?
                  simp only [hcs]
                  show cs[_]? = _
                  rw [get_toList, ← hv]
                  congr 1; omega
                · cases hv)
              rw [hl] at this
              exact this
        · -- in its place
          have hBoff : src.length ≠ 0 ∨ len ≠ 0 → B.off = 0 := fun h => by rw [hoff (by omega)]; simp
          by_cases hcap0 : sCap = 0
          · -- no room and nothing to add
            have hl0 : len = 0 := by omega
            have hs0 : src = [] := List.eq_nil_of_length_eq_zero (by omega)
            subst hl0
            obtain ⟨b1, b2, b3⟩ := rel_kill r f id
            obtain ⟨a1, a2, a3⟩ := rel_virt b1 b2 ti.size
            have hlenv : (H.set id none).length = H.length := by simp
            rw [hlenv] at a1 a2 a3
            refine ⟨.slice (some B) 0 sCap, w, updv ρ H.length, F, run_builtin a w _ _ _ ho _ _ fun consts => ?_, ?_, ?_, ?_, ?_⟩
            · have := run_app_zero (P := P) hT (w := w) (tp := o.type) hk ht (sLen := 0) (sCap := sCap) (cap := cap) (A := A) (B := some B) (by omega) (fun a' h' => by cases h'; exact hspot)
              simp only [builtin, h1, hp, hu, Sem.run_bind]
              rw [hs0]
              rw [show ([] : List (List AV)).length = 0 from rfl, this]; rfl
            · rw [hs0, hcap0]; exact .own0 _ _ _ _ (by simp [updv])
            · rw [hs0]; exact a1
            · rw [hs0]; exact a2
            · rw [hs0]; exact b3.trans a3
          · have hB0 : B.off = 0 := by rw [hoff hcap0]; simp
            obtain ⟨bb, bo, bs⟩ := B
            simp only at hB0 hspot
            subst hB0; subst hspot
            have hfit : len * ti.size + us.length ≤ cs.size := by
              rw [hul, ← Nat.add_mul, ← hm']
              refine Nat.le_trans (Nat.mul_le_mul_right _ ?_) hf
              omega
            obtain ⟨cs', h4, h5, h6⟩ := run_stores (P := P) hcs hfit hone
            obtain ⟨c1, c2, c3⟩ := rel_set r f hid hρ hcs h5 (b' := .arr ti.size (rows.take len ++ src ++ rows.drop (len + src.length))) (fun k => blk_splice_rows (hB.mono k) hle (fun row h => (hok row h).1) hul (hflat.mono k) hfit h6)
            -- what stands behind is forgotten
            have hlt := heap_lt hcs
            have c4 : BlkR ρ F (setBlk w bb cs' t') (.arr ti.size (rows.take len ++ src)) cs' := by
              have := (c1.blk id (.arr ti.size (rows.take len ++ src ++ rows.drop (len + src.length))) (by rw [List.getElem?_set_self hidl]))
              rcases this with ⟨g', ca, tt', e1, _, e3, e4⟩ | ⟨e1, _⟩
              · rw [hρ] at e1
                cases e1
                rw [setBlk_at hlt] at e3
                cases e3
                have hl : (rows.take len ++ src).length = len + src.length := by simp; omega
                refine ⟨by rw [hl, Nat.add_mul, ← hul]; omega, fun row hr => e4.2.1 row (List.mem_append_left _ hr), fun i c row x hr hx => e4.2.2 i c row x ?_ hx⟩
                rw [List.getElem?_append_left (List.getElem?_eq_some_iff.1 hr).1]; exact hr
              · rw [hρ] at e1; cases e1
            obtain ⟨c5, c6, c7⟩ := rel_set r f hid hρ hcs h5 (b' := .arr ti.size (rows.take len ++ src)) (fun _ => c4)
            have hset : (H.set id (some (.arr ti.size (rows.take len ++ src)))).set id none = H.set id none := by rw [List.set_set]
            have hlen : (H.set id (some (Blk.arr ti.size (rows.take len ++ src)))).length = H.length := by simp
            obtain ⟨m1, m2, m3, m4⟩ := rel_move c5 c6 (id := id) (g := bb) (List.getElem?_set_self hidl) hρ
            rw [hset, hlen] at m1 m2 m3
            rw [hlen] at m4
            refine ⟨.slice (some ⟨bb, 0, none⟩) (len + src.length) sCap, _, _, _, run_builtin a w _ _ _ ho _ _ fun consts => ?_, ?_, m1, m2, c7.trans m3⟩
            · have := run_app_in (P := P) hT (w := w) (w' := setBlk w bb cs' t') (tp := o.type) hk ht (g := bb) (off := 0) (sLen := len) (sCap := sCap) (n := src.length) (cap := cap) (A := A) hg (hful w rfl) (by rw [Nat.zero_add]; exact h4)
              simp only [builtin, h1, hp, hu, Sem.run_bind]
              rw [this]; rfl
            · exact VR.own H.length ti.size 0 (len + src.length) (len + src.length) sCap cs.size t' ⟨bb, 0, none⟩ (by simp [upd]) rfl (fun _ => by simp) (Nat.le_refl _) hg (by rw [shape_of (setBlk_at hlt), h5]) (by rw [← hm']; exact hf)
      · rw [hρ] at hg; cases hg
    · subst hl0
      rcases Nat.eq_zero_or_pos src.length with hz | hz
      · have hs0 : src = [] := List.eq_nil_of_length_eq_zero hz
        obtain ⟨b1, b2, b3⟩ := rel_kill r f id
        obtain ⟨a1, a2, a3⟩ := rel_virt b1 b2 ti.size
        have hlenv : (H.set id none).length = H.length := by simp
        rw [hlenv] at a1 a2 a3
        refine ⟨.slice B 0 0, w, updv ρ H.length, F, run_builtin a w _ _ _ ho _ _ fun consts => ?_, ?_, ?_, ?_, ?_⟩
        · have hf : (Builtin.firstCells ti.size 0 (.slice A 0 cap)).run P w = .ok #[] w := by cases A <;> simp [Builtin.firstCells, loadCells, loadCellsFrom]
          simp only [builtin, h1, hp, hu, Sem.run_bind]
          rw [hz]
          cases B <;> simp [Builtin.append_, run_underlying (hT.slice hk), run_size hT ht, Builtin.lenOf, hf, storeCells]
        · rw [hs0]; exact .own0 _ _ _ _ (by simp [updv])
        · rw [hs0]; exact a1
        · rw [hs0]; exact a2
        · rw [hs0]; exact b3.trans a3
      · exact grow B 0 [] hp (by omega) (by simp) (fun i c row x hr => by simp at hr) (fun row hr => by simp at hr) (fun w' hw => by cases B <;> simp [Builtin.firstCells, loadCells, loadCellsFrom])
end ops
end Go.Proofs.Ytkecenijjdpfdaa.AL
