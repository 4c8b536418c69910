/-
  append in place, copy, clear; all operations that call no function, together: each does as told; no conditions beyond each lemma's own.
-/
import Derived.Test.YtkecenijjdpfdaaAL9
namespace Go.Proofs.Ytkecenijjdpfdaa.AL
open Go
set_option linter.unusedVariables false
set_option linter.unusedSimpArgs false

section ops
variable {P : Program} {T : Tab} (hT : TOk P T) {t : List AV} {H : Heap} {o : Oper}

include hT in
theorem ok_append_in (args : Array Operand) (ts : Array TypeId) (ty e : TypeId) (ti : TI) (x : AV) (src rows : List (List AV)) (id sz off len lc : Nat) (ho : o.op = .call { callee := .builtin .append, args, argTypes := ts }) (hts : ts.toList = [ty, ty]) (hx : args.toList.map (ev t) = [.own id sz off len lc, x])
    (hk : kindOf T ty = some (.slice e)) (ht : T e = some ti) (hr : rowsOf H x = some src) (hid : H[id]? = some (some (.arr sz rows))) (hsz : sz = ti.size) (hlc : lc ≠ len) (hroom : len + src.length ≤ lc) (hle : off + len ≤ rows.length) (hok : ∀ row ∈ src, RowOk sz row) :
    OK P o t H (.own id sz off (len + src.length) lc) (H.set id (some (.arr sz (rows.take (off + len) ++ src ++ rows.drop (off + len + src.length))))) :=
  .of_run fun ρ F w a r f tr => by
    subst hsz
    obtain ⟨p, q, h1, h2, h3⟩ := map_two a hx
    have hts' : ts = #[ty, ty] := by rw [← hts]
    subst hts'
    have es := ev_ok tr p
    have ex := ev_ok tr q
    rw [h2] at es
    rw [h3] at ex
    obtain ⟨k, hk'⟩ := lenOf_rows hr
    obtain ⟨A, cap, hu, _⟩ := slice_of_len ex hk'
    rw [hu] at ex
    obtain ⟨hkl, us, hul, hflat, hone, hfirst⟩ := flat_ok (P := P) r hr ex hok
    subst hkl
    have hful := hfirst src.length (Nat.le_refl _) w rfl
    rw [List.take_of_length_le (by rw [hul]; exact Nat.le_refl _)] at hful
    rcases vr_own es with ⟨B, sCap, m, tt, hp, hρ, hspot, hoff, hlc1, hlc2, hm, hf⟩ | ⟨B, hp, hl0, _, _⟩
    · rcases r.blk id _ hid with ⟨g, cs, t', hg, hnf, hcs, hB⟩ | ⟨hg, _⟩
      · rw [hρ] at hg
        cases hg
        have hm' : m = cs.size := by rw [shape_of hcs] at hm; cases hm; rfl
        have hB0 : B.off = off * ti.size := hoff (by omega)
        obtain ⟨bb, bo, bs⟩ := B
        simp only at hB0 hspot
        subst hB0; subst hspot
        have hfit : (off + len) * ti.size + us.length ≤ cs.size := by
          rw [hul, ← Nat.add_mul, ← hm']
          refine Nat.le_trans (Nat.mul_le_mul_right _ ?_) hf
          omega
        obtain ⟨cs', h4, h5, h6⟩ := run_stores (P := P) hcs hfit hone
        obtain ⟨c1, c2, c3⟩ := rel_set r f hid hρ hcs h5 (b' := .arr ti.size (rows.take (off + len) ++ src ++ rows.drop (off + len + src.length))) (fun k => blk_splice_rows (hB.mono k) hle (fun row h => (hok row h).1) hul (hflat.mono k) hfit h6)
        have hlt := heap_lt hcs
        refine ⟨.slice (some ⟨bb, off * ti.size, none⟩) (len + src.length) sCap, _, _, _, run_builtin a w _ _ _ ho _ _ fun consts => ?_, ?_, c1, c2, c3⟩
        · have := run_app_in (P := P) hT (w := w) (w' := setBlk w bb cs' t') (tp := o.type) hk ht (g := bb) (off := off * ti.size) (sLen := len) (sCap := sCap) (n := src.length) (cap := cap) (A := A) (by omega) hful (by rw [← Nat.add_mul]; exact h4)
          simp only [builtin, h1, hp, hu, Sem.run_bind]
          rw [this]; rfl
        · exact VR.own id ti.size off (len + src.length) lc sCap cs.size t' ⟨bb, off * ti.size, none⟩ hρ rfl (fun _ => rfl) (by omega) hlc2 (by rw [shape_of (setBlk_at hlt), h5]) (by rw [← hm']; exact hf)
      · rw [hρ] at hg; cases hg
    · omega

theorem splice_nil {α : Type} (l : List α) (c : Nat) : splice l c [] = l := by simp [splice]

/-- A slice's first elements. -/
theorem vr_first {ρ : Ren} {F : Nat → Prop} {H : Heap} {w : World} {x : AV} {A : Option Addr} {n cap : Nat} {src : List (List AV)} (hr : rowsOf H x = some src) (h : VR ρ F w x (.slice A n cap)) {m : Nat} (hm : m ≤ src.length) (hn : n = src.length) :
    ∃ x', VR ρ F w x' (.slice A m cap) ∧ rowsOf H x' = some (src.take m) := by
  cases h with
  | own id sz off len lc cap mm t a h hs' ho hl hc hmm hf =>
    simp only [rowsOf] at hr
    split at hr
    · rename_i sz' all hb
      split at hr
      · rename_i hc2
        cases hr
        refine ⟨.own id sz off m lc, .own _ _ _ _ _ _ _ _ _ h hs' ho (by omega) hc hmm hf, ?_⟩
        simp only [rowsOf, hb]
        rw [if_pos ⟨hc2.1, by omega⟩, List.take_take, Nat.min_eq_left (by omega)]
      · cases hr
    · cases hr
  | own0 id sz off a h =>
    have h0 : m = 0 := by omega
    subst h0
    refine ⟨.own id sz off 0 0, .own0 _ _ _ _ h, ?_⟩
    simp only [rowsOf] at hr ⊢
    split at hr
    · rename_i sz' all hb
      split at hr
      · rename_i hc2
        rw [if_pos hc2]; simp
      · cases hr
    · cases hr
  | fro sz rows a cap U hz hc ha hn' hU h =>
    simp only [rowsOf, Option.some.injEq] at hr
    subst hr
    have hv : VR ρ F w (.fro sz (rows.take m)) (.slice A (rows.take m).length cap) := by
      refine .fro sz (rows.take m) A cap U (fun row h => hz row (List.mem_of_mem_take h)) (by simp; omega) (fun hne => ha (fun e => hne (by rw [e]; simp))) hn' (fun i c row x h1 h2 => ?_) (fun i c row x h1 h2 => ?_)
      · rw [List.getElem?_take] at h1
        split at h1
        · exact hU i c row x h1 h2
        · cases h1
      · rw [List.getElem?_take] at h1
        split at h1
        · exact h i c row x h1 h2
        · cases h1
    rw [List.length_take, Nat.min_eq_left hm] at hv
    exact ⟨_, hv, rfl⟩
  | any => simp [rowsOf] at hr
  | snil => simp only [rowsOf, Option.some.injEq] at hr; subst hr; have h0 : m = 0 := by simpa using hm
            subst h0; exact ⟨.snil, .snil, rfl⟩
  | emp a => simp only [rowsOf, Option.some.injEq] at hr; subst hr; have h0 : m = 0 := by simpa using hm
             subst h0; exact ⟨.emp, .emp _, rfl⟩
  | efro sz cap a => simp only [rowsOf, Option.some.injEq] at hr; subst hr; have h0 : m = 0 := by simpa using hm
                     subst h0; exact ⟨.efro sz, .efro _ _ _, rfl⟩

include hT in
theorem ok_copy (args : Array Operand) (ts : Array TypeId) (ty ty2 e : TypeId) (ti : TI) (x : AV) (src rows : List (List AV)) (id sz off len lc : Nat) (ho : o.op = .call { callee := .builtin .copy, args, argTypes := ts }) (hts : ts.toList = [ty, ty2]) (hx : args.toList.map (ev t) = [.own id sz off len lc, x])
    (hk : kindOf T ty = some (.slice e)) (ht : T e = some ti) (hr : rowsOf H x = some src) (hid : H[id]? = some (some (.arr sz rows))) (hsz : sz = ti.size) (hle : off + len ≤ rows.length) (hok0 : ∀ row ∈ src.take len, RowOk sz row) :
    OK P o t H (.int .i64 (min src.length len : Nat)) (H.set id (some (.arr sz (splice rows off (src.take len))))) :=
  .of_run fun ρ F w a r f tr => by
    subst hsz
    obtain ⟨p, q, h1, h2, h3⟩ := map_two a hx
    have hts' : ts = #[ty, ty2] := by rw [← hts]
    subst hts'
    have es := ev_ok tr p
    have ex := ev_ok tr q
    rw [h2] at es
    rw [h3] at ex
    obtain ⟨k, hk'⟩ := lenOf_rows hr
    obtain ⟨A, cap, hu, _⟩ := slice_of_len ex hk'
    rw [hu] at ex
    have hkl : k = src.length := (rows_ok r hr ex).1.symm
    subst hkl
    have hmin : Nat.min src.length len ≤ src.length := Nat.min_le_left _ _
    obtain ⟨x', ex', hr'⟩ := vr_first hr ex hmin rfl
    have e0 : src.take (Nat.min src.length len) = src.take len := by
      rcases Nat.le_total src.length len with h | h
      · rw [show Nat.min src.length len = src.length from Nat.min_eq_left h, List.take_of_length_le (Nat.le_refl _), List.take_of_length_le h]
      · rw [show Nat.min src.length len = len from Nat.min_eq_right h]
    rw [e0] at hr'
    obtain ⟨hkl', us, hul, hflat, hone, hfirst⟩ := flat_ok (P := P) r hr' ex' hok0
    have hful : (Builtin.firstCells ti.size (Nat.min src.length len) (.slice A src.length cap)).run P w = .ok (us.take (Nat.min src.length len * ti.size)).toArray w := by
      have := hfirst (Nat.min src.length len) (Nat.le_refl _) w rfl
      rw [← this]
      cases A <;> rfl
    have hus : us.take (Nat.min src.length len * ti.size) = us := List.take_of_length_le (by rw [hul, ← hkl']; exact Nat.le_refl _)
    have hlv : (us.take (Nat.min src.length len * ti.size)).length = (src.take len).length * ti.size := by rw [hus, hul]
    have hone' : ∀ u ∈ us.take (Nat.min src.length len * ti.size), u.oneCell' = true := fun u hu => hone u (List.mem_of_mem_take hu)
    have hflat' : FlatR ρ F w ti.size (src.take len) (us.take (Nat.min src.length len * ti.size)) := by rw [hus]; exact hflat
    have hgi : goInt ((Nat.min src.length len : Nat) : Int) = .int .i64 ((min src.length len : Nat) : Int) := rfl
    rcases vr_own es with ⟨B, sCap, m, tt, hp, hρ, hspot, hoff, hlc1, hlc2, hm, hf⟩ | ⟨B, hp, hl0, _, _⟩
    · rcases r.blk id _ hid with ⟨g, cs, t', hg, hnf, hcs, hB⟩ | ⟨hg, _⟩
      · rw [hρ] at hg
        cases hg
        have hm' : m = cs.size := by rw [shape_of hcs] at hm; cases hm; rfl
        rcases Nat.eq_zero_or_pos sCap with hc0 | hc0
        · -- no room
          have hl0 : len = 0 := by omega
          subst hl0
          have hm0 : Nat.min src.length 0 = 0 := Nat.min_zero _
          have hz : (src.take 0) = [] := List.take_zero
          have hH : H.set id (some (.arr ti.size (splice rows off (src.take 0)))) = H := by
            rw [hz, splice_nil]
            apply List.ext_getElem?
            intro i
            by_cases hi : id = i
            · subst hi; rw [List.getElem?_set_self (List.getElem?_eq_some_iff.1 hid).1, hid]
            · rw [List.getElem?_set_ne hi]
          rw [hH]
          rw [hm0] at hful
          refine ⟨.int .i64 ((min src.length 0 : Nat) : Int), w, ρ, F, run_builtin a w _ _ _ ho _ _ fun consts => ?_, .int _ _, r, f, .refl⟩
          simp [builtin, h1, hp, hu, Builtin.copy_, run_underlying (hT.slice hk), Builtin.lenOf, run_size hT ht, hm0] at hful ⊢
          rw [hful]
          simp [storeCells, goInt]
        · have hB0 : B.off = off * ti.size := hoff (by omega)
          obtain ⟨bb, bo, bs⟩ := B
          simp only at hB0 hspot
          subst hB0; subst hspot
          have hfit : off * ti.size + (us.take (Nat.min src.length len * ti.size)).length ≤ cs.size := by
            rw [hlv, ← Nat.add_mul, ← hm']
            refine Nat.le_trans (Nat.mul_le_mul_right _ ?_) hf
            simp; omega
          obtain ⟨cs', h4, h5, h6⟩ := run_stores (P := P) hcs hfit hone'
          obtain ⟨c1, c2, c3⟩ := rel_set r f hid hρ hcs h5 (b' := .arr ti.size (splice rows off (src.take len))) (fun k => blk_splice_rows (hB.mono k) (by omega) (fun row h => (hok0 row h).1) hlv (hflat'.mono k) hfit h6)
          refine ⟨.int .i64 ((min src.length len : Nat) : Int), _, _, _, run_builtin a w _ _ _ ho _ _ fun consts => ?_, .int _ _, c1, c2, c3⟩
          simp [builtin, h1, hp, hu, Builtin.copy_, run_underlying (hT.slice hk), Builtin.lenOf, run_size hT ht, hful, h4, goInt]
      · rw [hρ] at hg; cases hg
    · subst hl0
      have hm0 : Nat.min src.length 0 = 0 := Nat.min_zero _
      have hz : (src.take 0) = [] := List.take_zero
      have hH : H.set id (some (.arr ti.size (splice rows off (src.take 0)))) = H := by
        rw [hz, splice_nil]
        apply List.ext_getElem?
        intro i
        by_cases hi : id = i
        · subst hi; rw [List.getElem?_set_self (List.getElem?_eq_some_iff.1 hid).1, hid]
        · rw [List.getElem?_set_ne hi]
      rw [hH]
      rw [hm0] at hful
      refine ⟨.int .i64 ((min src.length 0 : Nat) : Int), w, ρ, F, run_builtin a w _ _ _ ho _ _ fun consts => ?_, .int _ _, r, f, .refl⟩
      simp [builtin, h1, hp, hu, Builtin.copy_, run_underlying (hT.slice hk), Builtin.lenOf, run_size hT ht, hm0] at hful ⊢
      rw [hful]
      cases B <;> simp [storeCells, goInt]

theorem zeroCells_flat {ρ : Ren} {F : Nat → Prop} {w : World} {zero : List AV} {z : Array Value} {sz n : Nat} (hv : VRs ρ F w zero z.toList) (hs : zero.length = sz) : FlatR ρ F w sz (List.replicate n zero) (Builtin.zeroCells z n).toList ∧ (Builtin.zeroCells z n).toList.length = (List.replicate n zero).length * sz := by
  have hzs : z.size = sz := by rw [← Array.length_toList, ← hv.1, hs]
  have e : Builtin.zeroCells z n = madeCells z (n * sz) := by unfold Builtin.zeroCells madeCells; rw [hzs]
  rw [e]
  have := blk_made (n := n) hv hs
  refine ⟨fun i c row x h1 h2 => ?_, by simp [size_madeCells]⟩
  obtain ⟨u, hu, hvv⟩ := this.2.2 i c row x h1 h2
  exact ⟨u, by rw [← get_toList]; exact hu, hvv⟩

theorem zero_one {l : List AV} (h : l.all isConc = true) : ∀ u ∈ l.map conc, u.oneCell' = true := by
  intro u hu
  obtain ⟨x, hx, rfl⟩ := List.mem_map.1 hu
  have := List.all_eq_true.1 h x hx
  cases x <;> simp [isConc] at this <;> rfl

include hT in
theorem ok_clear (args : Array Operand) (ts : Array TypeId) (ty e : TypeId) (ti : TI) (rows : List (List AV)) (id sz off len lc : Nat) (ho : o.op = .call { callee := .builtin .clear, args, argTypes := ts }) (hts : ts.toList = [ty]) (hx : args.toList.map (ev t) = [.own id sz off len lc])
    (hk : kindOf T ty = some (.slice e)) (ht : T e = some ti) (hid : H[id]? = some (some (.arr sz rows))) (hsz : sz = ti.size) (hle : off ≤ rows.length) :
    OK P o t H (.tup []) (H.set id (some (.arr sz (splice rows off (List.replicate len ti.zero))))) :=
  .of_run fun ρ F w a r f tr => by
    subst hsz
    obtain ⟨p, h1, h2⟩ := map_one a hx
    have hts' : ts = #[ty] := by rw [← hts]
    subst hts'
    have es := ev_ok tr p
    rw [h2] at es
    obtain ⟨i, d, z, kk⟩ := hT.get ht
    have hz : VRs ρ F w ti.zero z.cells.toList := by rw [kk.zcells]; exact conc_vrs kk.zconc
    have same : len = 0 → H.set id (some (.arr ti.size (splice rows off (List.replicate len ti.zero)))) = H := by
      rintro rfl
      rw [List.replicate_zero, splice_nil]
      apply List.ext_getElem?
      intro i
      by_cases hi : id = i
      · subst hi; rw [List.getElem?_set_self (List.getElem?_eq_some_iff.1 hid).1, hid]
      · rw [List.getElem?_set_ne hi]
    have ht0 : VR ρ F w (.tup []) (.tuple #[]) := .tup [] [] rfl (fun i x u h => by simp at h)
    rcases vr_own es with ⟨B, sCap, m, tt, hp, hρ, hspot, hoff, hlc1, hlc2, hm, hf⟩ | ⟨B, hp, hl0, _, _⟩
    · rcases Nat.eq_zero_or_pos len with hl0 | hl0
      · rw [same hl0]
        refine ⟨.tuple #[], w, ρ, F, run_builtin a w _ _ _ ho _ _ fun consts => ?_, ht0, r, f, .refl⟩
        subst hl0
        simp [builtin, h1, hp, Builtin.clear_, run_underlying (hT.slice hk)]
      · rcases r.blk id _ hid with ⟨g, cs, t', hg, hnf, hcs, hB⟩ | ⟨hg, _⟩
        · rw [hρ] at hg
          cases hg
          have hm' : m = cs.size := by rw [shape_of hcs] at hm; cases hm; rfl
          have hB0 : B.off = off * ti.size := hoff (by omega)
          obtain ⟨bb, bo, bs⟩ := B
          simp only at hB0 hspot
          subst hB0; subst hspot
          obtain ⟨hfl, hll⟩ := zeroCells_flat (n := len) hz kk.zlen
          have hfit : off * ti.size + (Builtin.zeroCells z.cells len).toList.length ≤ cs.size := by
            rw [hll, List.length_replicate, ← Nat.add_mul, ← hm']
            exact Nat.le_trans (Nat.mul_le_mul_right _ (by omega)) hf
          have hone : ∀ u ∈ (Builtin.zeroCells z.cells len).toList, u.oneCell' = true := by
            intro u hu
            have hzl := zero_one kk.zconc
            rw [← kk.zcells] at hzl
            rcases Nat.eq_zero_or_pos z.cells.size with h0 | h0
            · have : (Builtin.zeroCells z.cells len).toList.length = 0 := by simp [size_zeroCells, h0]
              rw [List.eq_nil_of_length_eq_zero this] at hu; cases hu
            · obtain ⟨j, hj, rfl⟩ := List.getElem_of_mem hu
              have hm : j % z.cells.size < z.cells.size := Nat.mod_lt _ h0
              have : (Builtin.zeroCells z.cells len).toList[j] = z.cells.toList[j % z.cells.size]'(by simpa using hm) := by simp [Builtin.zeroCells, hm]
              rw [this]
              exact hzl _ (List.getElem_mem _)
          obtain ⟨cs', h4, h5, h6⟩ := run_stores (P := P) hcs hfit hone
          obtain ⟨c1, c2, c3⟩ := rel_set r f hid hρ hcs h5 (b' := .arr ti.size (splice rows off (List.replicate len ti.zero))) (fun k => by
            exact blk_splice_rows (hB.mono k) hle (fun row h => by rw [List.eq_of_mem_replicate h]; exact kk.zlen) hll (hfl.mono k) hfit h6)
          obtain ⟨n, rfl⟩ : ∃ n, len = n + 1 := ⟨len - 1, by omega⟩
          refine ⟨.tuple #[], _, _, _, run_builtin a w _ _ _ ho _ _ fun consts => ?_, .tup [] [] rfl (fun i x u h => by simp at h), c1, c2, c3⟩
          simp [builtin, h1, hp, Builtin.clear_, run_underlying (hT.slice hk), zeroValue, typeInfo, kk.info, kk.zero, h4]
        · rw [hρ] at hg; cases hg
    · rw [same hl0]
      refine ⟨.tuple #[], w, ρ, F, run_builtin a w _ _ _ ho _ _ fun consts => ?_, ht0, r, f, .refl⟩
      cases B <;> simp [builtin, h1, hp, Builtin.clear_, run_underlying (hT.slice hk)]
end ops
end Go.Proofs.Ytkecenijjdpfdaa.AL
