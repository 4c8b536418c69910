/-
  Building values and slices' literals, slicing, fields, indices, numbers: each operation does as told; no conditions beyond each lemma's own.
-/
import Derived.Test.YtkecenijjdpfdaaAL6
import Derived.Laws.Tables
namespace Go.Proofs.Ytkecenijjdpfdaa.AL
open Go
set_option linter.unusedVariables false
set_option linter.unusedSimpArgs false

/-- The fold that lays a part's cells. -/
theorem fold_lay : ∀ (vs : List Value) (off k : Nat) (cs : Array Value), off + k + vs.length ≤ cs.size →
    ((vs.zipIdx k).foldl (fun cs (c, j) => cs.setIfInBounds (off + j) c) cs).toList = splice cs.toList (off + k) vs
  | [], off, k, cs, h => by simp [splice]
  | v :: vs, off, k, cs, h => by
    simp only [List.length_cons] at h
    rw [List.zipIdx_cons, List.foldl_cons, fold_lay vs off (k + 1) (cs.setIfInBounds (off + k) v) (by simp; omega)]
    apply List.ext_getElem?
    intro j
    rw [splice_get _ _ _ _ (by simp; omega), splice_get _ _ _ _ (by simp; omega)]
    simp only [List.length_cons, Array.toList_setIfInBounds]
    by_cases h5 : off + k ≤ j ∧ j < off + k + (vs.length + 1)
    · rw [if_pos h5]
      rcases Nat.eq_or_lt_of_le h5.1 with rfl | hlt'
      · rw [if_neg (by omega), List.getElem?_set_self (by simp; omega)]; simp
      · rw [if_pos (by omega), show j - (off + k) = (j - (off + (k + 1))) + 1 by omega]; simp
    · rw [if_neg h5, if_neg (by omega), List.getElem?_set_ne (by omega)]

theorem fold_lay' (v : Value) (off : Nat) (cs : Array Value) (h : off + v.cells.size ≤ cs.size) : (v.cells.zipIdx.foldl (fun cs (c, j) => cs.setIfInBounds (off + j) c) cs).toList = splice cs.toList off v.cells.toList := by
  rw [← Array.foldl_toList, Array.toList_zipIdx]
  have := fold_lay v.cells.toList off 0 cs (by simpa using h)
  simpa using this

theorem VRs.splice_ {ρ : Ren} {F : Nat → Prop} {w : World} {xs ys : List AV} {us vs : List Value} (h : VRs ρ F w xs us) (k : VRs ρ F w ys vs) (c : Nat) : VRs ρ F w (splice xs c ys) (splice us c vs) := by
  unfold splice
  rw [← k.1]
  exact ((h.take c).append k).append (h.drop _)

theorem cells_any {ρ : Ren} {F : Nat → Prop} {w : World} {x : AV} {u : Value} (h : VR ρ F w x u) (hl : (cellsOf x).length = u.cells.size) : VRs ρ F w (cellsOf x) u.cells.toList := by
  by_cases hx : x = .any
  · subst hx
    refine ⟨by simpa using hl, fun i y v hy hv => ?_⟩
    cases i <;> simp [cellsOf] at hy
    subst hy
    exact .any _
  · exact cells_ok h hx

section ops
variable {P : Program} {T : Tab} (hT : TOk P T) {t : List AV} {H : Heap} {o : Oper}

theorem not_any' {x : AV} (h : notAny x = true) : x ≠ .any := by rintro rfl; cases h

theorem fill_ok {ρ : Ren} {F : Nat → Prop} {w : World} {a : Act} (tr : TR ρ F w t a.tmps) {flds : List (Nat × TypeId)} {places : List (Nat × Nat)} (hp : ∀ (i off : Nat) ft ti, flds[i]? = some (off, ft) → T ft = some ti → places[i]? = some (off, ti.size)) :
    ∀ (ps : List (Nat × Operand)) (cells : List AV) (cs : Array Value) (C : Prop) (r : List AV), VRs ρ F w cells cs.toList → lay flds T t ps cells = some (C, r) → C →
      ∃ cs', Instr.fill (places[·]?) cs (ps.map fun p => (p.1, a.eval p.2)) = some cs' ∧ VRs ρ F w r cs'.toList
  | [], cells, cs, C, r, hv, hl, hC => by
    simp only [lay, Option.some.injEq, Prod.mk.injEq] at hl
    obtain ⟨_, rfl⟩ := hl
    exact ⟨cs, rfl, hv⟩
  | (i, x) :: ps, cells, cs, C, r, hv, hl, hC => by
    simp only [lay] at hl
    split at hl
    · rename_i off ft hf
      split at hl
      · rename_i ti hti
        split at hl
        · rename_i c' r' hrec
          simp only [Option.some.injEq, Prod.mk.injEq] at hl
          obtain ⟨rfl, rfl⟩ := hl
          obtain ⟨⟨h1, h2, hna⟩, h3⟩ := hC
          have hx := cells_ok (ev_ok tr x) (not_any' hna)
          have hsz : (a.eval x).cells.size = ti.size := by rw [← Array.length_toList, ← hx.1, h1]
          have hcs : cs.size = cells.length := by rw [← Array.length_toList, ← hv.1]
          have hfold := fold_lay' (a.eval x) off cs (by omega)
          obtain ⟨cs', h4, h5⟩ := fill_ok tr hp ps _ ((a.eval x).cells.zipIdx.foldl (fun cs (c, j) => cs.setIfInBounds (off + j) c) cs) _ _ (by rw [hfold]; exact hv.splice_ hx off) hrec h3
          refine ⟨cs', ?_, h5⟩
          have hpl := hp i off ft ti hf hti
          simp only [List.map_cons, Instr.fill, hpl]
          rw [if_neg (by simp; omega)]
          exact h4
        · cases hl
      · cases hl
    · cases hl

include hT in
theorem ok_build (ty : TypeId) (ps : Array (Nat × Operand)) (ti : TI) (flds : List (Nat × TypeId)) (C : Prop) (cells : List AV) (ho : o.op = .build ty ps) (ht : T ty = some ti) (hk : ti.kind = .struct flds)
    (hl : lay flds T t ps.toList ti.zero = some (C, cells)) (hC : C) : OK P o t H (.agg cells) H :=
  .of_val fun ρ F w a r tr => by
    obtain ⟨i, d, z, k⟩ := hT.get ht
    have hkd := k.kind
    rw [hk] at hkd
    cases d <;> simp only [kindB, Bool.false_eq_true] at hkd
    rename_i fs
    simp only [Bool.and_eq_true, beq_iff_eq] at hkd
    obtain ⟨hfs, hall⟩ := hkd
    have hplaces : ∀ l : List Field, (l.all fun f => (P.info? f.type).isSome) = true → ∃ pl, l.mapM (fun f => (P.info? f.type).map fun i => (f.offset, i.size)) = some pl ∧ ∀ (i : Nat) f inf, l[i]? = some f → P.info? f.type = some inf → pl[i]? = some (f.offset, inf.size) := by
      intro l
      induction l with
      | nil => intro _; exact ⟨[], rfl, fun i f inf h => by simp at h⟩
      | cons f l ih =>
        intro h
        simp only [List.all_cons, Bool.and_eq_true] at h
        obtain ⟨h1, h2⟩ := h
        obtain ⟨inf, hinf⟩ := Option.isSome_iff_exists.1 h1
        obtain ⟨pl, h3, h4⟩ := ih h2
        refine ⟨(f.offset, inf.size) :: pl, by simp [List.mapM_cons, hinf, h3], fun j g inf' hj hg => ?_⟩
        cases j with
        | zero => simp at hj; subst hj; rw [hinf] at hg; cases hg; rfl
        | succ j => simpa using h4 j g inf' (by simpa using hj) hg
    obtain ⟨pl, h3, h4⟩ := hplaces fs.toList hall
    have hp : ∀ (i off : Nat) ft ti, flds[i]? = some (off, ft) → T ft = some ti → pl[i]? = some (off, ti.size) := by
      intro j off ft ti' hj hti
      rw [← hfs, List.getElem?_map, Option.map_eq_some_iff] at hj
      obtain ⟨f, hf, hfe⟩ := hj
      simp only [Prod.mk.injEq] at hfe
      obtain ⟨rfl, rfl⟩ := hfe
      obtain ⟨i', d', z', k'⟩ := hT.get hti
      rw [h4 j f i' hf k'.info, k'.size]
    have hz : VRs ρ F w ti.zero z.cells.toList := by rw [k.zcells]; exact conc_vrs k.zconc
    obtain ⟨cs', h5, h6⟩ := fill_ok tr hp ps.toList ti.zero z.cells C cells hz hl hC
    refine ⟨.agg cs', ?_, .agg _ _ h6.1 h6.2⟩
    have hb := run_build (P := P) w ty (ps.map fun (i, x) => (i, a.eval x)) cs' (by
      unfold Program.built
      simp only [k.info, k.und, k.zero, h3]
      simpa using h5)
    simp [execOp, ho, hb]

theorem ok_fieldAddr (s : TypeId) (p : Operand) (f o1 : Nat) (ft : TypeId) (flds : List (Nat × TypeId)) (ho : o.op = .fieldAddr s p f) (hk : kindOf T s = some (.struct flds)) (hf : flds[f]? = some (o1, ft)) (hz : szOf T ft ≠ 0) (hT : TOk P T) :
    (∀ id c, ev t p = .ptr id c → OK P o t H (.ptr id (c + o1)) H) ∧ (∀ sl i c, ev t p = .eptr sl i c → OK P o t H (.eptr sl i (c + o1)) H) := by
  obtain ⟨ti, hti, hk'⟩ := kind_get hk
  obtain ⟨i, d, z, k⟩ := hT.get hti
  have hkd := k.kind
  rw [hk'] at hkd
  cases d <;> simp only [kindB, Bool.false_eq_true] at hkd
  rename_i fs
  simp only [Bool.and_eq_true, beq_iff_eq] at hkd
  have hfs := hkd.1
  rw [← hfs, List.getElem?_map, Option.map_eq_some_iff] at hf
  obtain ⟨fl, hfl, hfe⟩ := hf
  simp only [Prod.mk.injEq] at hfe
  obtain ⟨rfl, rfl⟩ := hfe
  have hget : fs[f]? = some fl := by simpa using hfl
  unfold szOf at hz
  cases hti' : T fl.type with
  | none => simp [hti'] at hz
  | some ti' =>
    simp [hti'] at hz
    have hrun : ∀ (w : World) (A : Addr), A.spot = none → (Instr.fieldAt s (.pointer (some A)) f).run P w = .ok (.pointer (some ⟨A.block, A.off + fl.offset, none⟩)) w := by
      intro w A hA
      have hadd : A.add fl.offset = ⟨A.block, A.off + fl.offset, none⟩ := by obtain ⟨b, off, sp⟩ := A; simp only at hA; subst hA; exact Addr.add_mid ..
      simp [Instr.fieldAt, run_underlying k.und, hget, Instr.sureAddr, fieldPlace, run_size hT hti', hz, hadd]
    refine ⟨fun id c hp => .of_val fun ρ F w a r tr => ?_, fun sl i c hp => .of_val fun ρ F w a r tr => ?_⟩
    · have h := ev_ok tr p
      rw [hp] at h
      obtain ⟨g, hg, hu⟩ := vr_ptr h
      exact ⟨_, by simp [execOp, ho, hu, hrun], .ptr _ _ _ hg⟩
    · have h := ev_ok tr p
      rw [hp] at h
      obtain ⟨A, n, cap, hs, hi, hsp, hu⟩ := vr_eptr h
      refine ⟨_, by simp [execOp, ho, hu, hrun]; rfl, ?_⟩
      rw [Nat.add_assoc, Nat.add_assoc]
      exact .eptr _ _ _ _ _ _ hs hi hsp

include hT in
theorem ok_field (s : TypeId) (x : Operand) (f o1 : Nat) (ft : TypeId) (flds : List (Nat × TypeId)) (l : List AV) (ti : TI) (ho : o.op = .field s x f) (hk : kindOf T s = some (.struct flds)) (hx : ev t x = .agg l) (hf : flds[f]? = some (o1, ft)) (ht : T ft = some ti)
    (hn : o1 + ti.size ≤ l.length) (h1 : match ti.kind with | .struct _ => True | _ => ti.size = 1) : OK P o t H (joinT ti ((l.drop o1).take ti.size)) H :=
  .of_val fun ρ F w a r tr => by
    obtain ⟨ti0, hti0, hk'⟩ := kind_get hk
    obtain ⟨i, d, z, k⟩ := hT.get hti0
    have hkd := k.kind
    rw [hk'] at hkd
    cases d <;> simp only [kindB, Bool.false_eq_true] at hkd
    rename_i fs
    simp only [Bool.and_eq_true, beq_iff_eq] at hkd
    have hfs := hkd.1
    rw [← hfs, List.getElem?_map, Option.map_eq_some_iff] at hf
    obtain ⟨fl, hfl, hfe⟩ := hf
    simp only [Prod.mk.injEq] at hfe
    obtain ⟨rfl, rfl⟩ := hfe
    have hget : fs[f]? = some fl := by simpa using hfl
    have h := ev_ok tr x
    rw [hx] at h
    obtain ⟨us, hu, hv⟩ := vr_agg h
    have hv' := (hv.drop fl.offset).take ti.size
    have hle : fl.offset + ti.size ≤ us.length := by rw [← hv.1]; exact hn
    unfold joinT
    cases hk2 : ti.kind
    case struct fl2 =>
      refine ⟨.agg ((us.drop fl.offset).take ti.size).toArray, ?_, .agg _ _ hv'.1 hv'.2⟩
      simp [execOp, ho, hu, Instr.field, run_underlying k.und, hget, asAgg, part, run_agg hT ht, hk2, run_size hT ht, List.extract_eq_take_drop]
    all_goals
      rw [hk2] at h1
      simp only at h1
      have hlt : fl.offset < us.length := by omega
      have hlt' : fl.offset < l.length := by omega
      refine ⟨us[fl.offset], ?_, ?_⟩
      · simp [execOp, ho, hu, Instr.field, run_underlying k.und, hget, asAgg, part, run_agg hT ht, hk2, hlt]
      · rw [h1, List.drop_eq_getElem_cons hlt']
        exact hv.2 _ _ _ (List.getElem?_eq_getElem hlt') (List.getElem?_eq_getElem hlt)

include hT in
theorem ok_indexAddr (ty e : TypeId) (x ix : Operand) (k : IntKind) (i : Int) (n : Nat) (ti : TI) (ho : o.op = .indexAddr ty x ix) (hk : kindOf T ty = some (.slice e)) (hi : ev t ix = .int k i) (hn : lenOf (ev t x) = some n) (h0 : 0 ≤ i) (h1 : i < n) (hte : T e = some ti) (hs : ti.size = szv (ev t x)) :
    OK P o t H (.eptr (ev t x) i.toNat 0) H :=
  .of_val fun ρ F w a r tr => by
    have hx := ev_ok tr x
    have hix := ev_ok tr ix
    rw [hi] at hix
    have hix := vr_int hix
    obtain ⟨A, cap, hu, hsp0⟩ := slice_of_len hx hn
    obtain ⟨ad, rfl, hsp⟩ := hsp0 (by omega)
    have hun := hT.slice hk
    have hadd : ad.add (i.toNat * ti.size) = ⟨ad.block, ad.off + i.toNat * ti.size, none⟩ := by obtain ⟨b, off, sp⟩ := ad; simp only at hsp; subst hsp; exact Addr.add_mid ..
    refine ⟨.pointer (some ⟨ad.block, ad.off + (i.toNat * szv (ev t x) + 0), none⟩), ?_, ?_⟩
    · rw [← hs]
      simp [execOp, ho, hu, hix, Instr.indexAt, asIntOf, run_underlying hun, h0, h1, run_size hT hte, hadd]
    · rw [hu] at hx
      exact .eptr _ _ _ _ _ _ hx (by omega) hsp

theorem run_slices {P : Program} {w : World} {ty e : TypeId} (hu : P.underlying ty = some (.slice e)) (sz : Nat) (hs : (sizeOf e).run P w = .ok sz w) (a : Option Addr) (len cap : Nat) (lo hi mx : Option Value) (l h m : Nat) (hb : (Instr.sliceBounds true len cap lo hi mx).run P w = .ok (l, h, m) w) :
    (Instr.sliceAt ty (.slice a len cap) lo hi mx).run P w = .ok (.slice (if m = l then a else a.map (·.add (l * sz))) (h - l) (m - l)) w := by
  simp [Instr.sliceAt, Instr.slice, run_underlying hu, hb, hs]

theorem add_block' (A : Addr) (n : Nat) : (A.add n).block = A.block := by unfold Addr.add; split <;> rfl
theorem add_spot (A : Addr) (n : Nat) (h : A.spot = none) : (A.add n).spot = none := by unfold Addr.add; split <;> simp_all
theorem add_off (A : Addr) (n : Nat) : (A.add n).off = A.off + n := by unfold Addr.add; split <;> simp_all

/-- Cutting a slice: the value. -/
theorem aslice_ok {ρ : Ren} {F : Nat → Prop} {w : World} {s r : AV} {lo : Int} {hi mx : Option Int} {C : Prop} {u : Value} (hv : VR ρ F w s u) (h : aslice s lo hi mx = some (C, r)) (hC : C) (sz : Nat) (hsz : sz = szv s ∨ lo = 0) :
    ∃ A len cap, u = .slice A len cap ∧ 0 ≤ lo ∧ lo ≤ hi.getD len ∧ hi.getD len ≤ mx.getD cap ∧ mx.getD cap ≤ cap ∧
      VR ρ F w r (.slice (if (mx.getD cap).toNat = lo.toNat then A else A.map (·.add (lo.toNat * sz))) ((hi.getD len).toNat - lo.toNat) ((mx.getD cap).toNat - lo.toNat)) := by
  cases hv with
  | own id sz' off len lc cap m t A h' hs' ho hl hc hm hf =>
    simp only [aslice, Option.some.injEq, Prod.mk.injEq] at h
    obtain ⟨rfl, rfl⟩ := h
    obtain ⟨h0, h1, h2, h3⟩ := hC
    have hmx : mx.getD (lc : Int) ≤ mx.getD (cap : Int) ∧ mx.getD (cap : Int) ≤ cap := by cases mx <;> simp at h3 ⊢ <;> omega
    refine ⟨some A, len, cap, rfl, h0, h1, by omega, hmx.2, ?_⟩
    have hoff : (mx.getD (cap : Int)).toNat - lo.toNat ≠ 0 → ((A.add (lo.toNat * sz)).off = (off + lo.toNat) * sz') := fun hne => by
      rw [add_off, ho (by omega), Nat.add_mul]
      rcases hsz with rfl | rfl
      · rfl
      · simp
    have hbig : (off + lo.toNat + ((mx.getD (cap : Int)).toNat - lo.toNat)) * sz' ≤ m := by
      refine Nat.le_trans (Nat.mul_le_mul_right _ ?_) hf
      omega
    by_cases he : (mx.getD (cap : Int)).toNat = lo.toNat
    · rw [if_pos he]
      have := VR.own (ρ := ρ) (F := F) (w := w) id sz' (off + lo.toNat) ((hi.getD (len : Int)) - lo).toNat ((mx.getD (lc : Int)) - lo).toNat ((mx.getD (cap : Int)).toNat - lo.toNat) m t A h' hs' (fun hne => by omega) (by omega) (by omega) hm hbig
      rwa [show ((hi.getD (len : Int)) - lo).toNat = (hi.getD (len : Int)).toNat - lo.toNat by omega] at this ⊢
    · rw [if_neg he]
      have := VR.own (ρ := ρ) (F := F) (w := w) id sz' (off + lo.toNat) ((hi.getD (len : Int)) - lo).toNat ((mx.getD (lc : Int)) - lo).toNat ((mx.getD (cap : Int)).toNat - lo.toNat) m t (A.add (lo.toNat * sz)) (by rw [add_block']; exact h') (add_spot _ _ hs') hoff (by omega) (by omega) (by rw [add_block']; exact hm) hbig
      rwa [show ((hi.getD (len : Int)) - lo).toNat = (hi.getD (len : Int)).toNat - lo.toNat by omega] at this ⊢
  | own0 id sz' off A h' =>
    simp only [aslice, Option.some.injEq, Prod.mk.injEq] at h
    obtain ⟨rfl, rfl⟩ := h
    obtain ⟨h0, h1, h2, h3⟩ := hC
    simp only [Int.natCast_zero, Int.ofNat_zero] at *
    have e1 : lo = 0 := by omega
    have e2 : hi.getD 0 = 0 := by omega
    have e3 : mx.getD 0 = 0 := by omega
    subst e1
    refine ⟨A, 0, 0, rfl, by omega, by simp [e2], by simp [e2, e3], by simp [e3], ?_⟩
    simp [e2, e3]
    exact .own0 _ _ _ _ h'
  | fro sz' rows A cap U hz hc ha hn hU hvr =>
    have key : ∀ (hh mm : Nat), lo.toNat ≤ hh → hh ≤ rows.length → hh ≤ mm → mm ≤ cap → VR ρ F w (.fro sz' ((rows.take hh).drop lo.toNat)) (.slice (if mm = lo.toNat then A else A.map (·.add (lo.toNat * sz))) (hh - lo.toNat) (mm - lo.toNat)) := by
      intro hh mm k1 k2 k3 k4
      have hlen : ((rows.take hh).drop lo.toNat).length = hh - lo.toNat := by simp; omega
      rw [← hlen]
      have hget : ∀ (i : Nat) row, ((rows.take hh).drop lo.toNat)[i]? = some row → rows[lo.toNat + i]? = some row ∧ lo.toNat + i < hh := fun i row hr => by
        rw [List.getElem?_drop, List.getElem?_take] at hr
        split at hr
        · exact ⟨hr, ‹_›⟩
        · cases hr
      have hA : ∀ a, A = some a → mm ≠ lo.toNat → (if mm = lo.toNat then A else A.map (·.add (lo.toNat * sz))) = some (a.add (lo.toNat * sz)) := fun a e hne => by rw [if_neg hne, e]; rfl
      refine .fro sz' _ _ _ (fun i c => U (lo.toNat + i) c) (fun row hr => ?_) (by rw [hlen]; omega) (fun hne => ?_) (fun he => ?_) (fun i c row x hr hx => ?_) (fun i c row x hr hx => hvr _ c row x (hget i row hr).1 hx)
      · obtain ⟨i, hi', rfl⟩ := List.getElem_of_mem hr
        exact hz _ (List.mem_of_getElem? (hget i _ (List.getElem?_eq_getElem hi')).1)
      · have hp : 0 < hh - lo.toNat := by rw [← hlen]; exact List.length_pos_iff.2 hne
        obtain ⟨a, e, hsp⟩ := ha (fun e => by subst e; simp at k2; omega)
        exact ⟨_, hA a e (by omega), add_spot _ _ hsp⟩
      · cases A with
        | none => have := hn rfl; omega
        | some a => split at he <;> simp at he
      · obtain ⟨h1, h2⟩ := hget i row hr
        obtain ⟨a, e, hsp, hF, hcell⟩ := hU _ c row x h1 hx
        refine ⟨_, hA a e (by omega), add_spot _ _ hsp, by rw [add_block']; exact hF, ?_⟩
        rw [add_block', add_off, ← hcell]
        congr 2
        rcases hsz with hs | h0
        · have hs' : sz = sz' := hs
          subst hs'
          rw [Nat.add_mul]; omega
        · subst h0; simp
    simp only [aslice] at h
    cases mx with
    | none =>
      simp only [Option.some.injEq, Prod.mk.injEq] at h
      obtain ⟨rfl, rfl⟩ := h
      obtain ⟨h0, h1, h2⟩ := hC
      refine ⟨A, rows.length, cap, rfl, h0, h1, by simp; omega, by simp, ?_⟩
      have := key (hi.getD (rows.length : Int)).toNat cap (by omega) (by omega) (by omega) (Nat.le_refl _)
      simpa using this
    | some m =>
      simp only [Option.some.injEq, Prod.mk.injEq] at h
      obtain ⟨rfl, rfl⟩ := h
      obtain ⟨h0, h1, h2, h3⟩ := hC
      refine ⟨A, rows.length, cap, rfl, h0, h1, by simpa using h2, by simp; omega, ?_⟩
      simp only [Option.getD_some]
      by_cases hm0 : m = 0
      · subst hm0
        have e1 : lo = 0 := by omega
        have e2 : hi.getD (rows.length : Int) = 0 := by omega
        subst e1
        simp [e2]
        exact .emp _
      · rw [if_neg hm0]
        exact key (hi.getD (rows.length : Int)).toNat m.toNat (by omega) (by omega) (by omega) (by omega)
  | snil =>
    simp only [aslice, Option.some.injEq, Prod.mk.injEq] at h
    obtain ⟨rfl, rfl⟩ := h
    obtain ⟨rfl, e2, e3⟩ := hC
    exact ⟨none, 0, 0, rfl, by omega, by simp [e2], by simp [e2, e3], by simp [e3], by simp [e2, e3]; exact .snil⟩
  | emp A =>
    simp only [aslice, Option.some.injEq, Prod.mk.injEq] at h
    obtain ⟨rfl, rfl⟩ := h
    obtain ⟨rfl, e2, e3⟩ := hC
    exact ⟨A, 0, 0, rfl, by omega, by simp [e2], by simp [e2, e3], by simp [e3], by simp [e2, e3]; exact .emp _⟩
  | efro sz' cap A =>
    cases mx with
    | none => simp [aslice] at h
    | some m =>
      simp only [aslice, Option.some.injEq, Prod.mk.injEq] at h
      obtain ⟨rfl, rfl⟩ := h
      obtain ⟨rfl, e2, rfl⟩ := hC
      exact ⟨some A, 0, cap, rfl, by omega, by simp [e2], by simp [e2], by simp, by simp [e2]; exact .emp _⟩
  | _ => simp [aslice] at h

include hT in
theorem ok_slice (ty e : TypeId) (x : Operand) (lo hi mx : Option Operand) (ti : TI) (l : Int) (h m : Option Int) (C : Prop) (r : AV) (ho : o.op = .slice ty x lo hi mx) (hk : kindOf T ty = some (.slice e)) (ht : T e = some ti)
    (hl : loOf t lo = some l) (hh : hi.map (fun o => asNat (ev t o)) = h.map some) (hm : mx.map (fun o => asNat (ev t o)) = m.map some) (hhm : m ≠ none → h ≠ none)
    (hr : aslice (ev t x) l h m = some (C, r)) (hC : C) (hs : ti.size = szv (ev t x) ∨ l = 0) : OK P o t H r H :=
  .of_val fun ρ F w a rl tr => by
    obtain ⟨A, len, cap, hu, h0, h1, h2, h3, hv⟩ := aslice_ok (ev_ok tr x) hr hC ti.size hs
    have hun := hT.slice hk
    have hint : ∀ (y : Operand) (n : Int), asNat (ev t y) = some n → ∃ k, a.eval y = .int k n := fun y n hy => by
      have hy' := ev_ok tr y
      cases he : ev t y <;> rw [he] at hy <;> simp [asNat] at hy
      rw [he] at hy'
      subst hy
      exact ⟨_, vr_int hy'⟩
    have hb : (Instr.sliceBounds true len cap (lo.map a.eval) (hi.map a.eval) (mx.map a.eval)).run P w = .ok (l.toNat, (h.getD len).toNat, (m.getD cap).toNat) w := by
      have hM : (mx = none ∧ m = none) ∨ ∃ y k n, mx = some y ∧ m = some n ∧ a.eval y = .int k n := by
        cases mx with
        | none => cases m <;> simp at hm ⊢
        | some y =>
          cases m with
          | none => simp at hm
          | some m => simp at hm; obtain ⟨k, hk⟩ := hint y m hm; exact .inr ⟨y, k, m, rfl, rfl, hk⟩
      have hH : (hi = none ∧ h = none) ∨ ∃ y k n, hi = some y ∧ h = some n ∧ a.eval y = .int k n := by
        cases hi with
        | none => cases h <;> simp at hh ⊢
        | some y =>
          cases h with
          | none => simp at hh
          | some h => simp at hh; obtain ⟨k, hk⟩ := hint y h hh; exact .inr ⟨y, k, h, rfl, rfl, hk⟩
      have hL : (lo = none ∧ l = 0) ∨ ∃ y k, lo = some y ∧ a.eval y = .int k l := by
        cases lo with
        | none => simp [loOf] at hl; exact .inl ⟨rfl, hl.symm⟩
        | some y => simp [loOf] at hl; obtain ⟨k, hk⟩ := hint y l hl; exact .inr ⟨y, k, rfl, hk⟩
      rcases hM with ⟨rfl, rfl⟩ | ⟨ym, km, m, rfl, rfl, em⟩ <;> rcases hH with ⟨rfl, rfl⟩ | ⟨yh, kh, h, rfl, rfl, eh⟩ <;> rcases hL with ⟨rfl, rfl⟩ | ⟨yl, kl, rfl, el⟩ <;> simp only [Option.getD_none, Option.getD_some, Int.toNat_natCast] at h1 h2 h3 ⊢
      · simp [Instr.sliceBounds]
      · simp [Instr.sliceBounds, el, Instr.sliceBound, asIntOf, h0, h1]
      · simp [Instr.sliceBounds, eh, Instr.sliceBound, asIntOf, h1, h2]
      · have q : 0 ≤ h := by omega
        have q2 : ((h.toNat : Nat) : Int) = h := by omega
        simp [Instr.sliceBounds, eh, el, Instr.sliceBound, asIntOf, h0, h1, h2, q, q2]
      · exact absurd rfl (hhm (by simp))
      · exact absurd rfl (hhm (by simp))
      · have q : 0 ≤ h := by omega
        have q1 : 0 ≤ m := by omega
        have q2 : ((m.toNat : Nat) : Int) = m := by omega
        simp [Instr.sliceBounds, eh, em, Instr.sliceBound, asIntOf, h1, h2, h3, q, q1, q2]
      · have q : 0 ≤ h := by omega
        have q1 : 0 ≤ m := by omega
        have q2 : ((m.toNat : Nat) : Int) = m := by omega
        have q3 : ((h.toNat : Nat) : Int) = h := by omega
        simp [Instr.sliceBounds, eh, em, el, Instr.sliceBound, asIntOf, h0, h1, h2, h3, q, q1, q2, q3]
    have := run_slices (P := P) hun ti.size (run_size hT ht w) A len cap _ _ _ _ _ _ hb
    exact ⟨_, by simp [execOp, ho, hu, this], hv⟩
end ops
end Go.Proofs.Ytkecenijjdpfdaa.AL
