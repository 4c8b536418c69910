/-
  All operations that call no function, together; no conditions beyond each lemma's own.
-/
import Derived.Test.YtkecenijjdpfdaaAL10
namespace Go.Proofs.Ytkecenijjdpfdaa.AL
open Go
set_option linter.unusedVariables false
set_option linter.unusedSimpArgs false

theorem szOk_idx {s : AV} {n k : Nat} (h : szOk s n = true) (hk : lenOf s = some k) (hp : 0 < k) : n = szv s := by
  cases s <;> simp [szOk] at h <;> simp [lenOf] at hk <;> simp [szv] <;> omega
theorem szOk_cut {s r : AV} {n : Nat} {lo : Int} {hi mx : Option Int} {C : Prop} (h : szOk s n = true) (ha : aslice s lo hi mx = some (C, r)) (hC : C) : n = szv s ∨ lo = 0 := by
  cases s <;> simp only [szOk, beq_iff_eq, Bool.false_eq_true] at h
  case own => left; exact h.symm
  case fro => left; exact h.symm
  case snil => simp only [aslice, Option.some.injEq, Prod.mk.injEq] at ha; obtain ⟨rfl, _⟩ := ha; exact .inr hC.1
  case emp => simp only [aslice, Option.some.injEq, Prod.mk.injEq] at ha; obtain ⟨rfl, _⟩ := ha; exact .inr hC.1
  case efro => cases mx <;> simp only [aslice, Option.some.injEq, Prod.mk.injEq, reduceCtorEq] at ha; obtain ⟨rfl, _⟩ := ha; exact .inr hC.1

section ops
variable {P : Program} {T : Tab} (hT : TOk P T) {t : List AV} {H : Heap} {o : Oper}

include hT in
theorem ok_builtin (b : Builtin) (args : Array Operand) (ts : Array TypeId) (ho : o.op = .call { callee := .builtin b, args, argTypes := ts }) (C : Prop) (v : AV) (H' : Heap) (h : abuiltin T b ts.toList (args.toList.map (ev t)) H = some (C, v, H')) (hC : C) : OK P o t H v H' := by
  have pure : ∀ c u, abPure T b ts.toList (args.toList.map (ev t)) = some (c, u) → c → OK P o t H u H := by
    intro c u h hc
    unfold abPure at h
    split at h
    · split at h
      · rename_i hk hn
        cases h
        exact ok_len hT args ts _ _ _ _ ho ‹_› ‹_› hk hn
      · cases h
    · cases h
      obtain rfl := hc
      exact ok_min args ts _ _ _ ho ‹_›
    · cases h
      obtain rfl := hc
      exact ok_max args ts _ _ _ ho ‹_›
    · cases h
  unfold abuiltin at h
  split at h
  iterate 3
    · simp only [Option.map_eq_some_iff] at h
      obtain ⟨⟨c, u⟩, h1, h2⟩ := h
      simp only [Prod.mk.injEq] at h2
      obtain ⟨rfl, rfl, rfl⟩ := h2
      exact pure _ _ h1 hC
  clear pure
  unfold abMem at h
  split at h
  · -- append
    split at h
    · rename_i hk hr
      split at h
      · cases h
      · rename_i ti hti
        split at h
        · rename_i htt
          subst htt
          split at h
          · rename_i id sz off len lc
            split at h
            · rename_i sz' rows hid
              split at h
              · rename_i hl
                subst hl
                cases h
                obtain ⟨rfl, rfl, rfl, h0, h1, h2, h3, h4⟩ := hC
                exact ok_append_own hT args ts _ _ ti _ _ _ _ _ _ ho ‹_› ‹_› hk hti hr hid rfl h0 h1 h2 h3 h4
              · rename_i hl
                cases h
                obtain ⟨rfl, rfl, h1, h2, h3⟩ := hC
                exact ok_append_in hT args ts _ _ ti _ _ _ _ _ _ _ _ ho ‹_› ‹_› hk hti hr hid rfl hl h1 h2 h3
            · cases h
          · cases h
            obtain ⟨h0, h1, h2, h3⟩ := hC
            exact ok_append_nil hT args ts _ _ ti _ _ _ ho ‹_› ‹_› hk hti (.inl rfl) hr h0 h1 h2 h3
          · cases h
            obtain ⟨h0, h1, h2, h3⟩ := hC
            exact ok_append_nil hT args ts _ _ ti _ _ _ ho ‹_› ‹_› hk hti (.inr rfl) hr h0 h1 h2 h3
          · cases h
        · cases h
    · cases h
  · -- copy
    split at h
    · rename_i hk hr hid
      split at h
      · cases h
      · rename_i ti hti
        cases h
        obtain ⟨rfl, rfl, h1, h2⟩ := hC
        exact ok_copy hT args ts _ _ _ ti _ _ _ _ _ _ _ _ ho ‹_› ‹_› hk hti hr hid rfl h1 h2
    · cases h
  · -- clear
    split at h
    · rename_i hk hid
      split at h
      · cases h
      · rename_i ti hti
        cases h
        obtain ⟨rfl, rfl, h1⟩ := hC
        exact ok_clear hT args ts _ _ ti _ _ _ _ _ _ ho ‹_› ‹_› hk hti hid rfl h1
    · cases h
  · cases h

include hT in
theorem ok_aop (C : Prop) (v : AV) (H' : Heap) (h : aop T o.op t H = some (C, v, H')) (hC : C) : OK P o t H v H' := by
  cases ho : o.op <;> rw [ho] at h <;> simp only [aop, reduceCtorEq] at h
  case move x => cases h; exact ok_move x (.inl ho)
  case assign x => cases h; exact ok_move x (.inr ho)
  case pick c x y =>
    split at h
    · cases h; exact ok_pick c x y _ ho ‹_›
    · cases h
  case alloc ty =>
    split at h
    · cases h; exact ok_alloc hT ty _ ho ‹_›
    · cases h
  case box ty x => cases h; exact ok_box ty x ho hC
  case build ty ps =>
    split at h
    · rename_i ti hti
      split at h
      · rename_i flds hk
        split at h
        · rename_i c cells hl
          cases h
          exact ok_build hT ty ps ti flds _ _ ho hti hk hl hC
        · cases h
      · cases h
    · cases h
  case buildSlice ty n ps =>
    split at h
    · rename_i e hk
      split at h
      · rename_i ti hti
        split at h
        · rename_i c rows hl
          cases h
          exact ok_buildSlice hT ty e n ps ti _ _ ho hk hti hl hC.1 hC.2
        · cases h
      · cases h
    · cases h
  case load ty p =>
    split at h
    · rename_i ti hti
      split at h
      · rename_i cs hr
        cases h
        exact ok_load hT ty p ti cs ho hti hr hC.1 hC.2
      · cases h
    · cases h
  case store ty p x =>
    split at h
    · rename_i ti hti
      split at h
      · rename_i c H1 hw
        cases h
        exact ok_store hT ty p x ti _ _ ho hti hw hC.1.1 hC.1.2 hC.2
      · cases h
    · cases h
  case nilCheck x =>
    split at h
    · rename_i id c he; cases h; rw [← he]; exact ok_nilCheck x ho (.inl ⟨_, _, he⟩)
    · rename_i s i c he; cases h; rw [← he]; exact ok_nilCheck x ho (.inr (.inl ⟨_, _, _, he⟩))
    · rename_i f l he; cases h; rw [← he]; exact ok_nilCheck x ho (.inr (.inr ⟨_, _, he⟩))
    · cases h
  case binOp op ty x y yt =>
    simp only [Option.map_eq_some_iff] at h
    obtain ⟨⟨c, r⟩, h1, h2⟩ := h
    cases h2
    exact ok_binOp hT op ty x y yt _ _ ho h1 hC
  case unOp op ty x =>
    split at h
    · cases h; exact (ok_unOp _ _ _ ho).1 _ rfl ‹_›
    · cases h; exact (ok_unOp _ _ _ ho).2 _ _ rfl ‹_›
    · cases h
  case convert src dst x =>
    split at h
    · cases h; exact ok_convert hT _ _ _ _ _ _ _ ho ‹_› ‹_› ‹_›
    · cases h
  case makeFunc fn first caps =>
    cases fn <;> simp only [aop, reduceCtorEq] at h
    cases h
    exact ok_makeFunc _ _ _ ho hC
  case makeSlice ty l c =>
    split at h
    · split at h
      · cases h
        exact ok_makeSlice hT _ _ _ _ _ _ _ _ _ ho ‹_› ‹_› ‹_› ‹_› hC.1 hC.2.1 hC.2.2.1 hC.2.2.2
      · cases h
    · cases h
  case slice ty x lo hi mx =>
    split at h
    · rename_i hk hl hh hm
      split at h
      · simp only [Option.map_eq_some_iff] at h
        obtain ⟨⟨c, r⟩, h1, h2⟩ := h
        cases h2
        exact ok_slice hT ty _ x lo hi mx _ _ none none _ _ ho hk ‹_› hl (by rw [hh]; rfl) (by rw [hm]; rfl) (by simp) h1 hC.1 (szOk_cut hC.2 h1 hC.1)
      · cases h
    · rename_i hk hl hh hm
      split at h
      · simp only [Option.map_eq_some_iff] at h
        obtain ⟨⟨c, r⟩, h1, h2⟩ := h
        cases h2
        exact ok_slice hT ty _ x lo hi mx _ _ (some _) none _ _ ho hk ‹_› hl (by rw [hh]; rfl) (by rw [hm]; rfl) (by simp) h1 hC.1 (szOk_cut hC.2 h1 hC.1)
      · cases h
    · rename_i hk hl hh hm
      split at h
      · simp only [Option.map_eq_some_iff] at h
        obtain ⟨⟨c, r⟩, h1, h2⟩ := h
        cases h2
        exact ok_slice hT ty _ x lo hi mx _ _ (some _) (some _) _ _ ho hk ‹_› hl (by rw [hh]; rfl) (by rw [hm]; rfl) (by simp) h1 hC.1 (szOk_cut hC.2 h1 hC.1)
      · cases h
    · cases h
  case fieldAddr s p f =>
    split at h
    · rename_i flds hk
      split at h
      · rename_i hf hp; cases h; exact (ok_fieldAddr _ _ _ _ _ _ ho hk hf hC hT).1 _ _ hp
      · rename_i hf hp; cases h; exact (ok_fieldAddr _ _ _ _ _ _ ho hk hf hC hT).2 _ _ _ hp
      · cases h
    · cases h
  case field s x f =>
    split at h
    · rename_i hk hx
      split at h
      · rename_i hf
        split at h
        · cases h; exact ok_field hT _ _ _ _ _ _ _ _ ho hk hx hf ‹_› hC.1 hC.2
        · cases h
      · cases h
    · cases h
  case indexAddr ty x ix =>
    split at h
    · rename_i hk hi hn
      split at h
      · cases h; exact ok_indexAddr hT _ _ _ _ _ _ _ _ ho hk hi hn hC.1.1 hC.1.2 ‹_› (szOk_idx hC.2 hn (by omega))
      · cases h
    · cases h
  case extract x i =>
    split at h
    · split at h
      · cases h; exact ok_extract _ _ _ _ ho ‹_› ‹_›
      · cases h
    · cases h
  case call c =>
    obtain ⟨callee, args, ts⟩ := c
    cases callee <;> simp only [reduceCtorEq] at h
    exact ok_builtin hT _ _ _ ho _ _ _ h hC
end ops
end Go.Proofs.Ytkecenijjdpfdaa.AL
