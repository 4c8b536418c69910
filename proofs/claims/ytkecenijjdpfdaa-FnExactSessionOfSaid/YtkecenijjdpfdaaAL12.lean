/-
  Calls and code over abstract values and blocks; regions whose order is given; no conditions beyond each lemma's own.
-/
import Derived.Test.YtkecenijjdpfdaaAL11
namespace Go.Proofs.Ytkecenijjdpfdaa.AL
open Go
set_option linter.unusedVariables false
set_option linter.unusedSimpArgs false

/-- A function of the program that has a body. -/
def fnOk (P : Program) (f : FuncId) : Bool :=
  match P.funcs[f]? with
  | some fn => !(fn.name == "runtime.NumGoroutine") && fn.body.isSome
  | none => false

/-- A call comes to a value for v, and a memory for H'. -/
def ADet (P : Program) (f : FuncId) (args : List AV) (H : Heap) (v : AV) (H' : Heap) : Prop :=
  fnOk P f = true ∧ ∀ ρ F w (cargs : List Value), Rel ρ F H w → Fresh ρ H → VRs ρ F w args cargs →
    Calls P f cargs.toArray w fun e w' => ∃ u ρ' F', e = .returned u ∧ VR ρ' F' w' v u ∧ Rel ρ' F' H' w' ∧ Fresh ρ' H' ∧ Ext ρ F H w ρ' F' H' w'

/-- An entry of the library that the model answers itself: it comes to a value for v and changes nothing. -/
def XDet (P : Program) (f : FuncId) (args : List AV) (H : Heap) (v : AV) : Prop :=
  (∃ fn, P.funcs[f]? = some fn) ∧ ∀ ρ F w (cargs : List Value), Rel ρ F H w → Fresh ρ H → VRs ρ F w args cargs → ∃ u, (callFunc f cargs.toArray).run P w = .ok (.value u) w ∧ VR ρ F w v u
def CDet (P : Program) (f : FuncId) (args : List AV) (H : Heap) (v : AV) (H' : Heap) : Prop := ADet P f args H v H' ∨ (XDet P f args H v ∧ H' = H)

section
variable {P : Program} {T : Tab} (hT : TOk P T)

theorem ok_xcall {t : List AV} {H : Heap} {o : Oper} {v : AV} (fo : Operand) (args : Array Operand) (ts : Array TypeId) (f : FuncId) (caps : List AV) (ho : o.op = .call { callee := .value fo, args, argTypes := ts }) (hf : ev t fo = .func f caps)
    (h : XDet P f (args.toList.map (ev t) ++ caps) H v) : OK P o t H v H := by
  intro ρ F w a next Q r fr tr k
  have hfo := ev_ok tr fo
  rw [hf] at hfo
  obtain ⟨us, hu, hv⟩ := vr_func hfo
  obtain ⟨⟨fn, hfs⟩, hcall⟩ := h
  have hargs := (vrs_map tr args.toList).append hv
  obtain ⟨u, h1, h2⟩ := hcall ρ F w _ r fr hargs
  have e : (args.toList.map a.eval ++ us).toArray = args.map a.eval ++ us.toArray := by rw [← List.append_toArray, ← List.map_toArray]
  rw [e] at h1
  have hrun : (execOp a.eval o).run P w = .ok (.value u) w := by
    simp [execOp, ho, resolve, Deferred.ofValue, hu, invoke, h1]
  unfold Oper.wp
  rw [hrun, Oper.upon_value]
  exact k u w ρ F h2 r fr .refl

theorem ok_call {t : List AV} {H H' : Heap} {o : Oper} {v : AV} (fo : Operand) (args : Array Operand) (ts : Array TypeId) (f : FuncId) (caps : List AV) (ho : o.op = .call { callee := .value fo, args, argTypes := ts }) (hf : ev t fo = .func f caps)
    (h : ADet P f (args.toList.map (ev t) ++ caps) H v H') : OK P o t H v H' := by
  intro ρ F w a next Q r fr tr k
  have hfo := ev_ok tr fo
  rw [hf] at hfo
  obtain ⟨us, hu, hv⟩ := vr_func hfo
  obtain ⟨hfn, hcall⟩ := h
  unfold fnOk at hfn
  cases hfs : P.funcs[f]? with
  | none => rw [hfs] at hfn; cases hfn
  | some fn =>
    rw [hfs] at hfn
    simp only [Bool.and_eq_true, Bool.not_eq_true'] at hfn
    obtain ⟨hname, hbody⟩ := hfn
    have hbn : fn.body.isNone = false := by cases hb : fn.body <;> simp_all
    have hrun : (execOp a.eval o).run P w = .ok (.enter f (args.map a.eval ++ us.toArray)) w := by
      have hname' : fn.name ≠ "runtime.NumGoroutine" := by simpa using hname
      have hb' : fn.body ≠ none := by rintro e; rw [e] at hbn; cases hbn
      simp [execOp, ho, resolve, Deferred.ofValue, hu, invoke, callFunc, hfs, hname', hb']
    unfold Oper.wp
    rw [hrun, Oper.upon_enter]
    have hargs := (vrs_map tr args.toList).append hv
    have := hcall ρ F w _ r fr hargs
    have e : (args.toList.map a.eval ++ us).toArray = args.map a.eval ++ us.toArray := by rw [← List.append_toArray, ← List.map_toArray]
    rw [e] at this
    refine this.mono fun e w' ⟨u, ρ', F', he, h1, h2, h3, h4⟩ => ?_
    subst he
    exact k u w' ρ' F' h1 h2 h3 h4

/-- What an operation leads to. -/
def vcOp (P : Program) (T : Tab) (op : Op) (t : List AV) (H : Heap) (K : AV → Heap → Prop) : Prop :=
  match op with
  | .call { callee := .value fo, args, argTypes } =>
    match ev t fo with
    | .func f caps => ∃ v H', CDet P f (args.toList.map (ev t) ++ caps) H v H' ∧ K v H'
    | _ => False
  | op =>
    match aop T op t H with
    | some (C, v, H') => C ∧ K v H'
    | none => False

include hT in
theorem vcOp_ok {o : Oper} {t : List AV} {H : Heap} {K : AV → Heap → Prop} (h : vcOp P T o.op t H K) : ∃ v H', OK P o t H v H' ∧ K v H' := by
  unfold vcOp at h
  split at h
  · rename_i fo args ts ho
    split at h
    · rename_i f caps hf
      obtain ⟨v, H', h1, h2⟩ := h
      rcases h1 with h1 | ⟨h1, rfl⟩
      · exact ⟨v, H', ok_call fo args ts f caps ho hf h1, h2⟩
      · exact ⟨v, _, ok_xcall fo args ts f caps ho hf h1, h2⟩
    · cases h
  · split at h
    · rename_i C v H' ha
      exact ⟨v, H', ok_aop hT C v H' ha h.1, h.2⟩
    · cases h

theorem vcOp_mono {op : Op} {t : List AV} {H : Heap} {K K' : AV → Heap → Prop} (hk : ∀ v H, K v H → K' v H) (h : vcOp P T op t H K) : vcOp P T op t H K' := by
  revert h
  unfold vcOp
  split
  · split
    · rintro ⟨v, H', h1, h2⟩; exact ⟨v, H', h1, hk _ _ h2⟩
    · exact id
  · split
    · exact fun h => ⟨h.1, hk _ _ h.2⟩
    · exact id

inductive AX where
  | normal
  | ret
  | exit (id : Nat)

def AX.to : AX → Exit
  | .normal => .normal
  | .ret => .ret
  | .exit id => .exit id

/-- Where code comes out. -/
def Post (Q : AX → List AV → Heap → Prop) (ρ : Ren) (F : Nat → Prop) (H : Heap) (w : World) (e : Exit) (a' : Act) (w' : World) : Prop :=
  ∃ x t' H' ρ' F', e = AX.to x ∧ Q x t' H' ∧ Rel ρ' F' H' w' ∧ Fresh ρ' H' ∧ TR ρ' F' w' t' a'.tmps ∧ a'.defers = [] ∧ Ext ρ F H w ρ' F' H' w'

def AWp (P : Program) (c : Code) (Q : AX → List AV → Heap → Prop) (t : List AV) (H : Heap) : Prop :=
  ∀ ρ F w (a : Act), Rel ρ F H w → Fresh ρ H → TR ρ F w t a.tmps → a.defers = [] → c.wp P (Post Q ρ F H w) a w

theorem AWp.mono {c : Code} {Q Q' : AX → List AV → Heap → Prop} {t : List AV} {H : Heap} (h : AWp P c Q t H) (hq : ∀ x t H, Q x t H → Q' x t H) : AWp P c Q' t H :=
  fun ρ F w a r f tr hd => wp_mono (h ρ F w a r f tr hd) fun e a' w' ⟨x, t', H', ρ', F', h1, h2, h3⟩ => ⟨x, t', H', ρ', F', h1, hq _ _ _ h2, h3⟩

def thenQ (K : List AV → Heap → Prop) (Q : AX → List AV → Heap → Prop) : AX → List AV → Heap → Prop
  | .normal, t, H => K t H
  | x, t, H => Q x t H

def inBlockQ (id : Nat) (Q : AX → List AV → Heap → Prop) : AX → List AV → Heap → Prop
  | .exit id', t, H => if id' = id then Q .normal t H else Q (.exit id') t H
  | x, t, H => Q x t H

theorem Post.trans {Q : AX → List AV → Heap → Prop} {ρ ρ1 : Ren} {F F1 : Nat → Prop} {H H1 : Heap} {w w1 : World} (e : Ext ρ F H w ρ1 F1 H1 w1) {x : Exit} {a : Act} {w' : World} (h : Post Q ρ1 F1 H1 w1 x a w') : Post Q ρ F H w x a w' := by
  obtain ⟨y, t', H', ρ', F', h1, h2, h3, h4, h5, h6, h7⟩ := h
  exact ⟨y, t', H', ρ', F', h1, h2, h3, h4, h5, h6, e.trans h7⟩

theorem awp_skip {Q : AX → List AV → Heap → Prop} {t : List AV} {H : Heap} (h : Q .normal t H) : AWp P .skip Q t H :=
  fun ρ F w a r f tr hd => wp_skip ⟨.normal, t, H, ρ, F, rfl, h, r, f, tr, hd, .refl⟩
theorem awp_exit {id : Nat} {Q : AX → List AV → Heap → Prop} {t : List AV} {H : Heap} (h : Q (.exit id) t H) : AWp P (.exit id) Q t H :=
  fun ρ F w a r f tr hd => wp_exit ⟨.exit id, t, H, ρ, F, rfl, h, r, f, tr, hd, .refl⟩
theorem awp_ret {Q : AX → List AV → Heap → Prop} {t : List AV} {H : Heap} (h : Q .ret t H) : AWp P .ret Q t H :=
  fun ρ F w a r f tr hd => wp_ret ⟨.ret, t, H, ρ, F, rfl, h, r, f, tr, hd, .refl⟩

theorem awp_seq {x y : Code} {Q : AX → List AV → Heap → Prop} {t : List AV} {H : Heap} (h : AWp P x (thenQ (fun t H => AWp P y Q t H) Q) t H) : AWp P (.seq x y) Q t H := by
  intro ρ F w a r f tr hd
  refine wp_seq (wp_mono (h ρ F w a r f tr hd) fun e a' w' hp => ?_)
  obtain ⟨z, t', H', ρ', F', rfl, h2, h3, h4, h5, h6, h7⟩ := hp
  cases z with
  | normal => exact wp_mono (h2 ρ' F' w' a' h3 h4 h5 h6) fun e a w hp => Post.trans h7 hp
  | ret => exact ⟨.ret, t', H', ρ', F', rfl, h2, h3, h4, h5, h6, h7⟩
  | exit id => exact ⟨.exit id, t', H', ρ', F', rfl, h2, h3, h4, h5, h6, h7⟩

theorem awp_block {id : Nat} {c : Code} {Q : AX → List AV → Heap → Prop} {t : List AV} {H : Heap} (h : AWp P c (inBlockQ id Q) t H) : AWp P (.block id c) Q t H := by
  intro ρ F w a r f tr hd
  refine wp_block (wp_mono (h ρ F w a r f tr hd) fun e a' w' hp => ?_)
  obtain ⟨z, t', H', ρ', F', rfl, h2, h3⟩ := hp
  cases z with
  | normal => exact ⟨.normal, t', H', ρ', F', rfl, h2, h3⟩
  | ret => exact ⟨.ret, t', H', ρ', F', rfl, h2, h3⟩
  | exit id' =>
    simp only [inBlockQ] at h2
    simp only [AX.to, Exit.inBlock]
    split at h2
    · rename_i e; rw [if_pos e]; exact ⟨.normal, t', H', ρ', F', rfl, h2, h3⟩
    · rename_i e; rw [if_neg e]; exact ⟨.exit id', t', H', ρ', F', rfl, h2, h3⟩

theorem awp_cond {c : Operand} {x y : Code} {Q : AX → List AV → Heap → Prop} {t : List AV} {H : Heap} {b : Bool} (hc : ev t c = .bool b) (h1 : b = true → AWp P x Q t H) (h2 : b = false → AWp P y Q t H) : AWp P (.cond c x y) Q t H := by
  intro ρ F w a r f tr hd
  have hv := ev_ok tr c
  rw [hc] at hv
  cases b with
  | true => exact wp_cond_true (vr_bool hv) (h1 rfl ρ F w a r f tr hd)
  | false => exact wp_cond_false (vr_bool hv) (h2 rfl ρ F w a r f tr hd)

def putA (t : List AV) : Option Tmp → AV → List AV
  | some d, v => t.set d v
  | none, _ => t

theorem TR.putA {ρ : Ren} {F : Nat → Prop} {w : World} {t : List AV} {a : Act} (h : TR ρ F w t a.tmps) (dst : Option Tmp) {x : AV} {u : Value} (hx : VR ρ F w x u) : TR ρ F w (AL.putA t dst x) (a.put dst u).tmps := by
  cases dst with
  | none => exact h
  | some d => exact h.put d hx

theorem put_defers (a : Act) (dst : Option Tmp) (u : Value) : (a.put dst u).defers = a.defers := by cases dst <;> rfl

/-- The slot of a guard. -/
def gslot (ops : Array Oper) (j : Nat) : Option Tmp := (ops[j]?).bind (·.dst)

/-- What a slot holds that was passed by. -/
abbrev undA : AV := .tup []
theorem vr_und {ρ : Ren} {F : Nat → Prop} {w : World} : VR ρ F w undA undef := .tup [] [] rfl fun i x u h => by simp at h

/-- One behind the other. -/
def vcOps (P : Program) (T : Tab) (ops : Array Oper) : List Oper → List AV → Heap → (List AV → Heap → Prop) → Prop
  | [], t, H, K => K t H
  | o :: rest, t, H, K =>
    match o.guard with
    | none => vcOp P T o.op t H fun v H' => vcOps P T ops rest (putA t o.dst v) H' K
    | some (j, want) =>
      match gslot ops j with
      | some d =>
        match t.getD d .any with
        | .bool b => (b = want → vcOp P T o.op (t.set d (.bool want)) H fun v H' => vcOps P T ops rest (putA (t.set d (.bool want)) o.dst v) H' K) ∧ (b = !want → vcOps P T ops rest (putA (t.set d (.bool (!want))) o.dst undA) H K)
        | .tup [] => vcOps P T ops rest (putA t o.dst undA) H K
        | _ => False
      | none => False

theorem set_same {t : List AV} {d : Nat} {x : AV} (h : t.getD d .any = x) (hx : x ≠ .any) : t.set d x = t := by
  rw [List.getD_eq_getElem?_getD] at h
  apply List.ext_getElem?
  intro i
  by_cases hi : d = i
  · subst hi
    rcases Nat.lt_or_ge d t.length with hl | hl
    · rw [List.getElem?_set_self hl]
      rw [List.getElem?_eq_getElem hl] at h ⊢
      simp at h
      rw [h]
    · rw [List.getElem?_eq_none hl] at h
      exact absurd h.symm hx
  · rw [List.getElem?_set_ne hi]

theorem yielded_ok {ρ : Ren} {F : Nat → Prop} {w : World} {t : List AV} {a : Act} (tr : TR ρ F w t a.tmps) {ops : Array Oper} {j d : Nat} {b : Bool} (hg : gslot ops j = some d) (hb : t.getD d .any = .bool b) : yielded ops a.tmps j = some b := by
  rw [List.getD_eq_getElem?_getD] at hb
  have hl : d < t.length := by
    rcases Nat.lt_or_ge d t.length with hl | hl
    · exact hl
    · rw [List.getElem?_eq_none hl] at hb; cases hb
  have hl' : d < a.tmps.size := by rw [← tr.1]; exact hl
  rw [List.getElem?_eq_getElem hl] at hb
  simp at hb
  have := tr.2 d _ _ (List.getElem?_eq_getElem hl) (Array.getElem?_eq_getElem hl')
  rw [hb] at this
  have hv := vr_bool this
  unfold yielded
  unfold gslot at hg
  rw [hg]
  simp [hl', hv]

theorem yielded_und {ρ : Ren} {F : Nat → Prop} {w : World} {t : List AV} {a : Act} (tr : TR ρ F w t a.tmps) {ops : Array Oper} {j d : Nat} (hg : gslot ops j = some d) (hb : t.getD d .any = undA) : yielded ops a.tmps j = none := by
  rw [List.getD_eq_getElem?_getD] at hb
  have hl : d < t.length := by
    rcases Nat.lt_or_ge d t.length with hl | hl
    · exact hl
    · rw [List.getElem?_eq_none hl] at hb; cases hb
  have hl' : d < a.tmps.size := by rw [← tr.1]; exact hl
  rw [List.getElem?_eq_getElem hl] at hb
  simp at hb
  have := tr.2 d _ _ (List.getElem?_eq_getElem hl) (Array.getElem?_eq_getElem hl')
  rw [hb] at this
  obtain ⟨us, hv, _⟩ := vr_tup this
  unfold yielded
  unfold gslot at hg
  rw [hg]
  simp [hl', hv]

include hT in
theorem vcOps_ok {ops : Array Oper} {Q : AX → List AV → Heap → Prop} : ∀ (l : List Oper) (t : List AV) (H : Heap), vcOps P T ops l t H (Q .normal) → ∀ ρ F w (a : Act), Rel ρ F H w → Fresh ρ H → TR ρ F w t a.tmps → a.defers = [] → wpList P ops (Post Q ρ F H w) l a w
  | [], t, H, h, ρ, F, w, a, r, f, tr, hd => ⟨.normal, t, H, ρ, F, rfl, h, r, f, tr, hd, .refl⟩
  | o :: rest, t, H, h, ρ, F, w, a, r, f, tr, hd => by
    unfold vcOps at h
    have step : ∀ t', TR ρ F w t' a.tmps → vcOp P T o.op t' H (fun v H' => vcOps P T ops rest (putA t' o.dst v) H' (Q .normal)) → o.wp P a w (wpList P ops (Post Q ρ F H w) rest) (Post Q ρ F H w) := by
      intro t' tr' h'
      obtain ⟨v, H', h1, h2⟩ := vcOp_ok hT h'
      refine h1 ρ F w a _ _ r f tr' fun u w' ρ' F' k1 k2 k3 k4 => ?_
      have := vcOps_ok rest _ _ h2 ρ' F' w' (a.put o.dst u) k2 k3 ((k4.tr r f tr').putA o.dst k1) (by rw [put_defers]; exact hd)
      exact wpList_mono_post this fun e a w h => Post.trans k4 h
    cases hg : o.guard with
    | none =>
      rw [hg] at h
      simp only at h
      exact wpList_plain hg fun K hK => Oper.wp_mono (fun a w h => hK a w h) (step t tr h)
    | some p =>
      obtain ⟨j, want⟩ := p
      rw [hg] at h
      simp only at h
      split at h
      · rename_i d hd'
        split at h
        · rename_i b hb
          have hy := yielded_ok tr hd' hb
          refine wpList_step fun K hK => ?_
          by_cases hbw : b = want
          · subst hbw
            rw [if_pos (by simp [Region.wanted, hg, hy])]
            have h1 := h.1 rfl
            rw [set_same hb (by simp)] at h1
            exact Oper.wp_mono (fun a w h => hK a w h) (step t tr h1)
          · rw [if_neg (by simp [Region.wanted, hg, hy]; exact hbw)]
            have hbn : b = !want := by cases b <;> cases want <;> simp_all
            have h2 := h.2 hbn
            rw [← hbn, set_same hb (by simp)] at h2
            exact hK _ _ (vcOps_ok rest _ _ h2 ρ F w (a.put o.dst undef) r f (tr.putA o.dst vr_und) (by rw [put_defers]; exact hd))
        · rename_i hb
          have hy := yielded_und tr hd' hb
          refine wpList_step fun K hK => ?_
          rw [if_neg (by simp [Region.wanted, hg, hy])]
          exact hK _ _ (vcOps_ok rest _ _ h ρ F w (a.put o.dst undef) r f (tr.putA o.dst vr_und) (by rw [put_defers]; exact hd))
        · cases h
      · cases h
where
  wpList_mono_post {ops : Array Oper} {Q Q' : Exit → Act → World → Prop} : ∀ {l : List Oper} {a : Act} {w : World}, wpList P ops Q l a w → (∀ e a w, Q e a w → Q' e a w) → wpList P ops Q' l a w := by
    intro l
    induction l with
    | nil => intro a w h hq; exact hq _ _ _ h
    | cons o l ih =>
      intro a w h hq
      unfold wpList at h ⊢
      split
      · rename_i hw
        rw [if_pos hw] at h
        rcases h with h | ⟨h1, a', w', h2⟩
        · left
          unfold Oper.wp at h ⊢
          generalize (execOp a.eval o).run P w = res at h ⊢
          cases res with
          | ok n w1 =>
            cases n <;> simp only [Oper.upon] at h ⊢ <;> first
              | exact ih h hq
              | exact Calls.mono h (fun e w2 he => by cases e <;> first | exact ih he hq | exact hq _ _ _ he | (obtain ⟨a', w', h'⟩ := he; exact ⟨a', w', hq _ _ _ h'⟩))
              | exact Rows.mono h (fun _ _ he => ih he hq)
              | exact h
          | halt x w1 => cases x <;> simp only [Oper.upon] at h ⊢ <;> first | exact hq _ _ _ h | exact h
        · exact .inr ⟨h1, a', w', hq _ _ _ h2⟩
      · rename_i hw
        rw [if_neg hw] at h
        exact ih h hq
end
end Go.Proofs.Ytkecenijjdpfdaa.AL
