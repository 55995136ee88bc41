/-
  Part of the abstract layer (P): values, stores and steps that stand for those of the model, and the proof that they do. It proves no statement by itself.
-/
import Derived.Test.YtmimfnjcnndhpaaGreatAbsO
import Derived.RangeFuncLeaves
import Derived.OrdersIn
import Derived.RangeFuncCalls
import Derived.Scope
import Derived.ScopeJumps
import Derived.Deep.LoopGhost
noncomputable section
namespace Abs
set_option linter.unusedVariables false
set_option linter.unusedSimpArgs false
set_option linter.unusedSectionVars false
open Go

structure AAct where
  tmps : T AVal
  n : Nat
  defers : List ADef

def AAct.ev (G : Nat → AVal) (a : AAct) : ARho
  | .tmp t => a.tmps.get t
  | .const v => some (absV v)
  | .global g => some (G g)
  | .func f => some (.func (.func f) [] [])

def AAct.put (a : AAct) (dst : Option Tmp) (x : Option AVal) : AAct :=
  match a with
  | ⟨t, n, ds⟩ => match dst with
    | some d => ⟨T.put 20 t d x, n, ds⟩
    | none => ⟨t, n, ds⟩

theorem AAct.put_eq (a : AAct) (dst : Option Tmp) (x : Option AVal) : a.put dst x = match dst with
    | some d => { a with tmps := T.put 20 a.tmps d x }
    | none => a := by
  cases a; cases dst <;> rfl

/-- May it be written? -/
def AAct.fits (a : AAct) (dst : Option Tmp) : Bool :=
  match dst with
  | some d => Nat.blt d a.n && Nat.blt a.n 1000000
  | none => true

inductive DefsRel (n : Nat) (ι : Inj) (H : Imm) : List ADef → List Deferred → Prop
  | nil : DefsRel n ι H [] []
  | cons (d : ADef) (d' : Deferred) (ds : List ADef) (ds' : List Deferred) (h : DefRel n ι H d d') (hs : DefsRel n ι H ds ds') : DefsRel n ι H (d :: ds) (d' :: ds')
  | mark (b : Nat) (ds : List ADef) (ds' : List Deferred) (h : b < n) (hs : DefsRel n ι H ds ds') : DefsRel n ι H (⟨.yield b, [], []⟩ :: ds) ({ target := .collected (ι b).blk, args := #[] } :: ds')

structure ActRel (n : Nat) (ι : Inj) (H : Imm) (a : AAct) (a' : Act) : Prop where
  size : a'.tmps.size = a.n
  tmps : ∀ t v, a.tmps.get t = some v → t < a.n ∧ VRel n ι H v (a'.tmps.getD t undef)
  defers : DefsRel n ι H a.defers a'.defers

section
variable {n n' : Nat} {ι ι' : Inj} {H H' : Imm}

theorem DefRel.ext (he : Ext n ι H n' ι' H') {d : ADef} {d' : Deferred} (h : DefRel n ι H d d') : DefRel n' ι' H' d d' := by
  obtain ⟨⟨c, h1, h2⟩, ⟨a, h3, h4⟩, h5⟩ := h
  exact ⟨⟨c, h1, h2.ext he⟩, ⟨a, h3, h4.ext he⟩, h5⟩
theorem DefsRel.ext (he : Ext n ι H n' ι' H') : ∀ {d : List ADef} {d' : List Deferred}, DefsRel n ι H d d' → DefsRel n' ι' H' d d'
  | _, _, .nil => .nil
  | _, _, .cons d d' ds ds' h hs => .cons d d' ds ds' (h.ext he) (hs.ext he)
  | _, _, .mark b ds ds' h hs => by rw [← he.inj b h]; exact .mark b ds ds' (Nat.lt_of_lt_of_le h he.next) (hs.ext he)
theorem ActRel.ext (he : Ext n ι H n' ι' H') {a : AAct} {a' : Act} (h : ActRel n ι H a a') : ActRel n' ι' H' a a' :=
  ⟨h.size, fun t v ht => ⟨(h.tmps t v ht).1, (h.tmps t v ht).2.ext he⟩, h.defers.ext he⟩

theorem ActRel.put {a : AAct} {a' : Act} (h : ActRel n ι H a a') {dst : Option Tmp} (hf : a.fits dst = true) {v : AVal} {v' : Value} (hv : VRel n ι H v v') :
    ActRel n ι H (a.put dst (some v)) (a'.put dst v') := by
  cases dst with
  | none => exact h
  | some d =>
    simp only [AAct.fits, Bool.and_eq_true, Nat.blt_eq] at hf
    refine ⟨by simp [Act.put, AAct.put_eq, h.size], ?_, h.defers⟩
    intro t x ht
    simp only [AAct.put_eq] at ht ⊢
    rw [T.get_put _ _ _ _ _ (by omega)] at ht
    simp only [Act.put]
    split at ht
    · rename_i e
      cases ht
      subst e
      refine ⟨hf.1, ?_⟩
      have : t < a'.tmps.size := by rw [h.size]; exact hf.1
      simp [this, hv]
    · rename_i e
      obtain ⟨h1, h2⟩ := h.tmps t x ht
      refine ⟨h1, ?_⟩
      have : (a'.tmps.setIfInBounds d v').getD t undef = a'.tmps.getD t undef := by
        simp [Array.getD_eq_getD_getElem?, Ne.symm e]
      rw [this]; exact h2

theorem ActRel.putN {a : AAct} {a' : Act} (h : ActRel n ι H a a') {dst : Option Tmp} (hf : a.fits dst = true) (v' : Value) : ActRel n ι H (a.put dst none) (a'.put dst v') := by
  cases dst with
  | none => exact h
  | some d =>
    simp only [AAct.fits, Bool.and_eq_true, Nat.blt_eq] at hf
    refine ⟨by simp [Act.put, AAct.put_eq, h.size], ?_, h.defers⟩
    intro t x ht
    simp only [AAct.put_eq] at ht ⊢
    rw [T.get_put _ _ _ _ _ (by omega)] at ht
    simp only [Act.put]
    split at ht
    · cases ht
    · rename_i e
      obtain ⟨h1, h2⟩ := h.tmps t x ht
      refine ⟨h1, ?_⟩
      have : (a'.tmps.setIfInBounds d v').getD t undef = a'.tmps.getD t undef := by
        simp [Array.getD_eq_getD_getElem?, Ne.symm e]
      rw [this]; exact h2

theorem ActRel.rho {E : Env} {σ : AStore} {w : World} (hR : Rel E ι H σ w) {a : AAct} {a' : Act} (h : ActRel σ.next ι H a a') : RhoRel σ.next ι H (a.ev E.G) a'.eval := by
  intro x v hx
  cases x with
  | tmp t => exact (h.tmps t v hx).2
  | const c => simp [AAct.ev] at hx; subst hx; exact absV_rel _ _ _ _
  | global g => simp [AAct.ev] at hx; subst hx; exact hR.glob g
  | func f =>
    simp [AAct.ev] at hx
    subst hx
    exact .func _ [] [] [] [] .nil .nil
end

/-! ### Calls and code, on abstract states -/

inductive AEnd where
  | ret (v : AVal)
  | pan (v : AVal)

inductive EndRel (n : Nat) (ι : Inj) (H : Imm) : AEnd → Ending → Prop
  | ret (v : AVal) (w : Value) (h : VRel n ι H v w) : EndRel n ι H (.ret v) (.returned w)
  | pan (v : AVal) (w : Value) (h : VRel n ι H v w) : EndRel n ι H (.pan v) (.panicked [{ v := w, recovered := false }])

/-- Whatever stands for it calls so. -/
def ACalls (E : Env) (f : FuncId) (args : List AVal) (σ : AStore) (R : AEnd → AStore → Prop) : Prop :=
  ∀ ι H w (args' : List Value), Rel E ι H σ w → LRel σ.next ι H args args' →
    Calls E.P f args'.toArray w fun e w' => ∃ ι' H' σ' ae, R ae σ' ∧ EndRel σ'.next ι' H' ae e ∧ Rel E ι' H' σ' w' ∧ Ext σ.next ι H σ'.next ι' H'

inductive AExit where
  | normal
  | exit (id : Nat)
  | goto (l : Nat)
  | ret
  | pan (v : AVal)

inductive ExitRel (n : Nat) (ι : Inj) (H : Imm) : AExit → Exit → Prop
  | normal : ExitRel n ι H .normal .normal
  | exit (id : Nat) : ExitRel n ι H (.exit id) (.exit id)
  | goto (l : Nat) : ExitRel n ι H (.goto l) (.goto l)
  | ret : ExitRel n ι H .ret .ret
  | pan (v : AVal) (w : Value) (h : VRel n ι H v w) : ExitRel n ι H (.pan v) (.panic [{ v := w, recovered := false }])

abbrev APred := AExit → AAct → AStore → Prop

def APost (E : Env) (n : Nat) (ι : Inj) (H : Imm) (Q : APred) : Exit → Act → World → Prop := fun e a' w' =>
  ∃ ι' H' σ' a ae, Q ae a σ' ∧ ExitRel σ'.next ι' H' ae e ∧ ActRel σ'.next ι' H' a a' ∧ Rel E ι' H' σ' w' ∧ Ext n ι H σ'.next ι' H'

/-- No fence but the round. -/
def FR (ι : Inj) (rd : Option Nat) : Fence := { Fence.wide with round := rd.map fun b => (ι b).blk }

def RdOk (rd : Option Nat) (n : Nat) : Prop := ∀ b, rd = some b → b < n

theorem FR_ext {n n' : Nat} {ι ι' : Inj} {H H' : Imm} (he : Ext n ι H n' ι' H') {rd : Option Nat} (hr : RdOk rd n) : FR ι' rd = FR ι rd := by
  cases rd with
  | none => rfl
  | some b => simp [FR, he.inj b (hr b rfl)]

theorem RdOk.ext {n n' : Nat} {ι ι' : Inj} {H H' : Imm} (he : Ext n ι H n' ι' H') {rd : Option Nat} (hr : RdOk rd n) : RdOk rd n' := fun b hb => Nat.lt_of_lt_of_le (hr b hb) he.next

theorem FR_none (ι : Inj) : FR ι none = Fence.wide := rfl

theorem callsIn_FR {ι : Inj} {rd : Option Nat} {n : Nat} {P : Program} {f : FuncId} {args : Array Value} {w : World} {R : Ending → World → Prop} (h : Calls P f args w R) : CallsIn (FR ι rd) n P f args w R := by
  have h' := (callsIn_wide (n := n)).2 h
  cases rd with
  | none => exact h'
  | some b => exact CallsIn.inRound _ h'

def AWp (E : Env) (c : Code) (Q : APred) (a : AAct) (σ : AStore) : Prop :=
  ∀ ι H w a', Rel E ι H σ w → ActRel σ.next ι H a a' → RdOk E.rd σ.next → c.wpIn (FR ι E.rd) 0 E.P (APost E σ.next ι H Q) a' w

section
variable {E : Env} {Q Q' : APred} {a : AAct} {σ : AStore}

theorem APost.trans {n n1 : Nat} {ι ι1 : Inj} {H H1 : Imm} (he : Ext n ι H n1 ι1 H1) {e : Exit} {a' : Act} {w : World} (h : APost E n1 ι1 H1 Q e a' w) : APost E n ι H Q e a' w := by
  obtain ⟨ι', H', σ', a, ae, h1, h2, h3, h4, h5⟩ := h
  exact ⟨ι', H', σ', a, ae, h1, h2, h3, h4, he.trans h5⟩

theorem APost.mono {n : Nat} {ι : Inj} {H : Imm} (hq : ∀ e a σ, Q e a σ → Q' e a σ) {e : Exit} {a' : Act} {w : World} (h : APost E n ι H Q e a' w) : APost E n ι H Q' e a' w := by
  obtain ⟨ι', H', σ', a, ae, h1, h2⟩ := h
  exact ⟨ι', H', σ', a, ae, hq _ _ _ h1, h2⟩

theorem AWp.mono {c : Code} (h : AWp E c Q a σ) (hq : ∀ e a σ, Q e a σ → Q' e a σ) : AWp E c Q' a σ :=
  fun ι H w a' hR ha hr => wpIn_mono (h ι H w a' hR ha hr) fun _ _ _ => APost.mono hq

theorem ACalls.mono {f : FuncId} {args : List AVal} {R R' : AEnd → AStore → Prop} (h : ACalls E f args σ R) (hr : ∀ e σ, R e σ → R' e σ) : ACalls E f args σ R' :=
  fun ι H w args' hR ha => (h ι H w args' hR ha).mono fun _ _ ⟨ι', H', σ', ae, h1, h2⟩ => ⟨ι', H', σ', ae, hr _ _ h1, h2⟩

theorem apost_normal {n : Nat} {ι : Inj} {H : Imm} {a' : Act} {w : World} (hR : Rel E ι H σ w) (ha : ActRel σ.next ι H a a') {ae : AExit} {e : Exit} (hx : ExitRel σ.next ι H ae e)
    (hn : Ext n ι H σ.next ι H) (h : Q ae a σ) : APost E n ι H Q e a' w := ⟨ι, H, σ, a, ae, h, hx, ha, hR, hn⟩

theorem AWp.skip (h : Q .normal a σ) : AWp E .skip Q a σ := fun _ _ _ _ hR ha _ => wpIn_skip (apost_normal hR ha .normal (Ext.refl _ _ _) h)
theorem AWp.label {l : Nat} (h : Q .normal a σ) : AWp E (.label l) Q a σ := fun _ _ _ _ hR ha _ => wpIn_label (apost_normal hR ha .normal (Ext.refl _ _ _) h)
theorem AWp.exit {id : Nat} (h : Q (.exit id) a σ) : AWp E (.exit id) Q a σ := fun _ _ _ _ hR ha _ => wpIn_exit (apost_normal hR ha (.exit id) (Ext.refl _ _ _) h)
theorem AWp.goto {l : Nat} (h : Q (.goto l) a σ) : AWp E (.goto l) Q a σ := fun _ _ _ _ hR ha _ => wpIn_goto (apost_normal hR ha (.goto l) (Ext.refl _ _ _) h)
theorem AWp.ret (h : Q .ret a σ) : AWp E .ret Q a σ := fun _ _ _ _ hR ha _ => wpIn_ret (apost_normal hR ha .ret (Ext.refl _ _ _) h)

def AExit.then (next : AAct → AStore → Prop) (Q : APred) : APred
  | .normal, a, σ => next a σ
  | e, a, σ => Q e a σ

theorem AWp.seq {x y : Code} (h : AWp E x (AExit.then (AWp E y Q) Q) a σ) : AWp E (.seq x y) Q a σ := by
  intro ι H w a' hR ha hr
  refine wpIn_seq (wpIn_mono (h ι H w a' hR ha hr) ?_)
  rintro e a1 w1 ⟨ι1, H1, σ1, a1', ae, hq, hx, ha1, hR1, he1⟩
  cases hx with
  | normal =>
    have h2 := hq ι1 H1 w1 a1 hR1 ha1 (hr.ext he1)
    rw [FR_ext he1 hr] at h2
    exact wpIn_mono h2 fun _ _ _ => APost.trans he1
  | exit id => exact ⟨ι1, H1, σ1, a1', _, hq, .exit id, ha1, hR1, he1⟩
  | goto l => exact ⟨ι1, H1, σ1, a1', _, hq, .goto l, ha1, hR1, he1⟩
  | ret => exact ⟨ι1, H1, σ1, a1', _, hq, .ret, ha1, hR1, he1⟩
  | pan v w hv => exact ⟨ι1, H1, σ1, a1', _, hq, .pan v w hv, ha1, hR1, he1⟩

theorem AWp.cond {c : Operand} {x y : Code} {b : Bool} (hc : a.ev E.G c = some (.sc (.bool b))) (hx : b = true → AWp E x Q a σ) (hy : b = false → AWp E y Q a σ) : AWp E (.cond c x y) Q a σ := by
  intro ι H w a' hR ha hr
  have := (ha.rho hR c _ hc).sc_inv
  exact wpIn_cond_split this (fun hb => hx hb ι H w a' hR ha hr) (fun hb => hy hb ι H w a' hR ha hr)

def AExit.inBlock (id : Nat) (Q : APred) : APred
  | .exit id', a, σ => if id' = id then Q .normal a σ else Q (.exit id') a σ
  | e, a, σ => Q e a σ

theorem AWp.block {id : Nat} {c : Code} (h : AWp E c (AExit.inBlock id Q) a σ) : AWp E (.block id c) Q a σ := by
  intro ι H w a' hR ha hr
  refine wpIn_block (wpIn_mono (h ι H w a' hR ha hr) ?_)
  rintro e a1 w1 ⟨ι1, H1, σ1, a1', ae, hq, hx, ha1, hR1, he1⟩
  cases hx with
  | normal => exact ⟨ι1, H1, σ1, a1', _, hq, .normal, ha1, hR1, he1⟩
  | exit id' =>
    simp only [AExit.inBlock] at hq
    simp only [Exit.inBlock]
    split at hq
    · rename_i hid; rw [if_pos hid]; exact ⟨ι1, H1, σ1, a1', _, hq, .normal, ha1, hR1, he1⟩
    · rename_i hid; rw [if_neg hid]; exact ⟨ι1, H1, σ1, a1', _, hq, .exit id', ha1, hR1, he1⟩
  | goto l => exact ⟨ι1, H1, σ1, a1', _, hq, .goto l, ha1, hR1, he1⟩
  | ret => exact ⟨ι1, H1, σ1, a1', _, hq, .ret, ha1, hR1, he1⟩
  | pan v w hv => exact ⟨ι1, H1, σ1, a1', _, hq, .pan v w hv, ha1, hR1, he1⟩

/-- The act knows no more than the other. -/
def AAct.Le (a b : AAct) : Prop := a.n = b.n ∧ a.defers = b.defers ∧ ∀ t v, a.tmps.get t = some v → b.tmps.get t = some v

theorem ActRel.le {n : Nat} {ι : Inj} {H : Imm} {a b : AAct} {a' : Act} (hl : a.Le b) (h : ActRel n ι H b a') : ActRel n ι H a a' :=
  ⟨by rw [hl.1]; exact h.size, fun t v ht => by rw [hl.1]; exact h.tmps t v (hl.2.2 t v ht), by rw [hl.2.1]; exact h.defers⟩

theorem AWp.weaken {c : Code} {b : AAct} (hl : b.Le a) (h : AWp E c Q b σ) : AWp E c Q a σ := fun ι H w a' hR ha hr => h ι H w a' hR (ha.le hl) hr

theorem wpIn_loop_ghost {F : Fence} {n : Nat} {P : Program} {Q : Exit → Act → World → Prop} {a : Act} {w : World} {c : Code} (I : Nat → Act → World → Prop) (m : Nat) (h₀ : I m a w)
    (round : ∀ m a w, I m a w → c.wpIn F n P (Exit.then (fun a' w' => ∃ k, k < m ∧ I k a' w') Q) a w) : (Code.loop c).wpIn F n P Q a w := by
  intro b k cs hro hb hr
  have key : ∀ j a w, I j a w →
      ∃ e a' w', Q e a' w' ∧ ArrivesIn (Machine.fenced P F) P (lone (b.atR a (.code c :: .inLoop c :: k)) cs w) b k cs e a' w' := by
    intro j
    induction j using Nat.strongRecOn with
    | _ j ih =>
      intro a w hI
      obtain ⟨e, a₁, w₁, hq, harr⟩ := round j a w hI b (.inLoop c :: k) cs hro hb hr
      cases e with
      | normal =>
        obtain ⟨k', hlt, hI₁⟩ := hq
        obtain ⟨e₂, a₂, w₂, hq₂, harr₂⟩ := ih k' hlt a₁ w₁ hI₁
        exact ⟨e₂, a₂, w₂, hq₂, .of_steps (StepsIn.trans harr (.one (fenced_calm hb hr rfl) stepR_inLoop)) harr₂⟩
      | exit id => exact ⟨_, a₁, w₁, hq, .pass (x := .inLoop c) rfl (fun _ _ => .inl (by simp)) harr⟩
      | goto l => exact ⟨_, a₁, w₁, hq, .pass (x := .inLoop c) rfl (fun _ _ => .inl (by simp)) harr⟩
      | ret => exact ⟨_, a₁, w₁, hq, .pass (x := .inLoop c) rfl (fun _ _ => .inl (by simp)) harr⟩
      | panic ch => exact ⟨_, a₁, w₁, hq, .pass (x := .inLoop c) rfl (fun _ _ => .inl (by simp)) harr⟩
      | outgrown => exact ⟨_, a₁, w₁, hq, .pass (x := .inLoop c) rfl (fun _ _ => .inl (by simp)) harr⟩
  obtain ⟨e, a', w', hq, harr⟩ := key m a w h₀
  exact ⟨e, a', w', hq, .of_steps (.one (fenced_calm hb hr rfl) stepR_loop) harr⟩

theorem AWp.loop {c : Code} (I : Nat → AAct → AStore → Prop) (m : Nat) (h0 : I m a σ)
    (round : ∀ m a σ, I m a σ → AWp E c (AExit.then (fun a' σ' => ∃ b k, b.Le a' ∧ k < m ∧ I k b σ') Q) a σ) : AWp E (.loop c) Q a σ := by
  intro ι H w a' hR ha hr
  refine wpIn_loop_ghost (fun k a1' w1 => ∃ ι1 H1 σ1 a1, I k a1 σ1 ∧ ActRel σ1.next ι1 H1 a1 a1' ∧ Rel E ι1 H1 σ1 w1 ∧ Ext σ.next ι H σ1.next ι1 H1) m ⟨ι, H, σ, a, h0, ha, hR, Ext.refl _ _ _⟩ ?_
  rintro k a1' w1 ⟨ι1, H1, σ1, a1, hI, ha1, hR1, he1⟩
  have h2 := round k a1 σ1 hI ι1 H1 w1 a1' hR1 ha1 (hr.ext he1)
  rw [FR_ext he1 hr] at h2
  refine wpIn_mono h2 ?_
  rintro e a2 w2 ⟨ι2, H2, σ2, a2', ae, hq, hx, ha2, hR2, he2⟩
  cases hx with
  | normal =>
    obtain ⟨b, k', hl, hk, hI'⟩ := hq
    exact ⟨k', hk, ι2, H2, σ2, b, hI', ha2.le hl, hR2, he1.trans he2⟩
  | exit id => exact ⟨ι2, H2, σ2, a2', _, hq, .exit id, ha2, hR2, he1.trans he2⟩
  | goto l => exact ⟨ι2, H2, σ2, a2', _, hq, .goto l, ha2, hR2, he1.trans he2⟩
  | ret => exact ⟨ι2, H2, σ2, a2', _, hq, .ret, ha2, hR2, he1.trans he2⟩
  | pan v w hv => exact ⟨ι2, H2, σ2, a2', _, hq, .pan v w hv, ha2, hR2, he1.trans he2⟩
end
end Abs
