/-
  Part of the abstract layer (P): values, stores and steps that stand for those of the model, and the proof that they do. It proves no statement by itself.
-/
import Derived.Test.YtjakpdffbabojaaAbsO
import Derived.Scope
import Derived.ScopeJumps
import Derived.Deep.LoopGhost
noncomputable section
namespace Abs
open Go

structure AAct where
  tmps : T AVal
  n : Nat
  defers : List ADef

def AAct.ev (G : Nat → AVal) (a : AAct) : ARho
  | .tmp t => a.tmps.get t
  | .const v => some (absV v)
  | .global g => some (G g)
  | .func f => some (.func (.func f) [] [])

def AAct.put (a : AAct) (dst : Option Tmp) (x : Option AVal) : AAct :=
  match a with
  | ⟨t, n, ds⟩ => match dst with
    | some d => ⟨T.put 20 t d x, n, ds⟩
    | none => ⟨t, n, ds⟩

theorem AAct.put_eq (a : AAct) (dst : Option Tmp) (x : Option AVal) : a.put dst x = match dst with
    | some d => { a with tmps := T.put 20 a.tmps d x }
    | none => a := by
  cases a; cases dst <;> rfl

/-- May it be written? -/
def AAct.fits (a : AAct) (dst : Option Tmp) : Bool :=
  match dst with
  | some d => Nat.blt d a.n && Nat.blt a.n 1000000
  | none => true

inductive DefsRel (n : Nat) (ι : Inj) (H : Imm) : List ADef → List Deferred → Prop
  | nil : DefsRel n ι H [] []
  | cons (d : ADef) (d' : Deferred) (ds : List ADef) (ds' : List Deferred) (h : DefRel n ι H d d') (hs : DefsRel n ι H ds ds') : DefsRel n ι H (d :: ds) (d' :: ds')

structure ActRel (n : Nat) (ι : Inj) (H : Imm) (a : AAct) (a' : Act) : Prop where
  size : a'.tmps.size = a.n
  tmps : ∀ t v, a.tmps.get t = some v → t < a.n ∧ VRel n ι H v (a'.tmps.getD t undef)
  defers : DefsRel n ι H a.defers a'.defers

section
variable {n n' : Nat} {ι ι' : Inj} {H H' : Imm}

theorem DefRel.ext (he : Ext n ι H n' ι' H') {d : ADef} {d' : Deferred} (h : DefRel n ι H d d') : DefRel n' ι' H' d d' := by
  obtain ⟨⟨c, h1, h2⟩, ⟨a, h3, h4⟩⟩ := h
  exact ⟨⟨c, h1, h2.ext he⟩, ⟨a, h3, h4.ext he⟩⟩
theorem DefsRel.ext (he : Ext n ι H n' ι' H') : ∀ {d : List ADef} {d' : List Deferred}, DefsRel n ι H d d' → DefsRel n' ι' H' d d'
  | _, _, .nil => .nil
  | _, _, .cons d d' ds ds' h hs => .cons d d' ds ds' (h.ext he) (hs.ext he)
theorem ActRel.ext (he : Ext n ι H n' ι' H') {a : AAct} {a' : Act} (h : ActRel n ι H a a') : ActRel n' ι' H' a a' :=
  ⟨h.size, fun t v ht => ⟨(h.tmps t v ht).1, (h.tmps t v ht).2.ext he⟩, h.defers.ext he⟩

theorem ActRel.put {a : AAct} {a' : Act} (h : ActRel n ι H a a') {dst : Option Tmp} (hf : a.fits dst = true) {v : AVal} {v' : Value} (hv : VRel n ι H v v') :
    ActRel n ι H (a.put dst (some v)) (a'.put dst v') := by
  cases dst with
  | none => exact h
  | some d =>
    simp only [AAct.fits, Bool.and_eq_true, Nat.blt_eq] at hf
    refine ⟨by simp [Act.put, AAct.put_eq, h.size], ?_, h.defers⟩
    intro t x ht
    simp only [AAct.put_eq] at ht ⊢
    rw [T.get_put _ _ _ _ _ (by omega)] at ht
    simp only [Act.put]
    split at ht
    · rename_i e
      cases ht
      subst e
      refine ⟨hf.1, ?_⟩
      have : t < a'.tmps.size := by rw [h.size]; exact hf.1
      simp [this, hv]
    · rename_i e
      obtain ⟨h1, h2⟩ := h.tmps t x ht
      refine ⟨h1, ?_⟩
      have : (a'.tmps.setIfInBounds d v').getD t undef = a'.tmps.getD t undef := by
        simp [Array.getD_eq_getD_getElem?, Ne.symm e]
      rw [this]; exact h2

theorem ActRel.putN {a : AAct} {a' : Act} (h : ActRel n ι H a a') {dst : Option Tmp} (hf : a.fits dst = true) (v' : Value) : ActRel n ι H (a.put dst none) (a'.put dst v') := by
  cases dst with
  | none => exact h
  | some d =>
    simp only [AAct.fits, Bool.and_eq_true, Nat.blt_eq] at hf
    refine ⟨by simp [Act.put, AAct.put_eq, h.size], ?_, h.defers⟩
    intro t x ht
    simp only [AAct.put_eq] at ht ⊢
    rw [T.get_put _ _ _ _ _ (by omega)] at ht
    simp only [Act.put]
    split at ht
    · cases ht
    · rename_i e
      obtain ⟨h1, h2⟩ := h.tmps t x ht
      refine ⟨h1, ?_⟩
      have : (a'.tmps.setIfInBounds d v').getD t undef = a'.tmps.getD t undef := by
        simp [Array.getD_eq_getD_getElem?, Ne.symm e]
      rw [this]; exact h2

theorem ActRel.rho {E : Env} {σ : AStore} {w : World} (hR : Rel E ι H σ w) {a : AAct} {a' : Act} (h : ActRel σ.next ι H a a') : RhoRel σ.next ι H (a.ev E.G) a'.eval := by
  intro x v hx
  cases x with
  | tmp t => exact (h.tmps t v hx).2
  | const c => simp [AAct.ev] at hx; subst hx; exact absV_rel _ _ _ _
  | global g => simp [AAct.ev] at hx; subst hx; exact hR.glob g
  | func f =>
    simp [AAct.ev] at hx
    subst hx
    exact .func _ [] [] [] [] .nil .nil
end

/-! ### Calls and code, on abstract states -/

inductive AEnd where
  | ret (v : AVal)
  | pan (v : AVal)

inductive EndRel (n : Nat) (ι : Inj) (H : Imm) : AEnd → Ending → Prop
  | ret (v : AVal) (w : Value) (h : VRel n ι H v w) : EndRel n ι H (.ret v) (.returned w)
  | pan (v : AVal) (w : Value) (h : VRel n ι H v w) : EndRel n ι H (.pan v) (.panicked [{ v := w, recovered := false }])

/-- Whatever stands for it calls so. -/
def ACalls (E : Env) (f : FuncId) (args : List AVal) (σ : AStore) (R : AEnd → AStore → Prop) : Prop :=
  ∀ ι H w (args' : List Value), Rel E ι H σ w → LRel σ.next ι H args args' →
    Calls E.P f args'.toArray w fun e w' => ∃ ι' H' σ' ae, R ae σ' ∧ EndRel σ'.next ι' H' ae e ∧ Rel E ι' H' σ' w' ∧ Ext σ.next ι H σ'.next ι' H'

inductive AExit where
  | normal
  | exit (id : Nat)
  | goto (l : Nat)
  | ret
  | pan (v : AVal)

inductive ExitRel (n : Nat) (ι : Inj) (H : Imm) : AExit → Exit → Prop
  | normal : ExitRel n ι H .normal .normal
  | exit (id : Nat) : ExitRel n ι H (.exit id) (.exit id)
  | goto (l : Nat) : ExitRel n ι H (.goto l) (.goto l)
  | ret : ExitRel n ι H .ret .ret
  | pan (v : AVal) (w : Value) (h : VRel n ι H v w) : ExitRel n ι H (.pan v) (.panic [{ v := w, recovered := false }])

abbrev APred := AExit → AAct → AStore → Prop

def APost (E : Env) (n : Nat) (ι : Inj) (H : Imm) (Q : APred) : Exit → Act → World → Prop := fun e a' w' =>
  ∃ ι' H' σ' a ae, Q ae a σ' ∧ ExitRel σ'.next ι' H' ae e ∧ ActRel σ'.next ι' H' a a' ∧ Rel E ι' H' σ' w' ∧ Ext n ι H σ'.next ι' H'

def AWp (E : Env) (c : Code) (Q : APred) (a : AAct) (σ : AStore) : Prop :=
  ∀ ι H w a', Rel E ι H σ w → ActRel σ.next ι H a a' → c.wp E.P (APost E σ.next ι H Q) a' w

section
variable {E : Env} {Q Q' : APred} {a : AAct} {σ : AStore}

theorem APost.trans {n n1 : Nat} {ι ι1 : Inj} {H H1 : Imm} (he : Ext n ι H n1 ι1 H1) {e : Exit} {a' : Act} {w : World} (h : APost E n1 ι1 H1 Q e a' w) : APost E n ι H Q e a' w := by
  obtain ⟨ι', H', σ', a, ae, h1, h2, h3, h4, h5⟩ := h
  exact ⟨ι', H', σ', a, ae, h1, h2, h3, h4, he.trans h5⟩

theorem APost.mono {n : Nat} {ι : Inj} {H : Imm} (hq : ∀ e a σ, Q e a σ → Q' e a σ) {e : Exit} {a' : Act} {w : World} (h : APost E n ι H Q e a' w) : APost E n ι H Q' e a' w := by
  obtain ⟨ι', H', σ', a, ae, h1, h2⟩ := h
  exact ⟨ι', H', σ', a, ae, hq _ _ _ h1, h2⟩

theorem AWp.mono {c : Code} (h : AWp E c Q a σ) (hq : ∀ e a σ, Q e a σ → Q' e a σ) : AWp E c Q' a σ :=
  fun ι H w a' hR ha => wp_mono (h ι H w a' hR ha) fun _ _ _ => APost.mono hq

theorem ACalls.mono {f : FuncId} {args : List AVal} {R R' : AEnd → AStore → Prop} (h : ACalls E f args σ R) (hr : ∀ e σ, R e σ → R' e σ) : ACalls E f args σ R' :=
  fun ι H w args' hR ha => (h ι H w args' hR ha).mono fun _ _ ⟨ι', H', σ', ae, h1, h2⟩ => ⟨ι', H', σ', ae, hr _ _ h1, h2⟩

theorem apost_normal {n : Nat} {ι : Inj} {H : Imm} {a' : Act} {w : World} (hR : Rel E ι H σ w) (ha : ActRel σ.next ι H a a') {ae : AExit} {e : Exit} (hx : ExitRel σ.next ι H ae e)
    (hn : Ext n ι H σ.next ι H) (h : Q ae a σ) : APost E n ι H Q e a' w := ⟨ι, H, σ, a, ae, h, hx, ha, hR, hn⟩

theorem AWp.skip (h : Q .normal a σ) : AWp E .skip Q a σ := fun _ _ _ _ hR ha => wp_skip (apost_normal hR ha .normal (Ext.refl _ _ _) h)
theorem AWp.label {l : Nat} (h : Q .normal a σ) : AWp E (.label l) Q a σ := fun _ _ _ _ hR ha => wp_label (apost_normal hR ha .normal (Ext.refl _ _ _) h)
theorem AWp.exit {id : Nat} (h : Q (.exit id) a σ) : AWp E (.exit id) Q a σ := fun _ _ _ _ hR ha => wp_exit (apost_normal hR ha (.exit id) (Ext.refl _ _ _) h)
theorem AWp.goto {l : Nat} (h : Q (.goto l) a σ) : AWp E (.goto l) Q a σ := fun _ _ _ _ hR ha => wp_goto (apost_normal hR ha (.goto l) (Ext.refl _ _ _) h)
theorem AWp.ret (h : Q .ret a σ) : AWp E .ret Q a σ := fun _ _ _ _ hR ha => wp_ret (apost_normal hR ha .ret (Ext.refl _ _ _) h)

def AExit.then (next : AAct → AStore → Prop) (Q : APred) : APred
  | .normal, a, σ => next a σ
  | e, a, σ => Q e a σ

theorem AWp.seq {x y : Code} (h : AWp E x (AExit.then (AWp E y Q) Q) a σ) : AWp E (.seq x y) Q a σ := by
  intro ι H w a' hR ha
  refine wp_seq (wp_mono (h ι H w a' hR ha) ?_)
  rintro e a1 w1 ⟨ι1, H1, σ1, a1', ae, hq, hx, ha1, hR1, he1⟩
  cases hx with
  | normal => exact wp_mono (hq ι1 H1 w1 a1 hR1 ha1) fun _ _ _ => APost.trans he1
  | exit id => exact ⟨ι1, H1, σ1, a1', _, hq, .exit id, ha1, hR1, he1⟩
  | goto l => exact ⟨ι1, H1, σ1, a1', _, hq, .goto l, ha1, hR1, he1⟩
  | ret => exact ⟨ι1, H1, σ1, a1', _, hq, .ret, ha1, hR1, he1⟩
  | pan v w hv => exact ⟨ι1, H1, σ1, a1', _, hq, .pan v w hv, ha1, hR1, he1⟩

theorem AWp.cond {c : Operand} {x y : Code} {b : Bool} (hc : a.ev E.G c = some (.sc (.bool b))) (hx : b = true → AWp E x Q a σ) (hy : b = false → AWp E y Q a σ) : AWp E (.cond c x y) Q a σ := by
  intro ι H w a' hR ha
  have := (ha.rho hR c _ hc).sc_inv
  exact wp_cond_split this (fun hb => hx hb ι H w a' hR ha) (fun hb => hy hb ι H w a' hR ha)

def AExit.inBlock (id : Nat) (Q : APred) : APred
  | .exit id', a, σ => if id' = id then Q .normal a σ else Q (.exit id') a σ
  | e, a, σ => Q e a σ

theorem AWp.block {id : Nat} {c : Code} (h : AWp E c (AExit.inBlock id Q) a σ) : AWp E (.block id c) Q a σ := by
  intro ι H w a' hR ha
  refine wp_block (wp_mono (h ι H w a' hR ha) ?_)
  rintro e a1 w1 ⟨ι1, H1, σ1, a1', ae, hq, hx, ha1, hR1, he1⟩
  cases hx with
  | normal => exact ⟨ι1, H1, σ1, a1', _, hq, .normal, ha1, hR1, he1⟩
  | exit id' =>
    simp only [AExit.inBlock] at hq
    simp only [Exit.inBlock]
    split at hq
    · rename_i hid; rw [if_pos hid]; exact ⟨ι1, H1, σ1, a1', _, hq, .normal, ha1, hR1, he1⟩
    · rename_i hid; rw [if_neg hid]; exact ⟨ι1, H1, σ1, a1', _, hq, .exit id', ha1, hR1, he1⟩
  | goto l => exact ⟨ι1, H1, σ1, a1', _, hq, .goto l, ha1, hR1, he1⟩
  | ret => exact ⟨ι1, H1, σ1, a1', _, hq, .ret, ha1, hR1, he1⟩
  | pan v w hv => exact ⟨ι1, H1, σ1, a1', _, hq, .pan v w hv, ha1, hR1, he1⟩

/-- The act knows no more than the other. -/
def AAct.Le (a b : AAct) : Prop := a.n = b.n ∧ a.defers = b.defers ∧ ∀ t v, a.tmps.get t = some v → b.tmps.get t = some v

theorem ActRel.le {n : Nat} {ι : Inj} {H : Imm} {a b : AAct} {a' : Act} (hl : a.Le b) (h : ActRel n ι H b a') : ActRel n ι H a a' :=
  ⟨by rw [hl.1]; exact h.size, fun t v ht => by rw [hl.1]; exact h.tmps t v (hl.2.2 t v ht), by rw [hl.2.1]; exact h.defers⟩

theorem AWp.weaken {c : Code} {b : AAct} (hl : b.Le a) (h : AWp E c Q b σ) : AWp E c Q a σ := fun ι H w a' hR ha => h ι H w a' hR (ha.le hl)

theorem AWp.loop {c : Code} (I : Nat → AAct → AStore → Prop) (m : Nat) (h0 : I m a σ)
    (round : ∀ m a σ, I m a σ → AWp E c (AExit.then (fun a' σ' => ∃ b k, b.Le a' ∧ k < m ∧ I k b σ') Q) a σ) : AWp E (.loop c) Q a σ := by
  intro ι H w a' hR ha
  refine wp_loop_ghost (fun k a1' w1 => ∃ ι1 H1 σ1 a1, I k a1 σ1 ∧ ActRel σ1.next ι1 H1 a1 a1' ∧ Rel E ι1 H1 σ1 w1 ∧ Ext σ.next ι H σ1.next ι1 H1) m ⟨ι, H, σ, a, h0, ha, hR, Ext.refl _ _ _⟩ ?_
  rintro k a1' w1 ⟨ι1, H1, σ1, a1, hI, ha1, hR1, he1⟩
  refine wp_mono (round k a1 σ1 hI ι1 H1 w1 a1' hR1 ha1) ?_
  rintro e a2 w2 ⟨ι2, H2, σ2, a2', ae, hq, hx, ha2, hR2, he2⟩
  cases hx with
  | normal =>
    obtain ⟨b, k', hl, hk, hI'⟩ := hq
    exact ⟨k', hk, ι2, H2, σ2, b, hI', ha2.le hl, hR2, he1.trans he2⟩
  | exit id => exact ⟨ι2, H2, σ2, a2', _, hq, .exit id, ha2, hR2, he1.trans he2⟩
  | goto l => exact ⟨ι2, H2, σ2, a2', _, hq, .goto l, ha2, hR2, he1.trans he2⟩
  | ret => exact ⟨ι2, H2, σ2, a2', _, hq, .ret, ha2, hR2, he1.trans he2⟩
  | pan v w hv => exact ⟨ι2, H2, σ2, a2', _, hq, .pan v w hv, ha2, hR2, he1.trans he2⟩
end
end Abs
