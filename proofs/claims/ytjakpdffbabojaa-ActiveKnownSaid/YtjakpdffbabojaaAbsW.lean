/-
  Part of the abstract layer (W): values, stores and steps that stand for those of the model, and the proof that they do. It proves no statement by itself.
-/
import Derived.Test.YtjakpdffbabojaaAbsV
noncomputable section
namespace Abs
open Go

/-! ### Loops by rounds, scopes, deferred calls -/

section
variable {E : Env}

theorem AAct.Le.refl (a : AAct) : a.Le a := ⟨rfl, rfl, fun _ _ h => h⟩

def AWpN (E : Env) (c : Code) (Q : APred) : Nat → AAct → AStore → Prop
  | 0, _, _ => False
  | n + 1, a, σ => AWp E c (AExit.then (AWpN E c Q n) Q) a σ

theorem AWp.loopN {c : Code} {Q : APred} {a : AAct} {σ : AStore} (n : Nat) (h : AWpN E c Q n a σ) : AWp E (.loop c) Q a σ := by
  refine AWp.loop (fun m a σ => AWpN E c Q m a σ) n h ?_
  intro m a σ hm
  cases m with
  | zero => exact hm.elim
  | succ m =>
    refine AWp.mono hm ?_
    intro e a σ hq
    cases e with
    | normal => exact ⟨a, m, AAct.Le.refl a, by omega, hq⟩
    | _ => exact hq

def AScN (E : Env) (body : Code) (Q : APred) : Nat → Code → AAct → AStore → Prop
  | 0, _, _, _ => False
  | n + 1, cur, a, σ => AWp E cur (fun e a σ =>
      match e with
      | .goto l => (match findLabel body l with
        | some rest => AScN E body Q n rest a σ
        | none => Q (.goto l) a σ)
      | e => Q e a σ) a σ

theorem AWp.scopeN {c : Code} {Q : APred} {a : AAct} {σ : AStore} (n : Nat) (h : AScN E c Q n c a σ) : AWp E (.scope c) Q a σ := by
  have key : ∀ (n : Nat) (cur : Code) (a : AAct) (σ : AStore), AScN E c Q n cur a σ → ∀ ι H w a', Rel E ι H σ w → ActRel σ.next ι H a a' → ∀ (b : Frame) (k : List Item) (cs : List Frame),
      ∃ e a1 w1, APost E σ.next ι H Q e a1 w1 ∧ Arrives E.P (lone (b.at a' (.code cur :: .inScope c :: k)) cs w) b k cs e a1 w1 := by
    intro n
    induction n with
    | zero => intro cur a σ h; exact h.elim
    | succ n ih =>
      intro cur a σ h ι H w a' hR ha b k cs
      obtain ⟨e, a1, w1, hq, harr⟩ := h ι H w a' hR ha b (.inScope c :: k) cs
      obtain ⟨ι1, H1, σ1, a1', ae, hq, hx, ha1, hR1, he1⟩ := hq
      cases hx with
      | normal => exact ⟨.normal, a1, w1, ⟨ι1, H1, σ1, a1', _, hq, .normal, ha1, hR1, he1⟩, Steps.trans harr (.one step_inScope)⟩
      | exit id => exact ⟨.exit id, a1, w1, ⟨ι1, H1, σ1, a1', _, hq, .exit id, ha1, hR1, he1⟩, fun k' hk => harr k' (by simp [exitTo, hk])⟩
      | goto l =>
        simp only [] at hq
        cases hf : findLabel c l with
        | none =>
          rw [hf] at hq
          exact ⟨.goto l, a1, w1, ⟨ι1, H1, σ1, a1', _, hq, .goto l, ha1, hR1, he1⟩, fun k' hk => harr k' (by simp [gotoIn, hf, hk])⟩
        | some rest =>
          rw [hf] at hq
          have hg : gotoIn l (.inScope c :: k) = some (.code rest :: .inScope c :: k) := by simp [gotoIn, hf]
          obtain ⟨e2, a2, w2, hq2, harr2⟩ := ih rest a1' σ1 hq ι1 H1 w1 a1 hR1 ha1 b k cs
          exact ⟨e2, a2, w2, APost.trans he1 hq2, .of_steps (harr _ hg) harr2⟩
      | ret => exact ⟨.ret, a1, w1, ⟨ι1, H1, σ1, a1', _, hq, .ret, ha1, hR1, he1⟩, harr⟩
      | pan v v' hv => exact ⟨_, a1, w1, ⟨ι1, H1, σ1, a1', _, hq, .pan v v' hv, ha1, hR1, he1⟩, harr⟩
  intro ι H w a' hR ha b k cs
  obtain ⟨e, a1, w1, hq, harr⟩ := key n c a σ h ι H w a' hR ha b k cs
  exact ⟨e, a1, w1, hq, .of_steps (.one step_scope) harr⟩

/-- A deferred call. -/
def ACallsD (E : Env) (f : FuncId) (args : List AVal) (σ : AStore) (R : AEnd → AStore → Prop) : Prop :=
  ∀ ι H w (args' : List Value) (u : FrameMode), Rel E ι H σ w → LRel σ.next ι H args args' →
    CallsD E.P f args'.toArray u w fun e u' w' => u' = u ∧ ∃ ι' H' σ' ae, R ae σ' ∧ EndRel σ'.next ι' H' ae e ∧ Rel E ι' H' σ' w' ∧ Ext σ.next ι H σ'.next ι' H'

theorem ACallsD.mono {f : FuncId} {args : List AVal} {σ : AStore} {R R' : AEnd → AStore → Prop} (h : ACallsD E f args σ R) (hr : ∀ e σ, R e σ → R' e σ) : ACallsD E f args σ R' :=
  fun ι H w args' u hR ha => (h ι H w args' u hR ha).mono fun _ _ _ ⟨hu, ι', H', σ', ae, h1, h2⟩ => ⟨hu, ι', H', σ', ae, hr _ _ h1, h2⟩

theorem ACallsD.of_wp {f : FuncId} {fn : Func} {c : Code} {args : List AVal} {σ : AStore} {R : AEnd → AStore → Prop} (hf : E.P.funcs[f]? = some fn) (hb : fn.body = some c) (hn : args.length ≤ fn.ntmps) (hl : args.length < 1000)
    (h : AWp E c (aEnd E fn R) (aInit args fn.ntmps) σ) : ACallsD E f args σ R := by
  intro ι H w args' u hR hargs
  have ha := aInit_rel hargs hn hl
  refine callsD_of_wp hf hb ?_
  have hw := h ι H w _ hR ha
  refine wp_mono (by simpa using hw) ?_
  rintro e a1 w1 ⟨ι1, H1, σ1, a1', ae, hq, hx, ha1, hR1, he1⟩
  have fin : ∀ ae, aEnd E fn R ae a1' σ1 → (ae = .normal ∨ ae = .ret) → a1.defers = [] ∧ ∃ v, (results fn a1.tmps).run E.P w1 = .ok v w1 ∧
      ∃ ι' H' σ' ae, R ae σ' ∧ EndRel σ'.next ι' H' ae (.returned v) ∧ Rel E ι' H' σ' w1 ∧ Ext σ.next ι H σ'.next ι' H' := by
    intro ae hq hae
    have hq' : a1'.defers = [] ∧ ∃ v, aResult E fn.results.toList a1' σ1 = some v ∧ R (.ret v) σ1 := by rcases hae with rfl | rfl <;> exact hq
    obtain ⟨hd, v, hr, hRv⟩ := hq'
    have hd' := ha1.defers
    rw [hd] at hd'
    obtain ⟨v', r1, r2⟩ := aResult_sound hR1 ha1 hr
    exact ⟨hd'.nil_inv, v', r1, ι1, H1, σ1, .ret v, hRv, .ret v v' r2, hR1, he1⟩
  cases hx with
  | normal => exact fin _ hq (.inl rfl)
  | ret => exact fin _ hq (.inr rfl)
  | exit id => exact hq.elim
  | goto l => exact hq.elim
  | pan v v' hv =>
    obtain ⟨hd, hRv⟩ := hq
    have hd' := ha1.defers
    rw [hd] at hd'
    exact ⟨hd'.nil_inv, ι1, H1, σ1, .pan v, hRv, .pan v v' hv, hR1, he1⟩

def ALeaves (E : Env) (fn : Func) (a : AAct) (R : AEnd → AStore → Prop) : List ADef → Option AVal → AStore → Prop
  | [], none, σ => ∃ v, aResult E fn.results.toList a σ = some v ∧ R (.ret v) σ
  | [], some v, σ => R (.pan v) σ
  | d :: ds, m, σ => ∃ g, d.fn = .func g ∧ E.fns g = true ∧ ACallsD E g (d.args ++ d.cap) σ fun e σ' =>
      match e, m with
      | .ret _, m => ALeaves E fn a R ds m σ'
      | .pan v, none => ALeaves E fn a R ds (some v) σ'
      | .pan _, some _ => False

inductive ModeRel (n : Nat) (ι : Inj) (H : Imm) : Option AVal → FrameMode → Prop
  | ret : ModeRel n ι H none .returning
  | pan (v : AVal) (w : Value) (h : VRel n ι H v w) : ModeRel n ι H (some v) (.panicking [{ v := w, recovered := false }])

theorem ModeRel.ext {n n' : Nat} {ι ι' : Inj} {H H' : Imm} (he : Ext n ι H n' ι' H') {m : Option AVal} {u : FrameMode} (h : ModeRel n ι H m u) : ModeRel n' ι' H' m u := by
  cases h with
  | ret => exact .ret
  | pan v w h => exact .pan v w (h.ext he)

theorem ALeaves.sound {fn : Func} {R : AEnd → AStore → Prop} {n0 : Nat} {ι0 : Inj} {H0 : Imm} {a : AAct} {a' : Act} : ∀ (ds : List ADef) (ds' : List Deferred) (m : Option AVal) (u : FrameMode) (σ : AStore) (ι : Inj) (H : Imm) (w : World),
    Rel E ι H σ w → ActRel σ.next ι H a a' → DefsRel σ.next ι H ds ds' → ModeRel σ.next ι H m u → Ext n0 ι0 H0 σ.next ι H → ALeaves E fn a R ds m σ →
    Leaves E.P fn a'.tmps (fun e w' => ∃ ι' H' σ' ae, R ae σ' ∧ EndRel σ'.next ι' H' ae e ∧ Rel E ι' H' σ' w' ∧ Ext n0 ι0 H0 σ'.next ι' H') ds' u w
  | [], ds', m, u, σ, ι, H, w, hR, ha, hds, hm, he, h => by
      cases hds
      cases hm with
      | ret =>
        obtain ⟨v, hr, hv⟩ := h
        obtain ⟨v', r1, r2⟩ := aResult_sound hR ha hr
        exact ⟨v', r1, ι, H, σ, .ret v, hv, .ret v v' r2, hR, he⟩
      | pan v v' hv => exact ⟨ι, H, σ, .pan v, h, .pan v v' hv, hR, he⟩
  | d :: ds, ds', m, u, σ, ι, H, w, hR, ha, hds, hm, he, h => by
      cases hds with
      | cons _ d' _ ds' hd hs =>
        obtain ⟨g, hg, hfn, hc⟩ := h
        obtain ⟨⟨cap', ht, hcap⟩, ⟨args', hargs, hla⟩⟩ := hd
        have hne : u ≠ .run := by cases hm <;> simp
        refine ⟨hne, d.fn, cap'.toArray, g, (args' ++ cap').toArray, ht, ?_, ?_⟩
        · rw [ht, hargs, hg]
          simp only [invoke]
          rw [run_callFunc hfn]
          simp
        · refine CallsD.mono (hc ι H w (args' ++ cap') u hR (hla.append hcap)) ?_
          rintro e u' w1 ⟨rfl, ι1, H1, σ1, ae, hq, hx, hR1, he1⟩
          cases hx with
          | ret v v' hv =>
            have hset : settle u' = u' := by cases hm <;> rfl
            simp only [hset]
            exact ALeaves.sound ds ds' m u' σ1 ι1 H1 w1 hR1 (ha.ext he1) (hs.ext he1) (hm.ext he1) (he.trans he1) hq
          | pan v v' hv =>
            cases hm with
            | ret => exact ALeaves.sound ds ds' (some v) _ σ1 ι1 H1 w1 hR1 (ha.ext he1) (hs.ext he1) (.pan v v' hv) (he.trans he1) hq
            | pan => exact hq.elim

def aEndD (E : Env) (fn : Func) (R : AEnd → AStore → Prop) : APred
  | .normal, a, σ | .ret, a, σ => ALeaves E fn a R a.defers none σ
  | .pan v, a, σ => ALeaves E fn a R a.defers (some v) σ
  | _, _, _ => False

theorem ACalls.of_wpD {f : FuncId} {fn : Func} {c : Code} {args : List AVal} {σ : AStore} {R : AEnd → AStore → Prop} (hf : E.P.funcs[f]? = some fn) (hb : fn.body = some c) (hn : args.length ≤ fn.ntmps) (hl : args.length < 1000)
    (h : AWp E c (aEndD E fn R) (aInit args fn.ntmps) σ) : ACalls E f args σ R := by
  intro ι H w args' hR hargs
  have ha := aInit_rel hargs hn hl
  refine calls_of_wp_defers hf hb ?_
  have hw := h ι H w _ hR ha
  refine wp_mono (by simpa using hw) ?_
  rintro e a1 w1 ⟨ι1, H1, σ1, a1', ae, hq, hx, ha1, hR1, he1⟩
  cases hx with
  | normal => exact ALeaves.sound _ _ none _ σ1 ι1 H1 w1 hR1 ha1 ha1.defers .ret he1 hq
  | ret => exact ALeaves.sound _ _ none _ σ1 ι1 H1 w1 hR1 ha1 ha1.defers .ret he1 hq
  | exit id => exact hq.elim
  | goto l => exact hq.elim
  | pan v v' hv => exact ALeaves.sound _ _ (some v) _ σ1 ι1 H1 w1 hR1 ha1 ha1.defers (.pan v v' hv) he1 hq
end
end Abs
