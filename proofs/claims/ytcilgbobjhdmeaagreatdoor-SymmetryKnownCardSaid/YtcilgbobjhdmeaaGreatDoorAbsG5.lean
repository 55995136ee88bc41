/-
  Part of the abstract layer (Q R S T Fa): values, stores and steps that stand for those of the model, and the proof that they do. It proves no statement by itself.
-/
import Derived.Test.YtcilgbobjhdmeaaGreatDoorAbsG4
import Derived.Test.YtcilgbobjhdmeaaGreatDoorAbsG2
noncomputable section
namespace Abs
set_option linter.unusedVariables false
set_option linter.unusedSimpArgs false
set_option linter.unusedSectionVars false
open Go

/-! ### Operations in a row -/

/-- What is left where nothing was done. -/
def undefA : AVal := .tuple []

def aYield (ops : Array Oper) (a : AAct) (j : Nat) : Option (Option Bool) :=
  match (ops[j]?).bind (·.dst) with
  | some t => match a.tmps.get t with
    | some (.sc (.bool b)) => some (some b)
    | some (.tuple _) => some none
    | _ => none
  | none => none

/-! ### Rounds of a loop over a function -/

def roundTmps : T AVal → List Tmp → List AVal → T AVal
  | tm, t :: ts, v :: vs => roundTmps (T.put 20 tm t (some v)) ts vs
  | tm, _, _ => tm

/-- What is owed where a round ends. -/
def aRoundPost (b : Nat) (R : AEnd → AStore → Prop) : APred := fun ex _ σ =>
  ∃ st pend ps as bd tm nt d, σ.get b = some (.loop st pend ps as bd tm nt d) ∧
    match ex with
    | .normal => R (.ret (.sc (.bool true))) (σ.set b (.loop .ready none ps as bd tm nt d))
    | .ret => R (.ret (.sc (.bool false))) (σ.set b (.loop .done (some .ret) ps as bd tm nt d))
    | .exit id => R (.ret (.sc (.bool false))) (σ.set b (.loop .done (some (.exit id)) ps as bd tm nt d))
    | .goto l => R (.ret (.sc (.bool false))) (σ.set b (.loop .done (some (.goto l)) ps as bd tm nt d))
    | .pan _ => False

def aRoundMid (E : Env) (b : Nat) (R : AEnd → AStore → Prop) (bd : Code) : APred := fun ex a σ =>
  ex = .normal ∧ ∃ pend ps as bd1 tm nt d, σ.get b = some (.loop .ready pend ps as bd1 tm nt d) ∧
    AWp { E with rd := some b } bd (aRoundPost b R) a (σ.set b (.loop .busy pend ps as bd1 tm nt d))

def ARound (E : Env) (b : Nat) (args : List AVal) (σ : AStore) (R : AEnd → AStore → Prop) : Prop :=
  ∀ st pend ps as bd tm nt d, σ.get b = some (.loop st pend ps as bd tm nt d) → AWp { E with rd := some b } as (aRoundMid E b R bd) ⟨roundTmps tm ps.toList args, nt, []⟩ σ

def ACallsT (E : Env) (t : Tgt) (args : List AVal) (σ : AStore) (R : AEnd → AStore → Prop) : Prop :=
  match t with
  | .fn f => ACalls E f args σ R
  | .yld b => ARound E b args σ R

theorem aRoundPost_mono {b : Nat} {R R' : AEnd → AStore → Prop} (hr : ∀ e σ, R e σ → R' e σ) {ex : AExit} {a : AAct} {σ : AStore} (h : aRoundPost b R ex a σ) : aRoundPost b R' ex a σ := by
  obtain ⟨st, pend, ps, as, bd, tm, nt, d, hg, hh⟩ := h
  refine ⟨st, pend, ps, as, bd, tm, nt, d, hg, ?_⟩
  cases ex with
  | pan v => exact hh
  | _ => exact hr _ _ hh

theorem ACallsT.mono {E : Env} {t : Tgt} {args : List AVal} {σ : AStore} {R R' : AEnd → AStore → Prop} (h : ACallsT E t args σ R) (hr : ∀ e σ, R e σ → R' e σ) : ACallsT E t args σ R' := by
  cases t with
  | fn f => exact ACalls.mono h hr
  | yld b =>
    intro st pend ps as bd tm nt d hg
    refine AWp.mono (h st pend ps as bd tm nt d hg) ?_
    rintro ex a σ ⟨he, pend, ps, as, bd1, tm, nt, d, hg, hh⟩
    exact ⟨he, pend, ps, as, bd1, tm, nt, d, hg, hh.mono fun _ _ _ => aRoundPost_mono hr⟩

/-- A loop's record is written. -/
theorem Rel.set_loop {E : Env} {ι : Inj} {H : Imm} {σ : AStore} {w : World} (h : Rel E ι H σ w) {b : Nat} {st : LoopState} {pend : Option Code} {ps : Array Tmp} {as bd : Code} {tm : T AVal} {nt d : Nat}
    (hb : σ.get b = some (.loop st pend ps as bd tm nt d)) (st' : LoopState) (pend' : Option Code) : ∃ fn tmps, w.heap[(ι b).blk]? = some (.loop ⟨st, pend, fn, tmps, ps, as, bd, (ι d).blk⟩) ∧
      Rel E ι H (σ.set b (.loop st' pend' ps as bd tm nt d)) { w with heap := w.heap.setIfInBounds (ι b).blk (.loop ⟨st', pend', fn, tmps, ps, as, bd, (ι d).blk⟩) } := by
  obtain ⟨⟨z, hd, fn, tmps, g1, g2, g3⟩, hb2, hb3⟩ := h.live b _ hb
  refine ⟨fn, tmps, g1, h.set hb (by simp) (fun c hc => by simp [Ne.symm hc]) ⟨rfl, rfl⟩ ⟨z, hd, fn, tmps, by simp [hb3], g2, g3⟩ ?_⟩
  intro b' m since seen hne hz hmb
  obtain ⟨h1, h2, h3⟩ := h.live b' _ hz
  have hne' : (ι b').blk ≠ (ι b).blk := fun hc => hne (h.inj b' b _ _ hz hb hc)
  obtain ⟨⟨g0, g0', g0''⟩, s', se', st2, q1, q2, q3, q4⟩ := h1
  refine ⟨⟨g0, by simpa using g0', g0''⟩, s', se', st2, by simp [Ne.symm hne']; exact q1, q2, q3, ?_⟩
  intro es clock hh
  rw [hmb] at hh
  simp [hb3] at hh

theorem roundTmps_rel {n : Nat} {ι : Inj} {H : Imm} {nt : Nat} (hnt : nt < 1000000) : ∀ (ps : List Tmp) (args : List AVal) (args' : List Value) (tm : T AVal) (tmps : Array Value), LRel n ι H args args' → (ps.all fun t => Nat.blt t nt) = true → tmps.size = nt →
    (∀ t v, tm.get t = some v → t < nt ∧ VRel n ι H v (tmps.getD t undef)) → args.length = ps.length →
    ActRel n ι H ⟨roundTmps tm ps args, nt, []⟩ { tmps := (ps.zip args').foldl (fun tmps x => tmps.setIfInBounds x.1 x.2) tmps, defers := [] }
  | [], args, args', tm, tmps, hl, hp, hs, ht, hlen => by
      cases args with
      | nil => cases hl; exact ⟨hs, ht, .nil⟩
      | cons x xs => simp at hlen
  | p :: ps, args, args', tm, tmps, hl, hp, hs, ht, hlen => by
      cases hl with
      | nil => simp at hlen
      | cons v w vs ws hv hvs =>
        simp only [List.all_cons, Bool.and_eq_true, Nat.blt_eq] at hp
        simp only [roundTmps, List.zip_cons_cons, List.foldl_cons]
        refine roundTmps_rel hnt ps vs ws _ _ hvs hp.2 (by simpa using hs) ?_ (by simpa using hlen)
        intro t x hx
        rw [T.get_put _ _ _ _ _ (by omega)] at hx
        split at hx
        · rename_i e
          cases hx
          subst e
          refine ⟨hp.1, ?_⟩
          have : (tmps.setIfInBounds t w).getD t undef = w := by
            rw [Array.getD_eq_getD_getElem?]; simp [hs, hp.1]
          rw [this]; exact hv
        · rename_i e
          obtain ⟨g1, g2⟩ := ht t x hx
          refine ⟨g1, ?_⟩
          have : (tmps.setIfInBounds p w).getD t undef = tmps.getD t undef := by
            rw [Array.getD_eq_getD_getElem?, Array.getD_eq_getD_getElem?]; simp [Ne.symm e]
          rw [this]; exact g2

theorem heap_lt' {w : World} {c : Nat} {o : Obj} (h : w.heap[c]? = some o) : c < w.heap.size := by
  rcases Nat.lt_or_ge c w.heap.size with h' | h'
  · exact h'
  · rw [Array.getElem?_eq_none h'] at h; cases h

theorem run_setObj' {P : Program} {w : World} {r : Nat} {o' : Obj} (h : w.heap[r]? = some o') (hn : ∀ c t f, o' ≠ .cells c t f) (o : Obj) : (setObj r o).run P w = .ok () { w with heap := w.heap.setIfInBounds r o } := by
  cases o' <;> first
    | exact absurd rfl (hn _ _ _)
    | simp only [setObj, Sem.run, h]

theorem ARound.sound {E : Env} {b : Nat} {args : List AVal} {σ : AStore} {R : AEnd → AStore → Prop} (h : ARound E b args σ R) {ι : Inj} {H : Imm} {w : World} (hR : Rel E ι H σ w) {args' : List Value} (hargs : LRel σ.next ι H args args')
    {st : LoopState} {pend : Option Code} {ps : Array Tmp} {as bd : Code} {tm : T AVal} {nt d fn : Nat} {tmps : Array Value} (hg : σ.get b = some (.loop st pend ps as bd tm nt d)) (h1 : args.length = ps.size)
    (h2 : (ps.toList.all fun t => Nat.blt t nt) = true) (h3 : nt < 1000000) (h4 : tmps.size = nt) (h5 : ∀ t v, tm.get t = some v → t < nt ∧ VRel σ.next ι H v (tmps.getD t undef)) (ιr : Inj) :
    RoundIn (FR ιr E.rd) 0 E.P (ι b).blk fn ((ps.toList.zip args').foldl (fun tmps x => tmps.setIfInBounds x.1 x.2) tmps) as bd w
      (fun e w' => ∃ ι' H' σ' ae, R ae σ' ∧ EndRel σ'.next ι' H' ae e ∧ Rel E ι' H' σ' w' ∧ Ext σ.next ι H σ'.next ι' H') := by
  refine roundIn_of_wpIn trivial ?_
  have hlt := AStore.lt_of_get hg
  have hfr : (FR ιr E.rd).inRound (ι b).blk = FR ι (some b) := rfl
  have hfr' : ∀ {n' : Nat} {ι' : Inj} {H' : Imm}, Ext σ.next ι H n' ι' H' → FR ι' (some b) = FR ι (some b) := fun he => FR_ext he (fun b' hb' => by cases hb'; exact hlt)
  rw [hfr]
  have ha := roundTmps_rel h3 ps.toList args args' tm tmps hargs h2 h4 h5 (by simpa using h1)
  refine wpIn_mono (h st pend ps as bd tm nt d hg ι H w _ (hR.rd _) ha (fun b' hb' => by cases hb'; exact hlt)) ?_
  rintro e a1 w1 ⟨ι1, H1, σ1, a1', ae, ⟨hae, pend1, ps1, as1, bd1, tm1, nt1, d1, hg1, hbody⟩, hx, ha1, hR1, he1⟩
  subst hae
  cases hx
  have hR1' : Rel E ι1 H1 σ1 w1 := hR1.unrd
  have hbb : (ι1 b).blk = (ι b).blk := by rw [he1.inj b hlt]
  obtain ⟨fn1, tmps1, q1, q2⟩ := hR1'.set_loop hg1 .busy pend1
  refine ⟨{ w1 with heap := w1.heap.setIfInBounds (ι1 b).blk (.loop ⟨.busy, pend1, fn1, tmps1, ps1, as1, bd1, (ι1 d1).blk⟩) }, ?_, ?_⟩
  · have hgo : (getObj (ι b).blk).run E.P w1 = .ok (.loop ⟨.ready, pend1, fn1, tmps1, ps1, as1, bd1, (ι1 d1).blk⟩) w1 := by rw [← hbb]; simp [getObj, Sem.run, q1]
    have hset : ∀ o, (setObj (ι b).blk o).run E.P w1 = .ok () { w1 with heap := w1.heap.setIfInBounds (ι1 b).blk o } := by intro o; rw [← hbb]; exact run_setObj' q1 (by simp) o
    simp [Instr.beginRound, Instr.getLoop, hgo, hset]
  · have hw := hbody ι1 H1 _ a1 (q2.rd _) ha1 (fun b' hb' => by cases hb'; exact Nat.lt_of_lt_of_le hlt he1.next)
    rw [hfr' he1] at hw
    refine wpIn_mono hw ?_
    rintro e2 a2 w2 ⟨ι2, H2, σ2, a2', ae2, ⟨st2, pend2, ps2, as2, bd2, tm2, nt2, d2, hg2, hpost⟩, hx2, ha2, hR2, he2⟩
    have hR2' : Rel E ι2 H2 σ2 w2 := hR2.unrd
    have he12 := he1.trans he2
    have hbb2 : (ι2 b).blk = (ι b).blk := by rw [he12.inj b hlt]
    have fin : ∀ (jump : Option Code) (st' : LoopState) (v : Bool), (st' = if jump.isNone then .ready else .done) → v = jump.isNone → R (.ret (.sc (.bool v))) (σ2.set b (.loop st' jump ps2 as2 bd2 tm2 nt2 d2)) →
        ∃ v' w', (Instr.endRound (ι b).blk jump).run E.P w2 = .ok v' w' ∧ ∃ ι' H' σ' ae, R ae σ' ∧ EndRel σ'.next ι' H' ae (.returned v') ∧ Rel E ι' H' σ' w' ∧ Ext σ.next ι H σ'.next ι' H' := by
      intro jump st' v hst hv hr
      obtain ⟨fn2, tmps2, q3, q4⟩ := hR2'.set_loop hg2 st' jump
      refine ⟨.bool v, _, ?_, ι2, H2, _, _, hr, .ret _ _ (.sc _), q4, he12⟩
      subst hst hv
      have hgo : (getObj (ι b).blk).run E.P w2 = .ok (.loop ⟨st2, pend2, fn2, tmps2, ps2, as2, bd2, (ι2 d2).blk⟩) w2 := by rw [← hbb2]; simp [getObj, Sem.run, q3]
      have hset : ∀ o, (setObj (ι b).blk o).run E.P w2 = .ok () { w2 with heap := w2.heap.setIfInBounds (ι2 b).blk o } := by intro o; rw [← hbb2]; exact run_setObj' q3 (by simp) o
      simp [Instr.endRound, Instr.getLoop, hgo, hset]
    cases hx2 with
    | normal => exact fin none .ready true rfl rfl hpost
    | ret => exact fin (some .ret) .done false rfl rfl hpost
    | exit id => exact fin (some (.exit id)) .done false rfl rfl hpost
    | goto l => exact fin (some (.goto l)) .done false rfl rfl hpost
    | pan v v' hv => exact hpost.elim

/-- What an operation comes to, in continuation form. -/
def aGo (E : Env) (dst : Option Tmp) (K : APred) (k : AAct → AStore → Prop) (a : AAct) (σ : AStore) : ARes → Prop
  | .val v σ' => a.fits dst = true ∧ k (a.put dst (some v)) σ'
  | .vals l => a.fits dst = true ∧ ∀ p ∈ l, k (a.put dst (some p.1)) p.2
  | .skip σ' => a.fits dst = true ∧ k (a.put dst (some undefA)) σ'
  | .enter f args => a.fits dst = true ∧ ACallsT E f args σ fun e σ' =>
      match e with
      | .ret v => k (a.put dst (some v)) σ'
      | .pan v => K (.pan v) a σ'
  | .dfr d => a.fits dst = true ∧ E.rd = none ∧ k (({ a with defers := d :: a.defers } : AAct).put dst (some undefA)) σ
  | .pan v => K (.pan v) a σ
  | .recov => False
  | .bad => False

def aStep (E : Env) (ops : Array Oper) (o : Oper) (K : APred) (k : AAct → AStore → Prop) (a : AAct) (σ : AStore) : Prop :=
  match o.guard with
  | none => aGo E o.dst K k a σ (aOp E false o.op (a.ev E.G) σ)
  | some (j, want) =>
    match aYield ops a j with
    | some b => (b = some want → aGo E o.dst K k a σ (aOp E false o.op (a.ev E.G) σ)) ∧ (b ≠ some want → a.fits o.dst = true ∧ k (a.put o.dst (some undefA)) σ)
    | none => False

section
variable {E : Env} {K : APred} {a : AAct} {σ : AStore}

theorem undefA_rel {n : Nat} {ι : Inj} {H : Imm} : VRel n ι H undefA undef := .tuple [] [] .nil

theorem aYield_sound {n : Nat} {ι : Inj} {H : Imm} {ops : Array Oper} {a' : Act} (ha : ActRel n ι H a a') {j : Nat} {b : Option Bool} (h : aYield ops a j = some b) : yielded ops a'.tmps j = b := by
  unfold aYield at h
  split at h
  · rename_i t ht
    split at h
    · rename_i c hc
      cases h
      obtain ⟨h1, h2⟩ := ha.tmps t _ hc
      have h3 := h2.sc_inv
      have hlt : t < a'.tmps.size := by rw [ha.size]; exact h1
      have : a'.tmps[t]? = some (.bool c) := by
        rw [Array.getD_eq_getD_getElem?, Array.getElem?_eq_getElem hlt] at h3
        rw [Array.getElem?_eq_getElem hlt]
        exact congrArg some h3
      simp [yielded, ht, this]
    · rename_i c hc
      cases h
      obtain ⟨h1, h2⟩ := ha.tmps t _ hc
      obtain ⟨cs, h3, _⟩ := h2.tuple_inv
      have hlt : t < a'.tmps.size := by rw [ha.size]; exact h1
      have : a'.tmps[t]? = some (.tuple cs.toArray) := by
        rw [Array.getD_eq_getD_getElem?, Array.getElem?_eq_getElem hlt] at h3
        rw [Array.getElem?_eq_getElem hlt]
        exact congrArg some h3
      simp [yielded, ht, this]
    · cases h
  · cases h

theorem aOp_defer {lit : Bool} {ρ : ARho} {c : Call} : aOp E lit (.defer c) ρ σ = .bad ∨ ∃ d, aOp E lit (.defer c) ρ σ = .dfr d := by
  simp only [aOp]
  split
  · split
    · split
      · exact .inr ⟨_, rfl⟩
      · exact .inl rfl
    · exact .inl rfl
  · exact .inl rfl

theorem fr_fn (ι : Inj) (rd : Option Nat) (f : FuncId) : (FR ι rd).fn f := trivial

theorem semAt_run {lit : Bool} {ρ : ARho} {ρ' : Operand → Value} {o : Oper} {ro : Option Nat} (h : (∀ d, aOp E lit o.op ρ σ ≠ .dfr d) ∧ aOp E lit o.op ρ σ ≠ .bad ∨ ro = none) : o.semAt ro ρ' = execOp ρ' o := by
  rcases h with h | rfl
  · refine Oper.semAt_eq _ _ _ ?_
    intro c hc
    rw [hc] at h
    rcases aOp_defer (E := E) (σ := σ) (lit := lit) (ρ := ρ) (c := c) with h1 | ⟨d, h1⟩
    · exact h.2 h1
    · exact h.1 d h1
  · exact Oper.semAt_none _ _

theorem aGo_sound {ι ι0 : Inj} {H H0 : Imm} {n0 : Nat} {w : World} {a' : Act} (hR : Rel E ι H σ w) (ha : ActRel σ.next ι H a a') (he : Ext n0 ι0 H0 σ.next ι H) {o : Oper} {k : AAct → AStore → Prop}
    {KK : Act → World → Prop} (hk : ∀ ι1 H1 σ1 a1 a1' w1, k a1 σ1 → ActRel σ1.next ι1 H1 a1 a1' → Rel E ι1 H1 σ1 w1 → Ext n0 ι0 H0 σ1.next ι1 H1 → KK a1' w1)
    (h : aGo E o.dst K k a σ (aOp E false o.op (a.ev E.G) σ)) (ιr : Inj) : o.wpIn (FR ιr E.rd) 0 E.P a' w KK (APost E n0 ι0 H0 K) := by
  have hs := aOp_sound hR (ha.rho hR) false o
  refine ⟨fun _ _ => trivial, ?_⟩
  have hsem : o.semAt (FR ιr E.rd).round a'.eval = execOp a'.eval o := by
    refine semAt_run (E := E) (σ := σ) (lit := false) (ρ := a.ev E.G) ?_
    cases hr : aOp E false o.op (a.ev E.G) σ with
    | dfr d => rw [hr] at h; right; rw [FR, h.2.1]; rfl
    | bad => rw [hr] at h; exact h.elim
    | _ => left; exact ⟨by simp, by simp⟩
  rw [hsem]
  generalize hr : aOp E false o.op (a.ev E.G) σ = r at h hs
  cases r with
  | val v σ' =>
    obtain ⟨v', w', ι', H', hrun, hv, hR', he'⟩ := hs
    rw [hrun]
    exact hk ι' H' σ' _ _ w' h.2 ((ha.ext he').put h.1 hv) hR' (he.trans he')
  | vals l =>
    obtain ⟨p, hp, v', w', ι', H', hrun, hv, hR', he'⟩ := hs
    rw [hrun]
    exact hk ι' H' p.2 _ _ w' (h.2 p hp) ((ha.ext he').put h.1 hv) hR' (he.trans he')
  | skip σ' =>
    obtain ⟨w', hrun, hR', hn⟩ := hs
    rw [hrun]
    have he' : Ext σ.next ι H σ'.next ι H := ⟨by omega, fun _ _ => rfl, Imm.Le.refl _⟩
    exact hk ι H σ' _ _ w' h.2 ((ha.ext he').put h.1 undefA_rel) hR' (he.trans he')
  | enter t args =>
   cases t with
   | yld b =>
    obtain ⟨args', hargs, st, pend, ps, as, bd, tm, nt, d, fn, tmps, g1, g2, g3, g4, g5, g6, hrun⟩ := hs
    rw [hrun]
    refine ⟨(fun hh => by cases hh), RoundIn.mono (ARound.sound h.2 hR hargs g1 g2 g3 g4 g5 g6 ιr) ?_⟩
    rintro e w1 ⟨ι1, H1, σ1, ae, hq, hx, hR1, he1⟩
    cases hx with
    | ret v v' hv => exact hk ι1 H1 σ1 _ _ w1 hq ((ha.ext he1).put h.1 hv) hR1 (he.trans he1)
    | pan v v' hv => exact ⟨ι1, H1, σ1, a, _, hq, .pan v v' hv, ha.ext he1, hR1, he.trans he1⟩
   | fn f =>
    obtain ⟨args', hrun, hargs⟩ := hs
    rw [hrun]
    refine ⟨(fun hh => by cases hh), callsIn_FR (Calls.mono (h.2 ι H w args' hR hargs) ?_)⟩
    rintro e w1 ⟨ι1, H1, σ1, ae, hq, hx, hR1, he1⟩
    cases hx with
    | ret v v' hv => exact hk ι1 H1 σ1 _ _ w1 hq ((ha.ext he1).put h.1 hv) hR1 (he.trans he1)
    | pan v v' hv => exact ⟨ι1, H1, σ1, a, _, hq, .pan v v' hv, ha.ext he1, hR1, he.trans he1⟩
  | dfr d =>
    obtain ⟨d', hrun, hd⟩ := hs
    rw [hrun]
    have ha2 : ActRel σ.next ι H { a with defers := d :: a.defers } { a' with defers := d' :: a'.defers } := ⟨ha.size, ha.tmps, .cons _ _ _ _ hd ha.defers⟩
    exact hk ι H σ _ _ w h.2.2 (ha2.put h.1 undefA_rel) hR he
  | pan v =>
    obtain ⟨v', hrun, hv⟩ := hs
    rw [hrun]
    exact ⟨ι, H, σ, a, _, h, .pan v v' hv, ha, hR, he⟩
  | recov => exact h.elim
  | bad => exact h.elim

theorem aStep_sound {ι ι0 : Inj} {H H0 : Imm} {n0 : Nat} {w : World} {a' : Act} (hR : Rel E ι H σ w) (ha : ActRel σ.next ι H a a') (he : Ext n0 ι0 H0 σ.next ι H) {ops : Array Oper} {i : Nat} {o : Oper}
    (ho : ops[i]? = some o) {k : AAct → AStore → Prop}
    {KK : Act → World → Prop} (hk : ∀ ι1 H1 σ1 a1 a1' w1, k a1 σ1 → ActRel σ1.next ι1 H1 a1 a1' → Rel E ι1 H1 σ1 w1 → Ext n0 ι0 H0 σ1.next ι1 H1 → KK a1' w1)
    (h : aStep E ops o K k a σ) (ιr : Inj) : wpOpIn (FR ιr E.rd) 0 E.P ops (APost E n0 ι0 H0 K) i KK a' w := by
  unfold wpOpIn
  simp only [ho]
  unfold aStep at h
  split at h
  · rename_i hg
    have : Region.wanted o (yielded ops a'.tmps) = true := by simp [Region.wanted, hg]
    rw [if_pos this]
    exact aGo_sound hR ha he hk h ιr
  · rename_i j want hg
    split at h
    · rename_i b hy
      have hy' := aYield_sound ha hy
      by_cases hb : b = some want
      · have : Region.wanted o (yielded ops a'.tmps) = true := by simp [Region.wanted, hg, hy', hb]
        rw [if_pos this]
        exact aGo_sound hR ha he hk (h.1 hb) ιr
      · have : ¬ Region.wanted o (yielded ops a'.tmps) = true := by simp [Region.wanted, hg, hy', hb]
        rw [if_neg this]
        obtain ⟨h1, h2⟩ := h.2 hb
        exact ⟨fun _ _ => trivial, hk ι H σ _ _ w h2 (ha.put h1 undefA_rel) hR he⟩
    · exact h.elim

/-- Operations in the order of a list of numbers. -/
def aOps (E : Env) (ops : Array Oper) (K : APred) : List Nat → AAct → AStore → Prop
  | [], a, σ => K .normal a σ
  | i :: rest, a, σ =>
    match ops[i]? with
    | none => aOps E ops K rest a σ
    | some o => aStep E ops o K (aOps E ops K rest) a σ

theorem aOps_sound (ιr : Inj) {ops : Array Oper} {n0 : Nat} {ι0 : Inj} {H0 : Imm} : ∀ (l : List Nat) {ι : Inj} {H : Imm} {a : AAct} {σ : AStore} {w : World} {a' : Act}, Rel E ι H σ w → ActRel σ.next ι H a a' → Ext n0 ι0 H0 σ.next ι H →
    aOps E ops K l a σ → wpOpsIn (FR ιr E.rd) 0 E.P ops (APost E n0 ι0 H0 K) l a' w
  | [], ι, H, a, σ, w, a', hR, ha, he, h => ⟨ι, H, σ, a, _, h, .normal, ha, hR, he⟩
  | i :: rest, ι, H, a, σ, w, a', hR, ha, he, h => by
      rw [wpOpsIn_cons]
      simp only [aOps] at h
      cases ho : ops[i]? with
      | none =>
        rw [ho] at h
        simp only [wpOpIn, ho]
        exact aOps_sound ιr rest hR ha he h
      | some o =>
        rw [ho] at h
        exact aStep_sound hR ha he ho (fun ι1 H1 σ1 a1 a1' w1 hk ha1 hR1 he1 => aOps_sound ιr rest hR1 ha1 he1 hk) h ιr

theorem AWp.region {id : Nat} {ops : Array Oper} (h : aOps E ops K (List.range ops.size) a σ) : AWp E (.region id ops false) K a σ :=
  fun ι _ _ _ hR ha _ => wpIn_region (aOps_sound ι _ hR ha (Ext.refl _ _ _) h)

/-! ### Functions -/

def aResults (E : Env) (rs : List ResultVar) (a : AAct) (σ : AStore) : Option (List AVal) :=
  match rs with
  | [] => some []
  | .tmp t :: rest =>
    match a.tmps.get t, aResults E rest a σ with
    | some v, some vs => some (v :: vs)
    | _, _ => none
  | .cell t ty :: rest =>
    match a.tmps.get t, E.ty ty, aResults E rest a σ with
    | some p, some i, some vs =>
      match aLoad i.isA i.size p σ with
      | some v => some (v :: vs)
      | none => none
    | _, _, _ => none

def aResult (E : Env) (rs : List ResultVar) (a : AAct) (σ : AStore) : Option AVal :=
  match aResults E rs a σ with
  | some [v] => some v
  | some vs => some (.tuple vs)
  | none => none

def resultSem (t : Array Value) : ResultVar → Sem Value
  | .tmp x => pure (t.getD x undef)
  | .cell x ty => do loadVar ty (← asAddr (t.getD x undef))

theorem run_results {ι : Inj} {H : Imm} {w : World} {a' : Act} (hR : Rel E ι H σ w) (ha : ActRel σ.next ι H a a') : ∀ (rs : List ResultVar) {vs : List AVal}, aResults E rs a σ = some vs →
    ∃ vs', (rs.mapM (resultSem a'.tmps)).run E.P w = .ok vs' w ∧ LRel σ.next ι H vs vs'
  | [], vs, h => by simp [aResults] at h; subst h; exact ⟨[], by simp, .nil⟩
  | .tmp t :: rest, vs, h => by
      simp only [aResults] at h
      split at h
      · rename_i v vs1 hv hvs
        cases h
        obtain ⟨vs', r1, r2⟩ := run_results hR ha rest hvs
        have := (ha.tmps t v hv).2
        exact ⟨a'.tmps.getD t undef :: vs', by simp only [List.mapM_cons, resultSem, Sem.run_bind, Sem.run_pure, Result.andThen_ok, r1], .cons _ _ _ _ this r2⟩
      · cases h
  | .cell t ty :: rest, vs, h => by
      simp only [aResults] at h
      split at h
      · rename_i p i vs1 hp hi hvs
        split at h
        · rename_i v hl
          cases h
          obtain ⟨vs', r1, r2⟩ := run_results hR ha rest hvs
          have hpr := (ha.tmps t p hp).2
          obtain ⟨v', q1, q2⟩ := aLoad_sound hi hR hpr hl
          have q1' : ((do loadVar ty (← asAddr (a'.tmps.getD t undef))) : Sem Value).run E.P w = .ok v' w := by
            have hptr : ∃ ad, a'.tmps.getD t undef = .pointer (some ad) := by
              unfold aLoad at hl
              split at hl
              · obtain ⟨b, o, h, _⟩ := hpr.iptr_inv; exact ⟨_, h⟩
              · obtain ⟨_, h⟩ := hpr.ptr_inv; exact ⟨_, h⟩
              · cases hl
            obtain ⟨ad, had⟩ := hptr
            rw [had] at q1 ⊢
            simpa [Instr.loadAt, Instr.sureAddr, asAddr] using q1
          exact ⟨v' :: vs', by simp only [List.mapM_cons, resultSem, Sem.run_bind, q1', r1, Sem.run_pure, Result.andThen_ok], .cons _ _ _ _ q2 r2⟩
        · cases h
      · cases h

theorem aResult_sound {ι : Inj} {H : Imm} {w : World} {a' : Act} (hR : Rel E ι H σ w) (ha : ActRel σ.next ι H a a') {fn : Func} {v : AVal} (h : aResult E fn.results.toList a σ = some v) :
    ∃ v', (results fn a'.tmps).run E.P w = .ok v' w ∧ VRel σ.next ι H v v' := by
  have key : ∀ vs vs', aResults E fn.results.toList a σ = some vs → LRel σ.next ι H vs vs' → (fn.results.toList.mapM (resultSem a'.tmps)).run E.P w = .ok vs' w →
      (results fn a'.tmps).run E.P w = .ok (if h : vs'.toArray.size = 1 then vs'.toArray[0] else .tuple vs'.toArray) w := by
    intro vs vs' _ _ hrun
    have e : (fn.results.mapM (resultSem a'.tmps) : Sem (Array Value)) = List.toArray <$> (fn.results.toList.mapM (resultSem a'.tmps) : Sem (List Value)) := by
      obtain ⟨l⟩ := fn.results
      simp
    have e2 : results fn a'.tmps = (do let vs ← fn.results.mapM (resultSem a'.tmps); pure (if h : vs.size = 1 then vs[0] else .tuple vs)) := by
      unfold results
      congr 1
    rw [e2, Sem.run_bind, e, Sem.run_map, hrun]
    rfl
  unfold aResult at h
  cases hr : aResults E fn.results.toList a σ with
  | none => simp [hr] at h
  | some vs =>
    rw [hr] at h
    obtain ⟨vs', r1, r2⟩ := run_results hR ha _ hr
    have hk := key vs vs' hr r2 r1
    match vs, r2, h with
    | [], r2, h =>
      cases r2
      simp at h
      subst h
      exact ⟨_, hk, .tuple [] [] .nil⟩
    | [x], r2, h =>
      obtain ⟨x', ws, rfl, hx, hs⟩ := r2.cons_inv
      obtain rfl := hs.nil_inv
      simp at h
      subst h
      exact ⟨x', hk, hx⟩
    | x :: y :: zs, r2, h =>
      obtain ⟨x', ws, rfl, hx, hs⟩ := r2.cons_inv
      obtain ⟨y', ws', rfl, hy, hs'⟩ := hs.cons_inv
      simp at h
      subst h
      refine ⟨_, hk, ?_⟩
      have : ¬ ((x' :: y' :: ws').toArray.size = 1) := by simp
      rw [dif_neg this]
      exact .tuple _ _ (.cons _ _ _ _ hx (.cons _ _ _ _ hy hs'))

/-- The act with which a function begins. -/
def aInitT : List AVal → Nat → T AVal → T AVal
  | [], _, t => t
  | v :: vs, k, t => aInitT vs (k + 1) (T.put 20 t k (some v))

def aInit (args : List AVal) (n : Nat) : AAct := ⟨aInitT args 0 .leaf, n, []⟩

theorem aInitT_get : ∀ (args : List AVal) (k : Nat) (t : T AVal) (x : Nat) (v : AVal), k + args.length < 2 ^ 20 - 1 → (aInitT args k t).get x = some v → (k ≤ x ∧ args[x - k]? = some v) ∨ t.get x = some v
  | [], k, t, x, v, _, h => .inr h
  | y :: ys, k, t, x, v, hk, h => by
      simp at hk
      rcases aInitT_get ys (k + 1) _ x v (by omega) h with ⟨h1, h2⟩ | h1
      · left
        refine ⟨by omega, ?_⟩
        rw [show x - k = (x - (k + 1)) + 1 by omega]
        simpa using h2
      · rw [T.get_put _ _ _ _ _ (by omega)] at h1
        split at h1
        · rename_i e; subst e; left; exact ⟨Nat.le_refl _, by simpa using h1⟩
        · exact .inr h1

theorem aInit_rel {n : Nat} {ι : Inj} {H : Imm} {args : List AVal} {args' : List Value} (h : LRel n ι H args args') {m : Nat} (hm : args.length ≤ m) (hl : args.length < 1000) :
    ActRel n ι H (aInit args m) { tmps := args'.toArray ++ Array.replicate (m - args'.toArray.size) undef, defers := [] } := by
  have hlen := h.length
  refine ⟨by simp [aInit]; omega, ?_, .nil⟩
  intro t v ht
  rcases aInitT_get args 0 .leaf t v (by omega) ht with ⟨_, h1⟩ | h1
  · simp at h1
    have hlt : t < args.length := by
      rcases Nat.lt_or_ge t args.length with h' | h'
      · exact h'
      · rw [List.getElem?_eq_none h'] at h1; cases h1
    obtain ⟨w, h2, h3⟩ := h.get h1
    refine ⟨by simp [aInit]; omega, ?_⟩
    have : (args'.toArray ++ Array.replicate (m - args'.toArray.size) undef).getD t undef = w := by
      rw [Array.getD_eq_getD_getElem?, Array.getElem?_append_left (by simp; omega)]
      simp [h2]
    rw [this]; exact h3
  · simp [T.get_leaf] at h1

/-- What is owed where a function without deferred calls ends. -/
def aEnd (E : Env) (fn : Func) (R : AEnd → AStore → Prop) : APred
  | .normal, a, σ | .ret, a, σ => a.defers = [] ∧ ∃ v, aResult E fn.results.toList a σ = some v ∧ R (.ret v) σ
  | .pan v, a, σ => a.defers = [] ∧ R (.pan v) σ
  | _, _, _ => False

theorem DefsRel.nil_inv {n : Nat} {ι : Inj} {H : Imm} {d : List Deferred} (h : DefsRel n ι H [] d) : d = [] := by cases h; rfl

theorem ACalls.of_wp (hrd : E.rd = none) {f : FuncId} {fn : Func} {c : Code} {args : List AVal} {R : AEnd → AStore → Prop} (hf : E.P.funcs[f]? = some fn) (hb : fn.body = some c) (hn : args.length ≤ fn.ntmps) (hl : args.length < 1000)
    (h : AWp E c (aEnd E fn R) (aInit args fn.ntmps) σ) : ACalls E f args σ R := by
  intro ι H w args' hR hargs
  have ha := aInit_rel hargs hn hl
  refine calls_of_wp hf hb ?_
  have hw := h ι H w _ hR ha (fun b hb => by rw [hrd] at hb; cases hb)
  rw [hrd, FR_none, wpIn_wide] at hw
  refine wp_mono (by simpa using hw) ?_
  rintro e a1 w1 ⟨ι1, H1, σ1, a1', ae, hq, hx, ha1, hR1, he1⟩
  have fin : ∀ ae, aEnd E fn R ae a1' σ1 → (ae = .normal ∨ ae = .ret) → a1.defers = [] ∧ ∃ v, (results fn a1.tmps).run E.P w1 = .ok v w1 ∧
      ∃ ι' H' σ' ae, R ae σ' ∧ EndRel σ'.next ι' H' ae (.returned v) ∧ Rel E ι' H' σ' w1 ∧ Ext σ.next ι H σ'.next ι' H' := by
    intro ae hq hae
    have hq' : a1'.defers = [] ∧ ∃ v, aResult E fn.results.toList a1' σ1 = some v ∧ R (.ret v) σ1 := by rcases hae with rfl | rfl <;> exact hq
    obtain ⟨hd, v, hr, hRv⟩ := hq'
    have hd' := ha1.defers
    rw [hd] at hd'
    obtain ⟨v', r1, r2⟩ := aResult_sound hR1 ha1 hr
    exact ⟨hd'.nil_inv, v', r1, ι1, H1, σ1, .ret v, hRv, .ret v v' r2, hR1, he1⟩
  cases hx with
  | normal => exact fin _ hq (.inl rfl)
  | ret => exact fin _ hq (.inr rfl)
  | exit id => exact hq.elim
  | goto l => exact hq.elim
  | pan v v' hv =>
    obtain ⟨hd, hRv⟩ := hq
    have hd' := ha1.defers
    rw [hd] at hd'
    exact ⟨hd'.nil_inv, ι1, H1, σ1, .pan v, hRv, .pan v v' hv, hR1, he1⟩
end
end Abs
end
noncomputable section
namespace Abs
set_option linter.unusedVariables false
set_option linter.unusedSimpArgs false
set_option linter.unusedSectionVars false
open Go

/-! ### A region whose order is drawn -/

theorem allSome_congr {ρ ρ' : ARho} : ∀ {xs : List Operand}, (∀ x ∈ xs, ρ x = ρ' x) → allSome ρ xs = allSome ρ' xs
  | [], _ => rfl
  | x :: xs, h => by
      unfold allSome
      rw [h x (by simp), allSome_congr (fun y hy => h y (by simp [hy]))]

theorem partsSome_congr {ρ ρ' : ARho} : ∀ {xs : List (Nat × Operand)}, (∀ x ∈ xs.map (·.2), ρ x = ρ' x) → partsSome ρ xs = partsSome ρ' xs
  | [], _ => rfl
  | (i, x) :: xs, h => by
      unfold partsSome
      rw [h x (by simp), partsSome_congr (fun y hy => h y (by simp at hy ⊢; exact .inr hy))]

theorem optSome_congr {ρ ρ' : ARho} {x : Option Operand} (h : ∀ y ∈ x.toArray.toList, ρ y = ρ' y) : optSome ρ x = optSome ρ' x := by
  cases x with
  | none => rfl
  | some x => simp only [optSome]; rw [h x (by simp)]

theorem aOp_congr (E : Env) (lit : Bool) (op : Op) (σ : AStore) {ρ ρ' : ARho} (h : ∀ x ∈ op.operands.toList, ρ x = ρ' x) : aOp E lit op ρ σ = aOp E lit op ρ' σ := by
  cases op <;> simp only [Op.operands] at h
  case move x => simp only [aOp]; rw [h x (by simp)]
  case assign x => simp only [aOp]; rw [h x (by simp)]
  case pick c a b => simp only [aOp]; rw [h c (by simp), h a (by simp), h b (by simp)]
  case box t x => simp only [aOp]; rw [h x (by simp)]
  case build t ps => simp only [aOp]; rw [partsSome_congr (by simpa using h)]
  case buildSlice t n ps => simp only [aOp]; rw [partsSome_congr (by simpa using h)]
  case load t x => simp only [aOp]; rw [h x (by simp)]
  case store t a v => simp only [aOp]; rw [h a (by simp), h v (by simp)]
  case nilCheck x => simp only [aOp]; rw [h x (by simp)]
  case binOp op t a v t2 => simp only [aOp]; rw [h a (by simp), h v (by simp)]
  case unOp op t x => simp only [aOp]; rw [h x (by simp)]
  case convert s d x => simp only [aOp]; rw [h x (by simp)]
  case makeInterface t x => simp only [aOp]; rw [h x (by simp)]
  case makeFunc fn f c => simp only [aOp]; rw [allSome_congr (fun x hx => h x (by simp at hx ⊢; exact .inl hx)), allSome_congr (fun x hx => h x (by simp at hx ⊢; exact .inr hx))]
  case makeMap t r => cases r <;> simp only [aOp]; rw [h _ (by simp)]
  case makeSlice t a v => simp only [aOp]; rw [h a (by simp), h v (by simp)]
  case slice t x l hi m =>
    cases m with
    | some m =>
      simp only [aOp]
      rw [h x (by simp), optSome_congr (x := l) (fun y hy => h y (by simp at hy ⊢; exact .inr (.inl hy))), optSome_congr (x := hi) (fun y hy => h y (by simp at hy ⊢; exact .inr (.inr (.inl hy)))),
        optSome_congr (x := some m) (fun y hy => h y (by simp at hy ⊢; exact .inr (.inr (.inr hy))))]
    | none =>
      simp only [aOp]
      rw [h x (by simp), optSome_congr (x := l) (fun y hy => h y (by simp at hy ⊢; exact .inr (.inl hy))), optSome_congr (x := hi) (fun y hy => h y (by simp at hy ⊢; exact .inr (.inr hy)))]
  case fieldAddr t x f => simp only [aOp]; rw [h x (by simp)]
  case field t x f => simp only [aOp]; rw [h x (by simp)]
  case indexAddr t a v => simp only [aOp]; rw [h a (by simp), h v (by simp)]
  case index t a v => simp only [aOp]; rw [h a (by simp), h v (by simp)]
  case lookup t a v ok => simp only [aOp]; rw [h a (by simp), h v (by simp)]
  case mapUpdate t m k v => simp only [aOp]; rw [h m (by simp), h k (by simp), h v (by simp)]
  case insert t m k v => simp only [aOp]; rw [h m (by simp), h k (by simp), h v (by simp)]
  case range t x => simp only [aOp]; rw [h x (by simp)]
  case next x s => simp only [aOp]; rw [h x (by simp)]
  case entry x => simp only [aOp]; rw [h x (by simp)]
  case typeAssert x t a ok => simp only [aOp]; rw [h x (by simp)]
  case extract x i => simp only [aOp]; rw [h x (by simp)]
  case panic x => simp only [aOp]; rw [h x (by simp)]
  case call c =>
    obtain ⟨callee, args, ats⟩ := c
    simp only [Call.operands] at h
    simp only [aOp]
    rw [allSome_congr (xs := args.toList) (fun x hx => h x (by simp at hx ⊢; exact .inr hx))]
    cases callee with
    | value f => simp only []; rw [h f (by simp)]
    | _ => rfl
  case defer c =>
    obtain ⟨callee, args, ats⟩ := c
    simp only [Call.operands] at h
    simp only [aOp]
    rw [allSome_congr (xs := args.toList) (fun x hx => h x (by simp at hx ⊢; exact .inr hx))]
    cases callee with
    | value f => simp only []; rw [h f (by simp)]
    | _ => rfl
  all_goals rfl

/-- May it turn the store? -/
def isEff (E : Env) : Op → Bool
  | .move _ | .assign _ | .pick .. | .build .. | .buildSlice .. | .load .. | .nilCheck _ | .binOp .. | .unOp .. | .makeInterface .. | .makeFunc .. | .fieldAddr .. | .field ..
  | .indexAddr .. | .index .. | .lookup .. | .entry _ | .typeAssert .. | .extract .. => false
  | .slice t _ _ _ _ => match E.ty t with
    | some i => match i.desc with | .pointer _ | .array _ _ => true | _ => false
    | none => true
  | .convert _ d _ => match E.ty d with
    | some i => match i.desc with | .slice _ => true | _ => false
    | none => true
  | .call { callee := .builtin .len, .. } | .call { callee := .builtin .max, .. } | .call { callee := .builtin .min, .. } => false
  | _ => true

def aRead (E : Env) (op : Op) (ρ : ARho) (σ : AStore) : Option AVal :=
  match aOp E true op ρ σ with
  | .val v _ => some v
  | _ => none

theorem ofV_val {σ σ' : AStore} {o : Option AVal} {v : AVal} (h : ARes.ofV σ o = .val v σ') : σ' = σ := by
  cases o with
  | none => cases h
  | some x => cases h; rfl

theorem aToU_same {ty : Nat → Option TyI} {t : TypeId} {x v : AVal} {σ σ' : AStore} (h : aToU ty t x σ = some (v, σ')) : σ' = σ := by
  unfold aToU at h
  split at h
  · cases h; rfl
  · split at h
    · split at h
      · cases h; rfl
      · cases h
    · cases h
  · cases h
theorem aFromU_same {ty : Nat → Option TyI} {t : TypeId} {x v : AVal} {σ σ' : AStore} (h : aFromU ty t x σ = some (v, σ')) : σ' = σ := by
  unfold aFromU at h
  split at h
  · cases h; rfl
  · split at h
    · split at h
      · cases h; rfl
      · cases h
    · cases h
  · cases h

theorem aOp_read {E : Env} {op : Op} {ρ : ARho} {σ σ' : AStore} {v : AVal} (he : isEff E op = false) (h : aOp E true op ρ σ = .val v σ') : σ' = σ := by
  cases op <;> simp only [isEff] at he <;> try (cases he; done)
  case move x => exact ofV_val h
  case assign x => exact ofV_val h
  case pick c a b => simp only [aOp] at h; split at h <;> first | exact ofV_val h | cases h
  case build t ps =>
    simp only [aOp] at h
    split at h
    · split at h
      · exact ofV_val h
      · split at h <;> first | exact ofV_val h | cases h
      · cases h
    · cases h
  case buildSlice t n ps => simp only [aOp] at h; split at h <;> first | exact ofV_val h | cases h
  case load t x => simp only [aOp] at h; split at h <;> first | exact ofV_val h | cases h
  case nilCheck x => simp only [aOp] at h; split at h <;> (cases h <;> rfl)
  case binOp op t a b t2 => simp only [aOp] at h; split at h <;> first | exact ofV_val h | cases h
  case unOp op t x => simp only [aOp] at h; split at h <;> first | exact ofV_val h | cases h
  case convert s d x =>
    simp only [aOp] at h
    split at h
    · rename_i i j a hi hj ha
      simp only [hj] at he
      split at he
      · cases he
      · rename_i hns
        cases hc : aConv E.ty i.desc j.desc a σ with
        | none => rw [hc] at h; cases h
        | some p =>
          obtain ⟨p1, p2⟩ := p
          rw [hc] at h
          cases h
          unfold aConv at hc
          split at hc
          · cases hc; rfl
          · split at hc <;> cases hc; rfl
          · rename_i hd; exact absurd hd (hns _)
          · split at hc
            · split at hc
              · split at hc
                · split at hc
                  · rename_i els _
                    cases hu : unbytes els with
                    | none => rw [hu] at hc; cases hc
                    | some ns => rw [hu] at hc; cases hc; rfl
                  · cases hc
                · cases hc
              · cases hc
            · cases hc
          · split at hc
            · exact aToU_same hc
            · cases hc
          · split at hc
            · exact aFromU_same hc
            · cases hc
          · cases hc
    · cases h
  case makeInterface t x => simp only [aOp] at h; split at h <;> first | exact ofV_val h | cases h
  case makeFunc fn f c => simp only [aOp] at h; split at h <;> (cases h <;> rfl)
  case slice t x l hi m =>
    cases m with
    | some m =>
      simp only [aOp] at h
      split at h
      · split at h
        · split at h <;> first | exact ofV_val h | cases h
        · cases h
      · cases h
    | none =>
      simp only [aOp] at h
      split at h
      · rename_i i a l h' hi1 _ _ _
        simp only [hi1] at he
        split at h
        · exact ofV_val h
        · split at h <;> first | exact ofV_val h | cases h
        · rename_i hd
          simp only [hd] at he
          cases he
        · rename_i hd
          simp only [hd] at he
          cases he
        · cases h
      · cases h
  case fieldAddr t x f => simp only [aOp] at h; split at h <;> first | (split at h <;> first | exact ofV_val h | cases h) | cases h
  case field t x f => simp only [aOp] at h; split at h <;> first | exact ofV_val h | cases h
  case indexAddr t a i => simp only [aOp] at h; split at h <;> first | (split at h <;> first | exact ofV_val h | (split at h <;> first | exact ofV_val h | cases h)) | cases h
  case index t a i => simp only [aOp] at h; split at h <;> first | (split at h <;> first | exact ofV_val h | (split at h <;> first | (split at h <;> first | exact ofV_val h | cases h) | cases h)) | cases h
  case lookup t a i ok => simp only [aOp] at h; split at h <;> first | exact ofV_val h | cases h
  case entry x => simp only [aOp] at h; split at h <;> first | exact ofV_val h | cases h
  case typeAssert x t a ok => simp only [aOp] at h; split at h <;> first | exact ofV_val h | cases h
  case extract x i => simp only [aOp] at h; split at h <;> first | exact ofV_val h | cases h
  case call c =>
    obtain ⟨callee, args, ats⟩ := c
    simp only [aOp] at h
    split at h
    · cases callee with
      | builtin b =>
        simp only [] at h
        cases b <;> simp only at he <;> try (cases he; done)
        all_goals
          unfold aBuiltin at h
          split at h <;> first
            | (rename_i hb _ _; cases hb; done)
            | (rename_i hb; cases hb; done)
            | exact ofV_val h
            | (split at h <;> first | exact ofV_val h | cases h)
            | cases h
            | skip
      | value f => simp at he
      | invoke r m => simp at he
    · cases h

theorem aRead_some {E : Env} {op : Op} {ρ : ARho} {σ : AStore} {v : AVal} (he : isEff E op = false) (h : aRead E op ρ σ = some v) : aOp E true op ρ σ = .val v σ := by
  unfold aRead at h
  split at h
  · rename_i v' σ' hv
    cases h
    rw [hv, aOp_read he hv]
  · cases h
end Abs
end
noncomputable section
namespace Abs
set_option linter.unusedVariables false
set_option linter.unusedSimpArgs false
set_option linter.unusedSectionVars false
open Go

/-! ### What is known of a region ahead of its run -/

def bound (o : Oper) : List Nat := (o.after.toList.filter (Region.binds .any)).map (·.on)

def look : List (Nat × Nat) → Nat → Nat
  | [], _ => 0
  | (j, m) :: r, i => match Nat.beq j i with
    | true => m
    | false => look r i

def maskOf (acc : List (Nat × Nat)) (l : List Nat) : Nat := l.foldl (fun m on => (m ||| 2 ^ on) ||| look acc on) 0

def boundAt (ops : Array Oper) (i : Nat) : List Nat :=
  match ops[i]? with
  | some o => bound o
  | none => []

def ancs (ops : Array Oper) : List Nat → List (Nat × Nat) → List (Nat × Nat)
  | [], acc => acc
  | i :: rest, acc => ancs ops rest ((i, maskOf acc (boundAt ops i)) :: acc)

def tmpOf : Operand → Option Tmp
  | .tmp t => some t
  | _ => none

def guardTmp (ops : Array Oper) (o : Oper) : Option Tmp :=
  match o.guard with
  | some (j, _) => (ops[j]?).bind (·.dst)
  | none => none

def readsOf (ops : Array Oper) (o : Oper) : List Tmp := o.op.operands.toList.filterMap tmpOf ++ (guardTmp ops o).toList

def clash (ops : Array Oper) (o p : Oper) : Bool :=
  (match o.dst with | some d => (readsOf ops p).contains d || p.dst == some d | none => false) ||
  (match p.dst with | some d => (readsOf ops o).contains d | none => false)

def clashAt (ops : Array Oper) (i j : Nat) : Bool :=
  match ops[i]?, ops[j]? with
  | some o, some p => clash ops o p
  | _, _ => true

def effAt (E : Env) (ops : Array Oper) (i : Nat) : Bool :=
  match ops[i]? with
  | some o => isEff E o.op
  | none => true

def chkPairs (E : Env) (ops : Array Oper) (anc : List (Nat × Nat)) : List Nat → Bool
  | [] => true
  | i :: rest => (rest.all fun j => (!(effAt E ops i) && !(clashAt ops i j)) || (look anc j).testBit i) && chkPairs E ops anc rest

def chkTop (ops : Array Oper) : List Nat → List Nat → Bool
  | _, [] => true
  | seen, i :: rest => (boundAt ops i).all (fun on => seen.contains on) && !(seen.contains i) && Nat.blt i ops.size && chkTop ops (i :: seen) rest

def drawOk (E : Env) (ops : Array Oper) (canon : List Nat) : Bool :=
  Nat.beq canon.length ops.size && (List.range ops.size).all (fun i => canon.contains i) && chkTop ops [] canon && chkPairs E ops (ancs ops canon []) canon

/-! #### What the checks say -/

theorem chkTop_spec {ops : Array Oper} : ∀ {canon seen : List Nat}, chkTop ops seen canon = true →
    (∀ p i q, canon = p ++ i :: q → (∀ on ∈ boundAt ops i, on ∈ seen ∨ on ∈ p) ∧ i ∉ seen ∧ i ∉ p ∧ i < ops.size)
  | [], _, _ => by intro p i q h; simp at h
  | x :: rest, seen, h => by
      simp only [chkTop, Bool.and_eq_true, Bool.not_eq_true', List.all_eq_true] at h
      obtain ⟨⟨⟨h1, h2⟩, h3⟩, h4⟩ := h
      intro p i q hc
      cases p with
      | nil =>
        simp at hc
        obtain ⟨rfl, rfl⟩ := hc
        refine ⟨fun on hon => .inl (by simpa using h1 on hon), by simpa using h2, by simp, by simpa [Nat.blt_eq] using h3⟩
      | cons y p =>
        simp at hc
        obtain ⟨rfl, rfl⟩ := hc
        obtain ⟨g1, g2, g3, g4⟩ := chkTop_spec h4 p i q rfl
        refine ⟨fun on hon => ?_, fun hm => g2 (by simp [hm]), ?_, g4⟩
        · rcases g1 on hon with h | h
          · simp at h
            rcases h with rfl | h
            · right; simp
            · exact .inl h
          · right; simp [h]
        · intro hm
          simp at hm
          rcases hm with rfl | hm
          · exact g2 (by simp)
          · exact g3 hm

theorem chkPairs_spec {E : Env} {ops : Array Oper} {anc : List (Nat × Nat)} : ∀ {canon : List Nat}, chkPairs E ops anc canon = true →
    ∀ p i q j r, canon = p ++ i :: q ++ j :: r → (effAt E ops i = true ∨ clashAt ops i j = true) → (look anc j).testBit i = true
  | [], _ => by intro p i q j r h; simp at h
  | x :: rest, h => by
      simp only [chkPairs, Bool.and_eq_true, List.all_eq_true] at h
      obtain ⟨h1, h2⟩ := h
      intro p i q j r hc hor
      cases p with
      | nil =>
        simp at hc
        obtain ⟨rfl, rfl⟩ := hc
        have := h1 j (by simp)
        simp only [Bool.or_eq_true, Bool.and_eq_true, Bool.not_eq_true'] at this
        rcases this with ⟨a, b⟩ | this
        · rcases hor with h | h
          · rw [h] at a; cases a
          · rw [h] at b; cases b
        · exact this
      | cons y p =>
        simp at hc
        obtain ⟨rfl, rfl⟩ := hc
        exact chkPairs_spec h2 p i q j r (by simp) hor

def Closed (ops : Array Oper) (L : Nat → Bool) : Prop := ∀ i, L i = true → ∀ on ∈ boundAt ops i, L on = true

theorem maskOf_spec (acc : List (Nat × Nat)) (i : Nat) : ∀ (l : List Nat) (m0 : Nat), (l.foldl (fun m on => (m ||| 2 ^ on) ||| look acc on) m0).testBit i = true →
    m0.testBit i = true ∨ ∃ on ∈ l, on = i ∨ (look acc on).testBit i = true
  | [], m0, h => .inl h
  | x :: l, m0, h => by
      simp only [List.foldl_cons] at h
      rcases maskOf_spec acc i l _ h with h1 | ⟨on, h1, h2⟩
      · simp only [Nat.testBit_or, Bool.or_eq_true, Nat.testBit_two_pow, decide_eq_true_eq] at h1
        rcases h1 with (h1 | h1) | h1
        · exact .inl h1
        · exact .inr ⟨x, by simp, .inl h1⟩
        · exact .inr ⟨x, by simp, .inr h1⟩
      · exact .inr ⟨on, by simp [h1], h2⟩

theorem ancs_spec {ops : Array Oper} {L : Nat → Bool} (hL : Closed ops L) : ∀ (canon : List Nat) (acc : List (Nat × Nat)),
    (∀ j i, L j = true → (look acc j).testBit i = true → L i = true) → ∀ j i, L j = true → (look (ancs ops canon acc) j).testBit i = true → L i = true
  | [], _, h => h
  | x :: rest, acc, h => by
      refine ancs_spec hL rest _ ?_
      intro j i hj ht
      simp only [look] at ht
      by_cases hx : x = j
      · subst hx
        have : Nat.beq x x = true := Nat.beq_refl x
        rw [this] at ht
        simp only [] at ht
        rcases maskOf_spec acc i _ 0 ht with h1 | ⟨on, h1, h2⟩
        · simp at h1
        · have hon := hL x hj on h1
          rcases h2 with rfl | h2
          · exact hon
          · exact h on i hon h2
      · rw [nbeq_false hx] at ht
        exact h j i hj ht

/-! #### Acts that know a part -/

structure Ran where
  i : Nat
  dst : Option Tmp
  x : Option AVal

def part (L : Nat → Bool) : List Ran → AAct → AAct
  | [], a => a
  | r :: rs, a => part L rs (if L r.i then a.put r.dst r.x else a)

def everyOne : Nat → Bool := fun _ => true

def lastW (L : Nat → Bool) (t : Tmp) : List Ran → Option (Option AVal)
  | [] => none
  | r :: rs =>
    match lastW L t rs with
    | some x => some x
    | none => if L r.i = true ∧ r.dst = some t then some r.x else none

theorem AAct.put_n (a : AAct) (d : Option Tmp) (x : Option AVal) : (a.put d x).n = a.n ∧ (a.put d x).defers = a.defers := by
  cases d <;> exact ⟨rfl, rfl⟩

theorem AAct.fits_n {a b : AAct} (h : a.n = b.n) (d : Option Tmp) : a.fits d = b.fits d := by
  unfold AAct.fits; rw [h]

theorem AAct.put_get {a : AAct} {d : Option Tmp} (hf : a.fits d = true) (x : Option AVal) (t : Tmp) : (a.put d x).tmps.get t = if d = some t then x else a.tmps.get t := by
  cases d with
  | none => simp [AAct.put_eq]
  | some d =>
    simp only [AAct.fits, Bool.and_eq_true, Nat.blt_eq] at hf
    simp only [AAct.put_eq, Option.some.injEq]
    rw [T.get_put _ _ _ _ _ (by omega)]
    by_cases h : t = d
    · subst h; simp
    · simp [h, Ne.symm h]

theorem part_n (L : Nat → Bool) : ∀ (rs : List Ran) (a : AAct), (part L rs a).n = a.n ∧ (part L rs a).defers = a.defers
  | [], a => ⟨rfl, rfl⟩
  | r :: rs, a => by
      obtain ⟨h1, h2⟩ := part_n L rs (if L r.i then a.put r.dst r.x else a)
      rw [part, h1, h2]
      split
      · exact a.put_n _ _
      · exact ⟨rfl, rfl⟩

theorem part_get (L : Nat → Bool) (t : Tmp) : ∀ (rs : List Ran) (a : AAct), (∀ r ∈ rs, a.fits r.dst = true) → (part L rs a).tmps.get t = (lastW L t rs).getD (a.tmps.get t)
  | [], a, _ => rfl
  | r :: rs, a, hf => by
      rw [part, part_get L t rs _ (fun r' hr' => by
        rw [AAct.fits_n (b := a) (by split <;> first | exact (a.put_n _ _).1 | rfl)]; exact hf r' (by simp [hr']))]
      rw [lastW]
      cases lastW L t rs with
      | some x => rfl
      | none =>
        simp only [Option.getD_none]
        by_cases hL : L r.i = true
        · rw [if_pos hL, AAct.put_get (hf r (by simp))]
          by_cases hd : r.dst = some t
          · rw [if_pos hd, if_pos ⟨hL, hd⟩]; rfl
          · rw [if_neg hd, if_neg (fun h => hd h.2)]; rfl
        · rw [if_neg hL, if_neg (fun h => hL h.1)]; rfl

theorem lastW_append (L : Nat → Bool) (t : Tmp) : ∀ (rs ss : List Ran), lastW L t (rs ++ ss) = (lastW L t ss).or (lastW L t rs)
  | [], ss => by simp [lastW]
  | r :: rs, ss => by
      simp only [List.cons_append, lastW, lastW_append L t rs ss]
      cases lastW L t ss with
      | some x => simp
      | none => cases lastW L t rs <;> simp

theorem lastW_none {L : Nat → Bool} {t : Tmp} : ∀ {rs : List Ran}, (∀ r ∈ rs, r.dst = some t → L r.i = false) → lastW L t rs = none
  | [], _ => rfl
  | r :: rs, h => by
      rw [lastW, lastW_none (fun r' hr' => h r' (by simp [hr']))]
      simp only []
      rw [if_neg]
      intro ⟨h1, h2⟩
      rw [h r (by simp) h2] at h1; cases h1

theorem lastW_all {L : Nat → Bool} {t : Tmp} : ∀ {rs : List Ran}, (∀ r ∈ rs, r.dst = some t → L r.i = true) → lastW L t rs = lastW everyOne t rs
  | [], _ => rfl
  | r :: rs, h => by
      rw [lastW, lastW, lastW_all (fun r' hr' => h r' (by simp [hr']))]
      cases lastW everyOne t rs with
      | some x => rfl
      | none =>
        simp only [everyOne, true_and]
        by_cases hd : r.dst = some t
        · rw [if_pos ⟨h r (by simp) hd, hd⟩, if_pos hd]
        · rw [if_neg (fun hh => hd hh.2), if_neg hd]

theorem lastW_congr {L L' : Nat → Bool} {t : Tmp} : ∀ {rs : List Ran}, (∀ r ∈ rs, r.dst = some t → L r.i = L' r.i) → lastW L t rs = lastW L' t rs
  | [], _ => rfl
  | r :: rs, h => by
      rw [lastW, lastW, lastW_congr (fun r' hr' => h r' (by simp [hr']))]
      cases lastW L' t rs with
      | some x => rfl
      | none =>
        simp only []
        by_cases hd : r.dst = some t
        · rw [h r (by simp) hd]
        · rw [if_neg (fun hh => hd hh.2), if_neg (fun hh => hd hh.2)]

theorem part_append (L : Nat → Bool) : ∀ (rs ss : List Ran) (a : AAct), part L (rs ++ ss) a = part L ss (part L rs a)
  | [], _, _ => rfl
  | r :: rs, ss, a => by simp only [List.cons_append, part]; exact part_append L rs ss _

theorem part_eq {L : Nat → Bool} : ∀ (rs : List Ran) (a : AAct), (∀ r ∈ rs, L r.i = true) → part L rs a = part everyOne rs a
  | [], _, _ => rfl
  | r :: rs, a, h => by
      rw [part, part, if_pos (h r (by simp))]
      exact part_eq rs _ (fun r' hr' => h r' (by simp [hr']))

/-! #### The run in the order that is laid down, and what is owed for the others -/

structure Rec where
  i : Nat
  op : Op
  a : AAct
  v : AVal

def Rec.holds (E : Env) (r : Rec) (σ : AStore) : Prop := aRead E r.op (r.a.ev E.G) σ = some r.v

def recsOk (E : Env) (m : Nat) (σ : AStore) : List Rec → Prop
  | [] => True
  | r :: rs => (match m.testBit r.i with | true => True | false => r.holds E σ) ∧ recsOk E m σ rs

theorem recsOk_mem {E : Env} {m : Nat} {σ : AStore} : ∀ {rs : List Rec}, recsOk E m σ rs → ∀ r ∈ rs, m.testBit r.i = true ∨ r.holds E σ
  | [], _, _, h => by simp at h
  | x :: rs, hk, r, hr => by
      simp at hr
      rcases hr with rfl | hr
      · have := hk.1
        cases ht : m.testBit r.i with
        | true => exact .inl rfl
        | false => rw [ht] at this; exact .inr this
      · exact recsOk_mem hk.2 r hr

def aGoD (E : Env) (K : APred) (a0 : AAct) (k : Option AVal → AStore → Prop) (σ : AStore) : ARes → Prop
  | .val v σ' => k (some v) σ'
  | .vals l => ∀ p ∈ l, k (some p.1) p.2
  | .skip σ' => k (some undefA) σ'
  | .enter f args => ACallsT E f args σ fun e σ' =>
      match e with
      | .ret v => k (some v) σ'
      | .pan v => K (.pan v) a0 σ'
  | .pan v => K (.pan v) a0 σ
  | .dfr _ | .recov | .bad => False

def aDr (E : Env) (ops : Array Oper) (anc : List (Nat × Nat)) (K : APred) (a0 : AAct) : List Nat → List Rec → AAct → AStore → Prop
  | [], _, a, σ => K .normal a σ
  | i :: rest, recs, a, σ =>
    match ops[i]? with
    | none => False
    | some o =>
      match o.guard with
      | none =>
        match isEff E o.op with
        | true => aGoD E K a0 (fun x σ' => recsOk E (look anc i) σ' recs ∧ aDr E ops anc K a0 rest recs (a.put o.dst x) σ') σ (aOp E true o.op (a.ev E.G) σ)
        | false => match aRead E o.op (a.ev E.G) σ with
          | some v => aDr E ops anc K a0 rest (⟨i, o.op, a, v⟩ :: recs) (a.put o.dst (some v)) σ
          | none => False
      | some (j, want) =>
        match aYield ops a j with
        | none => False
        | some b =>
          (b = some want →
            match isEff E o.op with
            | true => aGoD E K a0 (fun x σ' => recsOk E (look anc i) σ' recs ∧ aDr E ops anc K a0 rest recs (a.put o.dst x) σ') σ (aOp E true o.op (a.ev E.G) σ)
            | false => match aRead E o.op (a.ev E.G) σ with
              | some v => aDr E ops anc K a0 rest (⟨i, o.op, a, v⟩ :: recs) (a.put o.dst (some v)) σ
              | none => False) ∧
          (b ≠ some want → aDr E ops anc K a0 rest recs (a.put o.dst (some undefA)) σ)

def clearAll : List Oper → AAct → AAct
  | [], a => a
  | o :: os, a => clearAll os (a.put o.dst none)

def fitsAll (ops : List Oper) (a : AAct) : Bool := ops.all fun o => a.fits o.dst

/-- A region whose order is drawn, run in the order 'canon'. -/
def aDrawn (E : Env) (ops : Array Oper) (canon : List Nat) (K : APred) (a : AAct) (σ : AStore) : Prop :=
  drawOk E ops canon = true ∧ fitsAll ops.toList a = true ∧ aDr E ops (ancs ops canon []) K (clearAll ops.toList a) canon [] a σ
end Abs
end
noncomputable section
namespace Abs
set_option linter.unusedVariables false
set_option linter.unusedSimpArgs false
set_option linter.unusedSectionVars false
open Go

/-! ### A call that has nothing to do with the store -/

def empty : AStore := ⟨.leaf, 0, []⟩

def mapO {α β : Type} (f : α → Option β) : List α → Option (List β)
  | [] => some []
  | x :: xs => match f x with
    | none => none
    | some y => match mapO f xs with
      | none => none
      | some ys => some (y :: ys)

/-- The value, all that it leads to put into it: no one may write there any more. -/
def frz (σ : AStore) : Nat → AVal → Option AVal
  | 0, _ => none
  | _ + 1, .sc v => some (.sc v)
  | n + 1, .ptr b i k =>
    match k with
    | 0 => match σ.get b with
      | some (.cells _ els) => match els[i]? with
        | some e => match mapO (frz σ n) e.cells with
          | some cs => some (.iptr cs)
          | none => none
        | none => none
      | _ => none
    | _ + 1 => none
  | n + 1, .iptr cs => match mapO (frz σ n) cs with
    | some cs => some (.iptr cs)
    | none => none
  | n + 1, .slice b off len =>
    match σ.get b with
    | some (.cells sz els) =>
      match Nat.ble (off + len) els.length with
      | true =>
        match mapO (frz σ n) ((els.drop off).take len) with
        | some es => some (.data sz false es)
        | none => none
      | false => none
    | _ => none
  | n + 1, .view b off len =>
    match σ.get b with
    | some (.cells sz els) =>
      match Nat.ble (off + len) els.length with
      | true =>
        match mapO (frz σ n) ((els.drop off).take len) with
        | some es => some (.data sz true es)
        | none => none
      | false => none
    | _ => none
  | n + 1, .data sz t els => match mapO (frz σ n) els with
    | some es => some (.data sz t es)
    | none => none
  | _ + 1, .map _ => none
  | _ + 1, .yld _ => none
  | _ + 1, .endS b _ =>
    match σ.get b with
    | some (.cells sz _) => some (.data sz false [])
    | _ => none
  | n + 1, .func fn a b => match mapO (frz σ n) a with
    | some a => match mapO (frz σ n) b with
      | some b => some (.func fn a b)
      | none => none
    | none => none
  | n + 1, .iface t v => match frz σ n v with
    | some v => some (.iface t v)
    | none => none
  | n + 1, .agg cs => match mapO (frz σ n) cs with
    | some cs => some (.agg cs)
    | none => none
  | n + 1, .tuple cs => match mapO (frz σ n) cs with
    | some cs => some (.tuple cs)
    | none => none

theorem mapO_length {α β : Type} {f : α → Option β} : ∀ {l : List α} {r : List β}, mapO f l = some r → r.length = l.length
  | [], r, h => by simp only [mapO, Option.some.injEq] at h; subst h; rfl
  | x :: xs, r, h => by
      unfold mapO at h
      split at h
      · cases h
      · split at h
        · cases h
        · rename_i ys hys
          cases h
          simp [mapO_length hys]

theorem mapO_cons {α β : Type} {f : α → Option β} {x : α} {xs : List α} {r : List β} (h : mapO f (x :: xs) = some r) : ∃ y ys, f x = some y ∧ mapO f xs = some ys ∧ r = y :: ys := by
  unfold mapO at h
  split at h
  · cases h
  · rename_i y hy
    split at h
    · cases h
    · rename_i ys hys
      cases h
      exact ⟨y, ys, hy, hys, rfl⟩

theorem frz_isAgg {σ : AStore} {n : Nat} {v u : AVal} (h : frz σ n v = some u) : u.isAgg = v.isAgg := by
  cases n with
  | zero => simp [frz] at h
  | succ n =>
    cases v <;> simp only [frz] at h
    case sc v => cases h; rfl
    case ptr b i k =>
      split at h
      · split at h
        · split at h
          · split at h
            · cases h; rfl
            · cases h
          · cases h
        · cases h
      · cases h
    case iptr cs => split at h <;> cases h; rfl
    case slice b off len =>
      split at h
      · split at h
        · split at h <;> cases h; rfl
        · cases h
      · cases h
    case view b off len =>
      split at h
      · split at h
        · split at h <;> cases h; rfl
        · cases h
      · cases h
    case data sz t els => split at h <;> cases h; rfl
    case map b => cases h
    case yld b => cases h
    case endS b o => split at h <;> cases h; rfl
    case func fn a b =>
      split at h
      · split at h <;> cases h; rfl
      · cases h
    case iface t v => split at h <;> cases h; rfl
    case agg cs => split at h <;> cases h; rfl
    case tuple cs => split at h <;> cases h; rfl

section
variable {E : Env} {ι ι0 : Inj} {H H2 : Imm} {σ : AStore} {w : World}

def FrzOk (ι ι0 : Inj) (H H2 : Imm) (σ : AStore) (n : Nat) : Prop := ∀ v u v', VRel σ.next ι H v v' → frz σ n v = some u → VRel 0 ι0 H2 u v'

theorem frz_LRel {n : Nat} (hP : FrzOk ι ι0 H H2 σ n) : ∀ {vs us : List AVal} {ws : List Value}, LRel σ.next ι H vs ws → mapO (frz σ n) vs = some us → LRel 0 ι0 H2 us ws
  | _, us, _, .nil, h => by simp only [mapO, Option.some.injEq] at h; subst h; exact .nil
  | _, us, _, .cons v w vs ws hv hs, h => by
      obtain ⟨y, ys, h1, h2, rfl⟩ := mapO_cons h
      exact .cons y w ys ws (hP v y w hv h1) (frz_LRel hP hs h2)

theorem frz_CRel {n : Nat} (hP : FrzOk ι ι0 H H2 σ n) {g g' : Nat → Option Value} (hg : RLe g g') : ∀ {vs us : List AVal} {o : Nat}, CRel σ.next ι H g vs o → mapO (frz σ n) vs = some us → CRel 0 ι0 H2 g' us o
  | _, us, _, .nil _ o, h => by simp only [mapO, Option.some.injEq] at h; subst h; exact .nil g' o
  | _, us, _, .cons _ v w vs o ho hv hs, h => by
      obtain ⟨y, ys, h1, h2, rfl⟩ := mapO_cons h
      exact .cons g' y w ys o (hg _ _ ho) (hP v y w hv h1) (frz_CRel hP hg hs h2)

theorem frz_DRel {n : Nat} (hP : ∀ m, m ≤ n → FrzOk ι ι0 H H2 σ m) {g g' : Nat → Option Value} (hg : RLe g g') : ∀ {sz : Nat} {vs us : List AVal} {o : Nat}, DRel σ.next ι H g sz vs o →
    mapO (frz σ n) vs = some us → DRel 0 ι0 H2 g' sz us o
  | _, _, us, _, .nil _ sz o, h => by simp only [mapO, Option.some.injEq] at h; subst h; exact .nil g' sz o
  | _, _, us, _, .agg _ sz cs es o hsz hc hs, h => by
      obtain ⟨y, ys, h1, h2, rfl⟩ := mapO_cons h
      cases n with
      | zero => simp [frz] at h1
      | succ n =>
        simp only [frz] at h1
        split at h1
        · rename_i cs' hcs
          cases h1
          exact .agg g' sz cs' ys o ((mapO_length hcs).trans hsz) (frz_CRel (hP n (by omega)) hg hc hcs) (frz_DRel hP hg hs h2)
        · cases h1
  | _, _, us, _, .one _ v w es o hv ho hr hs, h => by
      obtain ⟨y, ys, h1, h2, rfl⟩ := mapO_cons h
      exact .one g' y w ys o ((frz_isAgg h1).trans hv) (hg _ _ ho) (hP n (Nat.le_refl _) v y w hr h1) (frz_DRel hP hg hs h2)

theorem frz_ok (hR : Rel E ι H σ w) (hH : H.CLe H2) (hb : ∀ b x, σ.get b = some x → ∀ c e f, w.heap[(ι b).blk]? = some (.cells c e f) → ∀ o v, c[o]? = some v → H2.cell? (ι b).blk o = some v) (n : Nat) :
    ∀ m, m ≤ n → FrzOk ι ι0 H H2 σ m := by
  induction n with
  | zero =>
    intro m hm v u v' hv h
    have : m = 0 := by omega
    subst this
    simp [frz] at h
  | succ n ih =>
    intro m hm
    rcases Nat.lt_or_ge m (n + 1) with hlt | hge
    · exact ih m (by omega)
    have : m = n + 1 := by omega
    subst this
    intro v u v' hv h
    have ihn := ih n (Nat.le_refl _)
    have own : ∀ {b : Nat} {x : ABlk}, σ.get b = some x → ∀ {c e f}, w.heap[(ι b).blk]? = some (.cells c e f) → RLe (c[·]?) (H2.cell? (ι b).blk) := by
      intro b x hx c e f hc o v ho
      exact hb b x hx _ _ _ hc o v ho
    cases hv with
    | sc => simp only [frz] at h; cases h; exact .sc _
    | ptr b i k hbn =>
      simp only [frz] at h
      split at h
      · split at h
        · rename_i sz els hg
          split at h
          · rename_i e he
            split at h
            · rename_i cs hcs
              cases h
              obtain ⟨h1, h2, c, elem, fr, h3, _, h4, h5, _⟩ := (hR.live b _ hg).1
              have hc := h5.get he
              rw [h1, Nat.add_zero]
              exact .iptr cs _ _ (frz_CRel ihn (own hg h3) hc.1 hcs)
            · cases h
          · cases h
        · cases h
      · cases h
    | iptr cs b o hc =>
      simp only [frz] at h
      split at h
      · rename_i cs' hcs
        cases h
        exact .iptr cs' b o (frz_CRel ihn (fun _ _ h => hH _ _ _ h) hc hcs)
      · cases h
    | slice b off len cap hbn hl hcap =>
      simp only [frz] at h
      split at h
      · rename_i sz els hg
        split at h
        · rename_i hle
          split at h
          · rename_i es hes
            cases h
            have hle := Nat.le_of_ble_eq_true hle
            obtain ⟨h1, h2, c, elem, fr, h3, _, h4, h5, _⟩ := (hR.live b _ hg).1
            have hd := (h5.drop off).take len
            rw [h1]
            refine .data sz false es _ _ len cap ?_ hl (by simp) (frz_DRel ih (own hg h3) hd hes)
            rw [mapO_length hes]
            simp; omega
          · cases h
        · cases h
      · cases h
    | view b off len hbn hcap =>
      simp only [frz] at h
      split at h
      · rename_i sz els hg
        split at h
        · rename_i hle
          split at h
          · rename_i es hes
            cases h
            have hle := Nat.le_of_ble_eq_true hle
            obtain ⟨h1, h2, c, elem, fr, h3, _, h4, h5, _⟩ := (hR.live b _ hg).1
            have hd := (h5.drop off).take len
            rw [h1]
            refine .data sz true es _ _ len len ?_ (Nat.le_refl _) (by simp) (frz_DRel ih (own hg h3) hd hes)
            rw [mapO_length hes]
            simp; omega
          · cases h
        · cases h
      · cases h
    | data sz t els b o len cap hlen hl ht hd =>
      simp only [frz] at h
      split at h
      · rename_i es hes
        cases h
        exact .data sz t es b o len cap (by rw [mapO_length hes]; exact hlen) hl ht (frz_DRel ih (fun _ _ h => hH _ _ _ h) hd hes)
      · cases h
    | map b hb => simp [frz] at h
    | yld b hb => simp [frz] at h
    | endS b off o cap hb hc ho =>
      simp only [frz] at h
      split at h
      · cases h; exact .data _ false [] _ o 0 cap rfl (Nat.zero_le _) (by simp) (.nil _ _ _)
      · cases h
    | func fn fs cs fs' cs' hf hc =>
      simp only [frz] at h
      split at h
      · rename_i a ha
        split at h
        · rename_i b' hb'
          cases h
          exact .func fn a b' fs' cs' (frz_LRel ihn hf ha) (frz_LRel ihn hc hb')
        · cases h
      · cases h
    | iface t v v' hv =>
      simp only [frz] at h
      split at h
      · rename_i y hy
        cases h
        exact .iface t y v' (ihn v y v' hv hy)
      · cases h
    | agg cs cs' hc =>
      simp only [frz] at h
      split at h
      · rename_i y hy
        cases h
        exact .agg y cs' (frz_LRel ihn hc hy)
      · cases h
    | tuple cs cs' hc =>
      simp only [frz] at h
      split at h
      · rename_i y hy
        cases h
        exact .tuple y cs' (frz_LRel ihn hc hy)
      · cases h
end

def frzE (σ : AStore) (n : Nat) : AEnd → Option AEnd
  | .ret v => match frz σ n v with
    | some v => some (.ret v)
    | none => none
  | .pan v => match frz σ n v with
    | some v => some (.pan v)
    | none => none

/-- All that lies there is fixed; what was not before: nothing is told of it. -/
def Imm.over (H : Imm) (w : World) : Imm := fun c => match H c with
  | some x => some x
  | none => (w.heap[c]?).map (false, ·)

/-- As before, and what is new is fixed. -/
def Imm.past (H H' : Imm) (w w' : World) : Imm := fun c => if c < w.heap.size then H c else match H' c with
  | some x => some x
  | none => (w'.heap[c]?).map (true, ·)

theorem heap_lt {w : World} {c : Nat} {o : Obj} (h : w.heap[c]? = some o) : c < w.heap.size := by
  rcases Nat.lt_or_ge c w.heap.size with h' | h'
  · exact h'
  · simp [Array.getElem?_eq_none h'] at h

theorem ACalls.pure {E : Env} (hG : ∀ g, WF 0 (E.G g)) {f : FuncId} {args : List AVal} (ha : WFs 0 args) {R : AEnd → AStore → Prop} {N : Nat} (h : ACalls E f args empty R)
    (hF : ∀ e σ0, R e σ0 → ∃ u, frzE σ0 N e = some u) (σ : AStore) : ACalls E f args σ fun e σ' => σ' = σ ∧ ∃ e0 σ0, R e0 σ0 ∧ frzE σ0 N e0 = some e := by
  intro ι H w args' hR hargs
  have hle : H.Le (H.over w) := fun c o hc => by simp [Imm.over, hc]
  have imm0 : ∀ c o, (H.over w) c = some o → w.heap[c]? = some o.2 := by
    intro c o hc
    unfold Imm.over at hc
    cases hx : H c with
    | some x => rw [hx] at hc; cases hc; exact hR.imm c _ hx
    | none =>
      rw [hx] at hc
      cases hy : w.heap[c]? with
      | none => simp [hy] at hc
      | some y => simp [hy] at hc; subst hc; rfl
  have hR0 : Rel E ι (H.over w) empty w :=
    { imm := imm0
      live := fun b x h => by simp [AStore.fin empty b (Nat.zero_le _)] at h
      inj := fun b b' x x' h => by simp [AStore.fin empty b (Nat.zero_le _)] at h
      glob := fun g => VRel.mono (m := 0) (fun _ h => by omega) (Nat.le_refl _) hle.cle (hR.glob g) (hG g)
      keep := hR.keep
      tys := fun b t h => by simp [empty] at h }
  have hargs0 : LRel 0 ι (H.over w) args args' := LRel.mono (m := 0) (fun _ h => by omega) (Nat.le_refl _) hle.cle hargs ha
  refine Calls.mono (h ι (H.over w) w args' hR0 hargs0) ?_
  rintro e w' ⟨ι', H', σ0, ae, hr, he, hR', hx⟩
  obtain ⟨u, hu⟩ := hF ae σ0 hr
  -- what was, is
  have hold : ∀ (c : Nat) (o : Obj), w.heap[c]? = some o → w'.heap[c]? = some o := by
    intro c o hc
    cases hHc : (H.over w) c with
    | some x =>
      have := imm0 c x hHc
      rw [hc] at this
      cases this
      exact hR'.imm c x (hx.imm c x hHc)
    | none =>
      unfold Imm.over at hHc
      split at hHc
      · cases hHc
      · simp [hc] at hHc
  have hsz : w.heap.size ≤ w'.heap.size := by
    rcases Nat.eq_zero_or_pos w.heap.size with h0 | h0
    · omega
    · have := hold (w.heap.size - 1) (w.heap[w.heap.size - 1]'(by omega)) (by simp [show w.heap.size - 1 < w.heap.size by omega])
      have := heap_lt this
      omega
  have hlt : ∀ (c : Nat), c < w.heap.size → w'.heap[c]? = w.heap[c]? := by
    intro c hc
    rw [hold c w.heap[c] (by simp [hc])]
    simp [hc]
  -- what is told
  have hp1 : ∀ b, b < w.heap.size → H.past H' w w' b = H b := fun b hb => by simp only [Imm.past, if_pos hb]
  have hp2 : ∀ b, ¬ b < w.heap.size → H.past H' w w' b = match H' b with | some x => some x | none => (w'.heap[b]?).map (true, ·) := fun b hb => by simp only [Imm.past, if_neg hb]
  have hover : ∀ b, b < w.heap.size → ∃ x, (H.over w) b = some x := by
    intro b hb
    unfold Imm.over
    cases hHc : H b with
    | some y => exact ⟨y, rfl⟩
    | none => exact ⟨(false, w.heap[b]), by simp [hb]⟩
  have hcle : H'.CLe (H.past H' w w') := by
    intro b o v hc
    unfold Imm.cell? at hc ⊢
    by_cases hb : b < w.heap.size
    · obtain ⟨x, hHb⟩ := hover b hb
      have h1 := hx.imm b x hHb
      rw [h1] at hc
      rw [hp1 b hb]
      unfold Imm.over at hHb
      cases hHc : H b with
      | some y => rw [hHc] at hHb; cases hHb; exact hc
      | none => rw [hHc] at hHb; simp [hb] at hHb; subst hHb; cases hc
    · rw [hp2 b hb]
      cases hHb : H' b with
      | none => rw [hHb] at hc; cases hc
      | some x => rw [hHb] at hc; exact hc
  have hnew : ∀ (b : Nat) c e f, w'.heap[b]? = some (.cells c e f) → H' b = none → ∀ o v, c[o]? = some v → (H.past H' w w').cell? b o = some v := by
    intro b c e f hb hn o v ho
    have hbs : ¬ b < w.heap.size := by
      intro hb'
      cases hHo : (H.over w) b with
      | some x => rw [hx.imm b x hHo] at hn; cases hn
      | none =>
        unfold Imm.over at hHo
        split at hHo
        · cases hHo
        · simp [hb'] at hHo
    unfold Imm.cell?
    rw [hp2 b hbs, hn]
    simp only [hb, Option.map_some]
    exact ho
  have hfrz := frz_ok (ι0 := ι) hR' hcle (fun b x hx c e f hc o v ho => hnew _ c e f hc (hR'.live b x hx).2.1 o v ho) N N (Nat.le_refl _)
  have hLe : H.Le (H.past H' w w') := by
    intro c o hc
    have := heap_lt (hR.imm c o hc)
    simp [Imm.past, this, hc]
  have hE : Ext σ.next ι H σ.next ι (H.past H' w w') := ⟨Nat.le_refl _, fun _ _ => rfl, hLe⟩
  refine ⟨ι, H.past H' w w', σ, u, ⟨rfl, ae, σ0, hr, hu⟩, ?_, ?_, hE⟩
  · have up : ∀ {v : AVal} {v' : Value}, VRel 0 ι (H.past H' w w') v v' → VRel σ.next ι (H.past H' w w') v v' :=
      fun h => VRel.mono (m := 0) (fun _ h => by omega) (Nat.zero_le _) (fun _ _ _ h => h) h h.wf
    cases he with
    | ret v v' hv =>
      simp only [frzE] at hu
      split at hu
      · rename_i y hy
        cases hu
        exact .ret _ _ (up (hfrz v y v' hv hy))
      · cases hu
    | pan v v' hv =>
      simp only [frzE] at hu
      split at hu
      · rename_i y hy
        cases hu
        exact .pan _ _ (up (hfrz v y v' hv hy))
      · cases hu
  · refine ⟨?_, ?_, hR.inj, fun g => (hR.glob g).ext hE, hR'.keep, hR.tys⟩
    · intro c o hc
      unfold Imm.past at hc
      split at hc
      · exact hold c _ (hR.imm c o hc)
      · split at hc
        · rename_i x hx'
          cases hc
          exact hR'.imm c _ hx'
        · cases hy : w'.heap[c]? with
          | none => simp [hy] at hc
          | some y => simp [hy] at hc; subst hc; rfl
    · intro b x hbx
      obtain ⟨h1, h2, h3⟩ := hR.live b x hbx
      refine ⟨h1.ext hE (hlt _ h3) hsz ?_, ?_, by omega⟩
      · rintro m since seen rfl
        exact hlt _ h1.1.2.1
      · simp [Imm.past, h3, h2]
end Abs
end
noncomputable section
namespace Abs
set_option linter.unusedVariables false
set_option linter.unusedSimpArgs false
set_option linter.unusedSectionVars false
open Go

/-! ### A call whose arguments no one writes any more -/

def onlyT (σ : AStore) : List Nat → T ABlk → T ABlk
  | [], t => t
  | b :: r, t => onlyT σ r (T.put (b + 1) t b (σ.get b))

/-- These blocks alone. -/
def AStore.only (σ : AStore) (bs : List Nat) : AStore := ⟨onlyT σ bs .leaf, σ.next, []⟩

theorem onlyT_get {σ : AStore} : ∀ (bs : List Nat) (t : T ABlk) {b : Nat} {x : ABlk}, (onlyT σ bs t).get b = some x → (b ∈ bs ∧ σ.get b = some x) ∨ t.get b = some x
  | [], t, b, x, h => .inr h
  | c :: r, t, b, x, h => by
      rcases onlyT_get r _ h with h1 | h1
      · exact .inl ⟨by simp [h1.1], h1.2⟩
      · rw [T.get_put _ _ _ _ _ (lt_two_pow_sub _)] at h1
        split at h1
        · rename_i e; subst e; exact .inl ⟨by simp, h1⟩
        · exact .inr h1

theorem AStore.only_get {σ : AStore} {bs : List Nat} {b : Nat} {x : ABlk} (h : (σ.only bs).get b = some x) : b ∈ bs ∧ σ.get b = some x := by
  have hlt := AStore.lt_of_get h
  rw [AStore.get_of_lt hlt] at h
  rcases onlyT_get bs .leaf h with h | h
  · exact h
  · cases h

def delAll : List Nat → AStore → AStore
  | [], σ => σ
  | b :: r, σ => delAll r (σ.del b)

theorem delAll_next : ∀ (bs : List Nat) (σ : AStore), (delAll bs σ).next = σ.next
  | [], σ => rfl
  | b :: r, σ => delAll_next r (σ.del b)

/-- The blocks that values lead to. -/
def blks (σ : AStore) : Nat → List AVal → List Nat → List Nat
  | 0, _, acc => acc
  | _ + 1, [], acc => acc
  | f + 1, v :: r, acc =>
    match v with
    | .agg xs | .tuple xs | .iptr xs => blks σ f (xs ++ r) acc
    | .iface _ v => blks σ f (v :: r) acc
    | .func _ a b => blks σ f (a ++ (b ++ r)) acc
    | .ptr b _ _ | .slice b _ _ | .view b _ _ | .endS b _ =>
      match acc.any (Nat.beq b) with
      | true => blks σ f r acc
      | false => match σ.get b with
        | some (.cells _ els) => blks σ f (els ++ r) (b :: acc)
        | _ => blks σ f r acc
    | _ => blks σ f r acc

def fzArgs (σ : AStore) (args : List AVal) : Option (List AVal × AStore) :=
  match blks σ 2000 args [] with
  | bs => match mapO (frz (σ.only bs) 100) args with
    | some args' => some (args', delAll bs σ)
    | none => none

section
variable {E : Env} {ι : Inj} {H : Imm} {σ σ' : AStore} {w : World}

theorem Rel.freezes : ∀ (bs : List Nat) {σ : AStore} {H : Imm}, Rel E ι H σ w →
    ∃ H', Rel E ι H' (delAll bs σ) w ∧ Ext σ.next ι H σ.next ι H' ∧
      ∀ b x, b ∈ bs → σ.get b = some x → ∀ c e f, w.heap[(ι b).blk]? = some (.cells c e f) → ∀ o v, c[o]? = some v → H'.cell? (ι b).blk o = some v
  | [], σ, H, hR => ⟨H, hR, Ext.refl _ _ _, fun b x h => by simp at h⟩
  | b :: r, σ, H, hR => by
      cases hb : σ.get b with
      | none =>
        have hR1 : Rel E ι H (σ.del b) w := hR.restrict rfl (by
          intro b' x' hx'
          rw [AStore.get_del] at hx'
          split at hx'
          · cases hx'
          · exact hx') (fun _ h => h)
        obtain ⟨H', h1, h2, h3⟩ := Rel.freezes r hR1
        refine ⟨H', h1, h2, ?_⟩
        intro b' x hm hx
        simp only [List.mem_cons] at hm
        rcases hm with rfl | hm
        · rw [hb] at hx; cases hx
        · exact h3 b' x hm (by
            rw [AStore.get_del]
            split
            · rename_i e; subst e; rw [hb] at hx; cases hx
            · exact hx)
      | some y =>
        obtain ⟨_, _, hlt⟩ := hR.live b y hb
        obtain ⟨o, ho⟩ : ∃ o, w.heap[(ι b).blk]? = some o := ⟨w.heap[(ι b).blk], by simp [hlt]⟩
        obtain ⟨f1, f2⟩ := hR.freeze hb ho
        obtain ⟨H', h1, h2, h3⟩ := Rel.freezes r f1
        refine ⟨H', h1, f2.trans h2, ?_⟩
        have told : ∀ c e f, w.heap[(ι b).blk]? = some (.cells c e f) → ∀ o v, c[o]? = some v → H'.cell? (ι b).blk o = some v := by
          intro c e f hc k v hv
          rw [ho] at hc
          cases hc
          exact h2.imm.cell (by simpa [Imm.cell?, Imm.with] using hv)
        intro b' x hm hx
        by_cases e : b' = b
        · subst e; exact told
        · simp only [List.mem_cons] at hm
          rcases hm with rfl | hm
          · exact absurd rfl e
          · exact h3 b' x hm (by rw [AStore.get_del, if_neg e]; exact hx)

theorem fzArgs_sound (hR : Rel E ι H σ w) {args args' : List AVal} {ws : List Value} (hargs : LRel σ.next ι H args ws) (h : fzArgs σ args = some (args', σ')) :
    ∃ H', Rel E ι H' σ' w ∧ LRel σ'.next ι H' args' ws ∧ Ext σ.next ι H σ'.next ι H' := by
  unfold fzArgs at h
  simp only [] at h
  generalize blks σ 2000 args [] = bs at h
  cases hus : mapO (frz (σ.only bs) 100) args with
  | none => rw [hus] at h; cases h
  | some us =>
    rw [hus] at h
    cases h
    obtain ⟨H', h1, h2, h3⟩ := Rel.freezes bs hR
    have hR2 : Rel E ι H (σ.only bs) w := hR.restrict rfl (fun b x hx => (AStore.only_get hx).2) (fun p hp => by simp [AStore.only] at hp)
    have hok := frz_ok (ι0 := ι) (H2 := H') hR2 h2.imm.cle (fun b x hx c e f hc o v hv => h3 b x (AStore.only_get hx).1 (AStore.only_get hx).2 c e f hc o v hv) 100 100 (Nat.le_refl _)
    have hl : LRel 0 ι H' args' ws := frz_LRel hok (σ := σ.only bs) hargs hus
    rw [delAll_next]
    exact ⟨H', h1, LRel.mono (m := 0) (fun _ h => by omega) (Nat.zero_le _) (fun _ _ _ h => h) hl hl.wf, h2⟩

theorem ACalls.fz {f : FuncId} {args args' : List AVal} {R : AEnd → AStore → Prop} (h : fzArgs σ args = some (args', σ')) (hc : ACalls E f args' σ' R) : ACalls E f args σ R := by
  intro ι H w ws hR hargs
  obtain ⟨H', h1, h2, h3⟩ := fzArgs_sound hR hargs h
  refine Calls.mono (hc ι H' w ws h1 h2) ?_
  rintro e w' ⟨ι1, H1, σ1, ae, hr, he, hR1, hx⟩
  exact ⟨ι1, H1, σ1, ae, hr, he, hR1, h3.trans hx⟩
end
end Abs
end
