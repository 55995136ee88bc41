/-
  Part of the abstract layer (Q): values, stores and steps that stand for those of the model, and the proof that they do. It proves no statement by itself.
-/
import Derived.Test.YtmimfnjcnndhpaaGreatAbsP
noncomputable section
namespace Abs
set_option linter.unusedVariables false
set_option linter.unusedSimpArgs false
set_option linter.unusedSectionVars false
open Go

/-! ### Operations in a row -/

/-- What is left where nothing was done. -/
def undefA : AVal := .tuple []

def aYield (ops : Array Oper) (a : AAct) (j : Nat) : Option (Option Bool) :=
  match (ops[j]?).bind (·.dst) with
  | some t => match a.tmps.get t with
    | some (.sc (.bool b)) => some (some b)
    | some (.tuple _) => some none
    | _ => none
  | none => none

/-! ### Rounds of a loop over a function -/

def roundTmps : T AVal → List Tmp → List AVal → T AVal
  | tm, t :: ts, v :: vs => roundTmps (T.put 20 tm t (some v)) ts vs
  | tm, _, _ => tm

/-- What is owed where a round ends. -/
def aRoundPost (b : Nat) (R : AEnd → AStore → Prop) : APred := fun ex _ σ =>
  ∃ st pend ps as bd tm nt d, σ.get b = some (.loop st pend ps as bd tm nt d) ∧
    match ex with
    | .normal => R (.ret (.sc (.bool true))) (σ.set b (.loop .ready none ps as bd tm nt d))
    | .ret => R (.ret (.sc (.bool false))) (σ.set b (.loop .done (some .ret) ps as bd tm nt d))
    | .exit id => R (.ret (.sc (.bool false))) (σ.set b (.loop .done (some (.exit id)) ps as bd tm nt d))
    | .goto l => R (.ret (.sc (.bool false))) (σ.set b (.loop .done (some (.goto l)) ps as bd tm nt d))
    | .pan _ => False

def aRoundMid (E : Env) (b : Nat) (R : AEnd → AStore → Prop) (bd : Code) : APred := fun ex a σ =>
  ex = .normal ∧ ∃ pend ps as bd1 tm nt d, σ.get b = some (.loop .ready pend ps as bd1 tm nt d) ∧
    AWp { E with rd := some b } bd (aRoundPost b R) a (σ.set b (.loop .busy pend ps as bd1 tm nt d))

def ARound (E : Env) (b : Nat) (args : List AVal) (σ : AStore) (R : AEnd → AStore → Prop) : Prop :=
  ∀ st pend ps as bd tm nt d, σ.get b = some (.loop st pend ps as bd tm nt d) → AWp { E with rd := some b } as (aRoundMid E b R bd) ⟨roundTmps tm ps.toList args, nt, []⟩ σ

def ACallsT (E : Env) (t : Tgt) (args : List AVal) (σ : AStore) (R : AEnd → AStore → Prop) : Prop :=
  match t with
  | .fn f => ACalls E f args σ R
  | .yld b => ARound E b args σ R

theorem aRoundPost_mono {b : Nat} {R R' : AEnd → AStore → Prop} (hr : ∀ e σ, R e σ → R' e σ) {ex : AExit} {a : AAct} {σ : AStore} (h : aRoundPost b R ex a σ) : aRoundPost b R' ex a σ := by
  obtain ⟨st, pend, ps, as, bd, tm, nt, d, hg, hh⟩ := h
  refine ⟨st, pend, ps, as, bd, tm, nt, d, hg, ?_⟩
  cases ex with
  | pan v => exact hh
  | _ => exact hr _ _ hh

theorem ACallsT.mono {E : Env} {t : Tgt} {args : List AVal} {σ : AStore} {R R' : AEnd → AStore → Prop} (h : ACallsT E t args σ R) (hr : ∀ e σ, R e σ → R' e σ) : ACallsT E t args σ R' := by
  cases t with
  | fn f => exact ACalls.mono h hr
  | yld b =>
    intro st pend ps as bd tm nt d hg
    refine AWp.mono (h st pend ps as bd tm nt d hg) ?_
    rintro ex a σ ⟨he, pend, ps, as, bd1, tm, nt, d, hg, hh⟩
    exact ⟨he, pend, ps, as, bd1, tm, nt, d, hg, hh.mono fun _ _ _ => aRoundPost_mono hr⟩

/-- A loop's record is written. -/
theorem Rel.set_loop {E : Env} {ι : Inj} {H : Imm} {σ : AStore} {w : World} (h : Rel E ι H σ w) {b : Nat} {st : LoopState} {pend : Option Code} {ps : Array Tmp} {as bd : Code} {tm : T AVal} {nt d : Nat}
    (hb : σ.get b = some (.loop st pend ps as bd tm nt d)) (st' : LoopState) (pend' : Option Code) : ∃ fn tmps, w.heap[(ι b).blk]? = some (.loop ⟨st, pend, fn, tmps, ps, as, bd, (ι d).blk⟩) ∧
      Rel E ι H (σ.set b (.loop st' pend' ps as bd tm nt d)) { w with heap := w.heap.setIfInBounds (ι b).blk (.loop ⟨st', pend', fn, tmps, ps, as, bd, (ι d).blk⟩) } := by
  obtain ⟨⟨z, hd, fn, tmps, g1, g2, g3⟩, hb2, hb3⟩ := h.live b _ hb
  refine ⟨fn, tmps, g1, h.set hb (by simp) (fun c hc => by simp [Ne.symm hc]) ⟨rfl, rfl⟩ ⟨z, hd, fn, tmps, by simp [hb3], g2, g3⟩ ?_⟩
  intro b' m since seen hne hz hmb
  obtain ⟨h1, h2, h3⟩ := h.live b' _ hz
  have hne' : (ι b').blk ≠ (ι b).blk := fun hc => hne (h.inj b' b _ _ hz hb hc)
  obtain ⟨⟨g0, g0', g0''⟩, s', se', st2, q1, q2, q3, q4⟩ := h1
  refine ⟨⟨g0, by simpa using g0', g0''⟩, s', se', st2, by simp [Ne.symm hne']; exact q1, q2, q3, ?_⟩
  intro es clock hh
  rw [hmb] at hh
  simp [hb3] at hh

theorem roundTmps_rel {n : Nat} {ι : Inj} {H : Imm} {nt : Nat} (hnt : nt < 1000000) : ∀ (ps : List Tmp) (args : List AVal) (args' : List Value) (tm : T AVal) (tmps : Array Value), LRel n ι H args args' → (ps.all fun t => Nat.blt t nt) = true → tmps.size = nt →
    (∀ t v, tm.get t = some v → t < nt ∧ VRel n ι H v (tmps.getD t undef)) → args.length = ps.length →
    ActRel n ι H ⟨roundTmps tm ps args, nt, []⟩ { tmps := (ps.zip args').foldl (fun tmps x => tmps.setIfInBounds x.1 x.2) tmps, defers := [] }
  | [], args, args', tm, tmps, hl, hp, hs, ht, hlen => by
      cases args with
      | nil => cases hl; exact ⟨hs, ht, .nil⟩
      | cons x xs => simp at hlen
  | p :: ps, args, args', tm, tmps, hl, hp, hs, ht, hlen => by
      cases hl with
      | nil => simp at hlen
      | cons v w vs ws hv hvs =>
        simp only [List.all_cons, Bool.and_eq_true, Nat.blt_eq] at hp
        simp only [roundTmps, List.zip_cons_cons, List.foldl_cons]
        refine roundTmps_rel hnt ps vs ws _ _ hvs hp.2 (by simpa using hs) ?_ (by simpa using hlen)
        intro t x hx
        rw [T.get_put _ _ _ _ _ (by omega)] at hx
        split at hx
        · rename_i e
          cases hx
          subst e
          refine ⟨hp.1, ?_⟩
          have : (tmps.setIfInBounds t w).getD t undef = w := by
            rw [Array.getD_eq_getD_getElem?]; simp [hs, hp.1]
          rw [this]; exact hv
        · rename_i e
          obtain ⟨g1, g2⟩ := ht t x hx
          refine ⟨g1, ?_⟩
          have : (tmps.setIfInBounds p w).getD t undef = tmps.getD t undef := by
            rw [Array.getD_eq_getD_getElem?, Array.getD_eq_getD_getElem?]; simp [Ne.symm e]
          rw [this]; exact g2

theorem heap_lt' {w : World} {c : Nat} {o : Obj} (h : w.heap[c]? = some o) : c < w.heap.size := by
  rcases Nat.lt_or_ge c w.heap.size with h' | h'
  · exact h'
  · rw [Array.getElem?_eq_none h'] at h; cases h

theorem run_setObj' {P : Program} {w : World} {r : Nat} {o' : Obj} (h : w.heap[r]? = some o') (hn : ∀ c t f, o' ≠ .cells c t f) (o : Obj) : (setObj r o).run P w = .ok () { w with heap := w.heap.setIfInBounds r o } := by
  cases o' <;> first
    | exact absurd rfl (hn _ _ _)
    | simp only [setObj, Sem.run, h]

theorem ARound.sound {E : Env} {b : Nat} {args : List AVal} {σ : AStore} {R : AEnd → AStore → Prop} (h : ARound E b args σ R) {ι : Inj} {H : Imm} {w : World} (hR : Rel E ι H σ w) {args' : List Value} (hargs : LRel σ.next ι H args args')
    {st : LoopState} {pend : Option Code} {ps : Array Tmp} {as bd : Code} {tm : T AVal} {nt d fn : Nat} {tmps : Array Value} (hg : σ.get b = some (.loop st pend ps as bd tm nt d)) (h1 : args.length = ps.size)
    (h2 : (ps.toList.all fun t => Nat.blt t nt) = true) (h3 : nt < 1000000) (h4 : tmps.size = nt) (h5 : ∀ t v, tm.get t = some v → t < nt ∧ VRel σ.next ι H v (tmps.getD t undef)) (ιr : Inj) :
    RoundIn (FR ιr E.rd) 0 E.P (ι b).blk fn ((ps.toList.zip args').foldl (fun tmps x => tmps.setIfInBounds x.1 x.2) tmps) as bd w
      (fun e w' => ∃ ι' H' σ' ae, R ae σ' ∧ EndRel σ'.next ι' H' ae e ∧ Rel E ι' H' σ' w' ∧ Ext σ.next ι H σ'.next ι' H') := by
  refine roundIn_of_wpIn trivial ?_
  have hlt := AStore.lt_of_get hg
  have hfr : (FR ιr E.rd).inRound (ι b).blk = FR ι (some b) := rfl
  have hfr' : ∀ {n' : Nat} {ι' : Inj} {H' : Imm}, Ext σ.next ι H n' ι' H' → FR ι' (some b) = FR ι (some b) := fun he => FR_ext he (fun b' hb' => by cases hb'; exact hlt)
  rw [hfr]
  have ha := roundTmps_rel h3 ps.toList args args' tm tmps hargs h2 h4 h5 (by simpa using h1)
  refine wpIn_mono (h st pend ps as bd tm nt d hg ι H w _ (hR.rd _) ha (fun b' hb' => by cases hb'; exact hlt)) ?_
  rintro e a1 w1 ⟨ι1, H1, σ1, a1', ae, ⟨hae, pend1, ps1, as1, bd1, tm1, nt1, d1, hg1, hbody⟩, hx, ha1, hR1, he1⟩
  subst hae
  cases hx
  have hR1' : Rel E ι1 H1 σ1 w1 := hR1.unrd
  have hbb : (ι1 b).blk = (ι b).blk := by rw [he1.inj b hlt]
  obtain ⟨fn1, tmps1, q1, q2⟩ := hR1'.set_loop hg1 .busy pend1
  refine ⟨{ w1 with heap := w1.heap.setIfInBounds (ι1 b).blk (.loop ⟨.busy, pend1, fn1, tmps1, ps1, as1, bd1, (ι1 d1).blk⟩) }, ?_, ?_⟩
  · have hgo : (getObj (ι b).blk).run E.P w1 = .ok (.loop ⟨.ready, pend1, fn1, tmps1, ps1, as1, bd1, (ι1 d1).blk⟩) w1 := by rw [← hbb]; simp [getObj, Sem.run, q1]
    have hset : ∀ o, (setObj (ι b).blk o).run E.P w1 = .ok () { w1 with heap := w1.heap.setIfInBounds (ι1 b).blk o } := by intro o; rw [← hbb]; exact run_setObj' q1 (by simp) o
    simp [Instr.beginRound, Instr.getLoop, hgo, hset]
  · have hw := hbody ι1 H1 _ a1 (q2.rd _) ha1 (fun b' hb' => by cases hb'; exact Nat.lt_of_lt_of_le hlt he1.next)
    rw [hfr' he1] at hw
    refine wpIn_mono hw ?_
    rintro e2 a2 w2 ⟨ι2, H2, σ2, a2', ae2, ⟨st2, pend2, ps2, as2, bd2, tm2, nt2, d2, hg2, hpost⟩, hx2, ha2, hR2, he2⟩
    have hR2' : Rel E ι2 H2 σ2 w2 := hR2.unrd
    have he12 := he1.trans he2
    have hbb2 : (ι2 b).blk = (ι b).blk := by rw [he12.inj b hlt]
    have fin : ∀ (jump : Option Code) (st' : LoopState) (v : Bool), (st' = if jump.isNone then .ready else .done) → v = jump.isNone → R (.ret (.sc (.bool v))) (σ2.set b (.loop st' jump ps2 as2 bd2 tm2 nt2 d2)) →
        ∃ v' w', (Instr.endRound (ι b).blk jump).run E.P w2 = .ok v' w' ∧ ∃ ι' H' σ' ae, R ae σ' ∧ EndRel σ'.next ι' H' ae (.returned v') ∧ Rel E ι' H' σ' w' ∧ Ext σ.next ι H σ'.next ι' H' := by
      intro jump st' v hst hv hr
      obtain ⟨fn2, tmps2, q3, q4⟩ := hR2'.set_loop hg2 st' jump
      refine ⟨.bool v, _, ?_, ι2, H2, _, _, hr, .ret _ _ (.sc _), q4, he12⟩
      subst hst hv
      have hgo : (getObj (ι b).blk).run E.P w2 = .ok (.loop ⟨st2, pend2, fn2, tmps2, ps2, as2, bd2, (ι2 d2).blk⟩) w2 := by rw [← hbb2]; simp [getObj, Sem.run, q3]
      have hset : ∀ o, (setObj (ι b).blk o).run E.P w2 = .ok () { w2 with heap := w2.heap.setIfInBounds (ι2 b).blk o } := by intro o; rw [← hbb2]; exact run_setObj' q3 (by simp) o
      simp [Instr.endRound, Instr.getLoop, hgo, hset]
    cases hx2 with
    | normal => exact fin none .ready true rfl rfl hpost
    | ret => exact fin (some .ret) .done false rfl rfl hpost
    | exit id => exact fin (some (.exit id)) .done false rfl rfl hpost
    | goto l => exact fin (some (.goto l)) .done false rfl rfl hpost
    | pan v v' hv => exact hpost.elim

/-- What an operation comes to, in continuation form. -/
def aGo (E : Env) (dst : Option Tmp) (K : APred) (k : AAct → AStore → Prop) (a : AAct) (σ : AStore) : ARes → Prop
  | .val v σ' => a.fits dst = true ∧ k (a.put dst (some v)) σ'
  | .vals l => a.fits dst = true ∧ ∀ p ∈ l, k (a.put dst (some p.1)) p.2
  | .skip σ' => a.fits dst = true ∧ k (a.put dst (some undefA)) σ'
  | .enter f args => a.fits dst = true ∧ ACallsT E f args σ fun e σ' =>
      match e with
      | .ret v => k (a.put dst (some v)) σ'
      | .pan v => K (.pan v) a σ'
  | .dfr d => a.fits dst = true ∧ E.rd = none ∧ k (({ a with defers := d :: a.defers } : AAct).put dst (some undefA)) σ
  | .pan v => K (.pan v) a σ
  | .recov => False
  | .bad => False

def aStep (E : Env) (ops : Array Oper) (o : Oper) (K : APred) (k : AAct → AStore → Prop) (a : AAct) (σ : AStore) : Prop :=
  match o.guard with
  | none => aGo E o.dst K k a σ (aOp E false o.op (a.ev E.G) σ)
  | some (j, want) =>
    match aYield ops a j with
    | some b => (b = some want → aGo E o.dst K k a σ (aOp E false o.op (a.ev E.G) σ)) ∧ (b ≠ some want → a.fits o.dst = true ∧ k (a.put o.dst (some undefA)) σ)
    | none => False

section
variable {E : Env} {K : APred} {a : AAct} {σ : AStore}

theorem undefA_rel {n : Nat} {ι : Inj} {H : Imm} : VRel n ι H undefA undef := .tuple [] [] .nil

theorem aYield_sound {n : Nat} {ι : Inj} {H : Imm} {ops : Array Oper} {a' : Act} (ha : ActRel n ι H a a') {j : Nat} {b : Option Bool} (h : aYield ops a j = some b) : yielded ops a'.tmps j = b := by
  unfold aYield at h
  split at h
  · rename_i t ht
    split at h
    · rename_i c hc
      cases h
      obtain ⟨h1, h2⟩ := ha.tmps t _ hc
      have h3 := h2.sc_inv
      have hlt : t < a'.tmps.size := by rw [ha.size]; exact h1
      have : a'.tmps[t]? = some (.bool c) := by
        rw [Array.getD_eq_getD_getElem?, Array.getElem?_eq_getElem hlt] at h3
        rw [Array.getElem?_eq_getElem hlt]
        exact congrArg some h3
      simp [yielded, ht, this]
    · rename_i c hc
      cases h
      obtain ⟨h1, h2⟩ := ha.tmps t _ hc
      obtain ⟨cs, h3, _⟩ := h2.tuple_inv
      have hlt : t < a'.tmps.size := by rw [ha.size]; exact h1
      have : a'.tmps[t]? = some (.tuple cs.toArray) := by
        rw [Array.getD_eq_getD_getElem?, Array.getElem?_eq_getElem hlt] at h3
        rw [Array.getElem?_eq_getElem hlt]
        exact congrArg some h3
      simp [yielded, ht, this]
    · cases h
  · cases h

theorem aOp_defer {lit : Bool} {ρ : ARho} {c : Call} : aOp E lit (.defer c) ρ σ = .bad ∨ ∃ d, aOp E lit (.defer c) ρ σ = .dfr d := by
  simp only [aOp]
  split
  · split
    · split
      · exact .inr ⟨_, rfl⟩
      · exact .inl rfl
    · exact .inl rfl
  · exact .inl rfl

theorem fr_fn (ι : Inj) (rd : Option Nat) (f : FuncId) : (FR ι rd).fn f := trivial

theorem semAt_run {lit : Bool} {ρ : ARho} {ρ' : Operand → Value} {o : Oper} {ro : Option Nat} (h : (∀ d, aOp E lit o.op ρ σ ≠ .dfr d) ∧ aOp E lit o.op ρ σ ≠ .bad ∨ ro = none) : o.semAt ro ρ' = execOp ρ' o := by
  rcases h with h | rfl
  · refine Oper.semAt_eq _ _ _ ?_
    intro c hc
    rw [hc] at h
    rcases aOp_defer (E := E) (σ := σ) (lit := lit) (ρ := ρ) (c := c) with h1 | ⟨d, h1⟩
    · exact h.2 h1
    · exact h.1 d h1
  · exact Oper.semAt_none _ _

theorem aGo_sound {ι ι0 : Inj} {H H0 : Imm} {n0 : Nat} {w : World} {a' : Act} (hR : Rel E ι H σ w) (ha : ActRel σ.next ι H a a') (he : Ext n0 ι0 H0 σ.next ι H) {o : Oper} {k : AAct → AStore → Prop}
    {KK : Act → World → Prop} (hk : ∀ ι1 H1 σ1 a1 a1' w1, k a1 σ1 → ActRel σ1.next ι1 H1 a1 a1' → Rel E ι1 H1 σ1 w1 → Ext n0 ι0 H0 σ1.next ι1 H1 → KK a1' w1)
    (h : aGo E o.dst K k a σ (aOp E false o.op (a.ev E.G) σ)) (ιr : Inj) : o.wpIn (FR ιr E.rd) 0 E.P a' w KK (APost E n0 ι0 H0 K) := by
  have hs := aOp_sound hR (ha.rho hR) false o
  refine ⟨fun _ _ => trivial, ?_⟩
  have hsem : o.semAt (FR ιr E.rd).round a'.eval = execOp a'.eval o := by
    refine semAt_run (E := E) (σ := σ) (lit := false) (ρ := a.ev E.G) ?_
    cases hr : aOp E false o.op (a.ev E.G) σ with
    | dfr d => rw [hr] at h; right; rw [FR, h.2.1]; rfl
    | bad => rw [hr] at h; exact h.elim
    | _ => left; exact ⟨by simp, by simp⟩
  rw [hsem]
  generalize hr : aOp E false o.op (a.ev E.G) σ = r at h hs
  cases r with
  | val v σ' =>
    obtain ⟨v', w', ι', H', hrun, hv, hR', he'⟩ := hs
    rw [hrun]
    exact hk ι' H' σ' _ _ w' h.2 ((ha.ext he').put h.1 hv) hR' (he.trans he')
  | vals l =>
    obtain ⟨p, hp, v', w', ι', H', hrun, hv, hR', he'⟩ := hs
    rw [hrun]
    exact hk ι' H' p.2 _ _ w' (h.2 p hp) ((ha.ext he').put h.1 hv) hR' (he.trans he')
  | skip σ' =>
    obtain ⟨w', hrun, hR', hn⟩ := hs
    rw [hrun]
    have he' : Ext σ.next ι H σ'.next ι H := ⟨by omega, fun _ _ => rfl, Imm.Le.refl _⟩
    exact hk ι H σ' _ _ w' h.2 ((ha.ext he').put h.1 undefA_rel) hR' (he.trans he')
  | enter t args =>
   cases t with
   | yld b =>
    obtain ⟨args', hargs, st, pend, ps, as, bd, tm, nt, d, fn, tmps, g1, g2, g3, g4, g5, g6, hrun⟩ := hs
    rw [hrun]
    refine ⟨(fun hh => by cases hh), RoundIn.mono (ARound.sound h.2 hR hargs g1 g2 g3 g4 g5 g6 ιr) ?_⟩
    rintro e w1 ⟨ι1, H1, σ1, ae, hq, hx, hR1, he1⟩
    cases hx with
    | ret v v' hv => exact hk ι1 H1 σ1 _ _ w1 hq ((ha.ext he1).put h.1 hv) hR1 (he.trans he1)
    | pan v v' hv => exact ⟨ι1, H1, σ1, a, _, hq, .pan v v' hv, ha.ext he1, hR1, he.trans he1⟩
   | fn f =>
    obtain ⟨args', hrun, hargs⟩ := hs
    rw [hrun]
    refine ⟨(fun hh => by cases hh), callsIn_FR (Calls.mono (h.2 ι H w args' hR hargs) ?_)⟩
    rintro e w1 ⟨ι1, H1, σ1, ae, hq, hx, hR1, he1⟩
    cases hx with
    | ret v v' hv => exact hk ι1 H1 σ1 _ _ w1 hq ((ha.ext he1).put h.1 hv) hR1 (he.trans he1)
    | pan v v' hv => exact ⟨ι1, H1, σ1, a, _, hq, .pan v v' hv, ha.ext he1, hR1, he.trans he1⟩
  | dfr d =>
    obtain ⟨d', hrun, hd⟩ := hs
    rw [hrun]
    have ha2 : ActRel σ.next ι H { a with defers := d :: a.defers } { a' with defers := d' :: a'.defers } := ⟨ha.size, ha.tmps, .cons _ _ _ _ hd ha.defers⟩
    exact hk ι H σ _ _ w h.2.2 (ha2.put h.1 undefA_rel) hR he
  | pan v =>
    obtain ⟨v', hrun, hv⟩ := hs
    rw [hrun]
    exact ⟨ι, H, σ, a, _, h, .pan v v' hv, ha, hR, he⟩
  | recov => exact h.elim
  | bad => exact h.elim

theorem aStep_sound {ι ι0 : Inj} {H H0 : Imm} {n0 : Nat} {w : World} {a' : Act} (hR : Rel E ι H σ w) (ha : ActRel σ.next ι H a a') (he : Ext n0 ι0 H0 σ.next ι H) {ops : Array Oper} {i : Nat} {o : Oper}
    (ho : ops[i]? = some o) {k : AAct → AStore → Prop}
    {KK : Act → World → Prop} (hk : ∀ ι1 H1 σ1 a1 a1' w1, k a1 σ1 → ActRel σ1.next ι1 H1 a1 a1' → Rel E ι1 H1 σ1 w1 → Ext n0 ι0 H0 σ1.next ι1 H1 → KK a1' w1)
    (h : aStep E ops o K k a σ) (ιr : Inj) : wpOpIn (FR ιr E.rd) 0 E.P ops (APost E n0 ι0 H0 K) i KK a' w := by
  unfold wpOpIn
  simp only [ho]
  unfold aStep at h
  split at h
  · rename_i hg
    have : Region.wanted o (yielded ops a'.tmps) = true := by simp [Region.wanted, hg]
    rw [if_pos this]
    exact aGo_sound hR ha he hk h ιr
  · rename_i j want hg
    split at h
    · rename_i b hy
      have hy' := aYield_sound ha hy
      by_cases hb : b = some want
      · have : Region.wanted o (yielded ops a'.tmps) = true := by simp [Region.wanted, hg, hy', hb]
        rw [if_pos this]
        exact aGo_sound hR ha he hk (h.1 hb) ιr
      · have : ¬ Region.wanted o (yielded ops a'.tmps) = true := by simp [Region.wanted, hg, hy', hb]
        rw [if_neg this]
        obtain ⟨h1, h2⟩ := h.2 hb
        exact ⟨fun _ _ => trivial, hk ι H σ _ _ w h2 (ha.put h1 undefA_rel) hR he⟩
    · exact h.elim

/-- Operations in the order of a list of numbers. -/
def aOps (E : Env) (ops : Array Oper) (K : APred) : List Nat → AAct → AStore → Prop
  | [], a, σ => K .normal a σ
  | i :: rest, a, σ =>
    match ops[i]? with
    | none => aOps E ops K rest a σ
    | some o => aStep E ops o K (aOps E ops K rest) a σ

theorem aOps_sound (ιr : Inj) {ops : Array Oper} {n0 : Nat} {ι0 : Inj} {H0 : Imm} : ∀ (l : List Nat) {ι : Inj} {H : Imm} {a : AAct} {σ : AStore} {w : World} {a' : Act}, Rel E ι H σ w → ActRel σ.next ι H a a' → Ext n0 ι0 H0 σ.next ι H →
    aOps E ops K l a σ → wpOpsIn (FR ιr E.rd) 0 E.P ops (APost E n0 ι0 H0 K) l a' w
  | [], ι, H, a, σ, w, a', hR, ha, he, h => ⟨ι, H, σ, a, _, h, .normal, ha, hR, he⟩
  | i :: rest, ι, H, a, σ, w, a', hR, ha, he, h => by
      rw [wpOpsIn_cons]
      simp only [aOps] at h
      cases ho : ops[i]? with
      | none =>
        rw [ho] at h
        simp only [wpOpIn, ho]
        exact aOps_sound ιr rest hR ha he h
      | some o =>
        rw [ho] at h
        exact aStep_sound hR ha he ho (fun ι1 H1 σ1 a1 a1' w1 hk ha1 hR1 he1 => aOps_sound ιr rest hR1 ha1 he1 hk) h ιr

theorem AWp.region {id : Nat} {ops : Array Oper} (h : aOps E ops K (List.range ops.size) a σ) : AWp E (.region id ops false) K a σ :=
  fun ι _ _ _ hR ha _ => wpIn_region (aOps_sound ι _ hR ha (Ext.refl _ _ _) h)

/-! ### Functions -/

def aResults (E : Env) (rs : List ResultVar) (a : AAct) (σ : AStore) : Option (List AVal) :=
  match rs with
  | [] => some []
  | .tmp t :: rest =>
    match a.tmps.get t, aResults E rest a σ with
    | some v, some vs => some (v :: vs)
    | _, _ => none
  | .cell t ty :: rest =>
    match a.tmps.get t, E.ty ty, aResults E rest a σ with
    | some p, some i, some vs =>
      match aLoad i.isA i.size p σ with
      | some v => some (v :: vs)
      | none => none
    | _, _, _ => none

def aResult (E : Env) (rs : List ResultVar) (a : AAct) (σ : AStore) : Option AVal :=
  match aResults E rs a σ with
  | some [v] => some v
  | some vs => some (.tuple vs)
  | none => none

def resultSem (t : Array Value) : ResultVar → Sem Value
  | .tmp x => pure (t.getD x undef)
  | .cell x ty => do loadVar ty (← asAddr (t.getD x undef))

theorem run_results {ι : Inj} {H : Imm} {w : World} {a' : Act} (hR : Rel E ι H σ w) (ha : ActRel σ.next ι H a a') : ∀ (rs : List ResultVar) {vs : List AVal}, aResults E rs a σ = some vs →
    ∃ vs', (rs.mapM (resultSem a'.tmps)).run E.P w = .ok vs' w ∧ LRel σ.next ι H vs vs'
  | [], vs, h => by simp [aResults] at h; subst h; exact ⟨[], by simp, .nil⟩
  | .tmp t :: rest, vs, h => by
      simp only [aResults] at h
      split at h
      · rename_i v vs1 hv hvs
        cases h
        obtain ⟨vs', r1, r2⟩ := run_results hR ha rest hvs
        have := (ha.tmps t v hv).2
        exact ⟨a'.tmps.getD t undef :: vs', by simp only [List.mapM_cons, resultSem, Sem.run_bind, Sem.run_pure, Result.andThen_ok, r1], .cons _ _ _ _ this r2⟩
      · cases h
  | .cell t ty :: rest, vs, h => by
      simp only [aResults] at h
      split at h
      · rename_i p i vs1 hp hi hvs
        split at h
        · rename_i v hl
          cases h
          obtain ⟨vs', r1, r2⟩ := run_results hR ha rest hvs
          have hpr := (ha.tmps t p hp).2
          obtain ⟨v', q1, q2⟩ := aLoad_sound hi hR hpr hl
          have q1' : ((do loadVar ty (← asAddr (a'.tmps.getD t undef))) : Sem Value).run E.P w = .ok v' w := by
            have hptr : ∃ ad, a'.tmps.getD t undef = .pointer (some ad) := by
              unfold aLoad at hl
              split at hl
              · obtain ⟨b, o, h, _⟩ := hpr.iptr_inv; exact ⟨_, h⟩
              · obtain ⟨_, h⟩ := hpr.ptr_inv; exact ⟨_, h⟩
              · cases hl
            obtain ⟨ad, had⟩ := hptr
            rw [had] at q1 ⊢
            simpa [Instr.loadAt, Instr.sureAddr, asAddr] using q1
          exact ⟨v' :: vs', by simp only [List.mapM_cons, resultSem, Sem.run_bind, q1', r1, Sem.run_pure, Result.andThen_ok], .cons _ _ _ _ q2 r2⟩
        · cases h
      · cases h

theorem aResult_sound {ι : Inj} {H : Imm} {w : World} {a' : Act} (hR : Rel E ι H σ w) (ha : ActRel σ.next ι H a a') {fn : Func} {v : AVal} (h : aResult E fn.results.toList a σ = some v) :
    ∃ v', (results fn a'.tmps).run E.P w = .ok v' w ∧ VRel σ.next ι H v v' := by
  have key : ∀ vs vs', aResults E fn.results.toList a σ = some vs → LRel σ.next ι H vs vs' → (fn.results.toList.mapM (resultSem a'.tmps)).run E.P w = .ok vs' w →
      (results fn a'.tmps).run E.P w = .ok (if h : vs'.toArray.size = 1 then vs'.toArray[0] else .tuple vs'.toArray) w := by
    intro vs vs' _ _ hrun
    have e : (fn.results.mapM (resultSem a'.tmps) : Sem (Array Value)) = List.toArray <$> (fn.results.toList.mapM (resultSem a'.tmps) : Sem (List Value)) := by
      obtain ⟨l⟩ := fn.results
      simp
    have e2 : results fn a'.tmps = (do let vs ← fn.results.mapM (resultSem a'.tmps); pure (if h : vs.size = 1 then vs[0] else .tuple vs)) := by
      unfold results
      congr 1
    rw [e2, Sem.run_bind, e, Sem.run_map, hrun]
    rfl
  unfold aResult at h
  cases hr : aResults E fn.results.toList a σ with
  | none => simp [hr] at h
  | some vs =>
    rw [hr] at h
    obtain ⟨vs', r1, r2⟩ := run_results hR ha _ hr
    have hk := key vs vs' hr r2 r1
    match vs, r2, h with
    | [], r2, h =>
      cases r2
      simp at h
      subst h
      exact ⟨_, hk, .tuple [] [] .nil⟩
    | [x], r2, h =>
      obtain ⟨x', ws, rfl, hx, hs⟩ := r2.cons_inv
      obtain rfl := hs.nil_inv
      simp at h
      subst h
      exact ⟨x', hk, hx⟩
    | x :: y :: zs, r2, h =>
      obtain ⟨x', ws, rfl, hx, hs⟩ := r2.cons_inv
      obtain ⟨y', ws', rfl, hy, hs'⟩ := hs.cons_inv
      simp at h
      subst h
      refine ⟨_, hk, ?_⟩
      have : ¬ ((x' :: y' :: ws').toArray.size = 1) := by simp
      rw [dif_neg this]
      exact .tuple _ _ (.cons _ _ _ _ hx (.cons _ _ _ _ hy hs'))

/-- The act with which a function begins. -/
def aInitT : List AVal → Nat → T AVal → T AVal
  | [], _, t => t
  | v :: vs, k, t => aInitT vs (k + 1) (T.put 20 t k (some v))

def aInit (args : List AVal) (n : Nat) : AAct := ⟨aInitT args 0 .leaf, n, []⟩

theorem aInitT_get : ∀ (args : List AVal) (k : Nat) (t : T AVal) (x : Nat) (v : AVal), k + args.length < 2 ^ 20 - 1 → (aInitT args k t).get x = some v → (k ≤ x ∧ args[x - k]? = some v) ∨ t.get x = some v
  | [], k, t, x, v, _, h => .inr h
  | y :: ys, k, t, x, v, hk, h => by
      simp at hk
      rcases aInitT_get ys (k + 1) _ x v (by omega) h with ⟨h1, h2⟩ | h1
      · left
        refine ⟨by omega, ?_⟩
        rw [show x - k = (x - (k + 1)) + 1 by omega]
        simpa using h2
      · rw [T.get_put _ _ _ _ _ (by omega)] at h1
        split at h1
        · rename_i e; subst e; left; exact ⟨Nat.le_refl _, by simpa using h1⟩
        · exact .inr h1

theorem aInit_rel {n : Nat} {ι : Inj} {H : Imm} {args : List AVal} {args' : List Value} (h : LRel n ι H args args') {m : Nat} (hm : args.length ≤ m) (hl : args.length < 1000) :
    ActRel n ι H (aInit args m) { tmps := args'.toArray ++ Array.replicate (m - args'.toArray.size) undef, defers := [] } := by
  have hlen := h.length
  refine ⟨by simp [aInit]; omega, ?_, .nil⟩
  intro t v ht
  rcases aInitT_get args 0 .leaf t v (by omega) ht with ⟨_, h1⟩ | h1
  · simp at h1
    have hlt : t < args.length := by
      rcases Nat.lt_or_ge t args.length with h' | h'
      · exact h'
      · rw [List.getElem?_eq_none h'] at h1; cases h1
    obtain ⟨w, h2, h3⟩ := h.get h1
    refine ⟨by simp [aInit]; omega, ?_⟩
    have : (args'.toArray ++ Array.replicate (m - args'.toArray.size) undef).getD t undef = w := by
      rw [Array.getD_eq_getD_getElem?, Array.getElem?_append_left (by simp; omega)]
      simp [h2]
    rw [this]; exact h3
  · simp [T.get_leaf] at h1

/-- What is owed where a function without deferred calls ends. -/
def aEnd (E : Env) (fn : Func) (R : AEnd → AStore → Prop) : APred
  | .normal, a, σ | .ret, a, σ => a.defers = [] ∧ ∃ v, aResult E fn.results.toList a σ = some v ∧ R (.ret v) σ
  | .pan v, a, σ => a.defers = [] ∧ R (.pan v) σ
  | _, _, _ => False

theorem DefsRel.nil_inv {n : Nat} {ι : Inj} {H : Imm} {d : List Deferred} (h : DefsRel n ι H [] d) : d = [] := by cases h; rfl

theorem ACalls.of_wp (hrd : E.rd = none) {f : FuncId} {fn : Func} {c : Code} {args : List AVal} {R : AEnd → AStore → Prop} (hf : E.P.funcs[f]? = some fn) (hb : fn.body = some c) (hn : args.length ≤ fn.ntmps) (hl : args.length < 1000)
    (h : AWp E c (aEnd E fn R) (aInit args fn.ntmps) σ) : ACalls E f args σ R := by
  intro ι H w args' hR hargs
  have ha := aInit_rel hargs hn hl
  refine calls_of_wp hf hb ?_
  have hw := h ι H w _ hR ha (fun b hb => by rw [hrd] at hb; cases hb)
  rw [hrd, FR_none, wpIn_wide] at hw
  refine wp_mono (by simpa using hw) ?_
  rintro e a1 w1 ⟨ι1, H1, σ1, a1', ae, hq, hx, ha1, hR1, he1⟩
  have fin : ∀ ae, aEnd E fn R ae a1' σ1 → (ae = .normal ∨ ae = .ret) → a1.defers = [] ∧ ∃ v, (results fn a1.tmps).run E.P w1 = .ok v w1 ∧
      ∃ ι' H' σ' ae, R ae σ' ∧ EndRel σ'.next ι' H' ae (.returned v) ∧ Rel E ι' H' σ' w1 ∧ Ext σ.next ι H σ'.next ι' H' := by
    intro ae hq hae
    have hq' : a1'.defers = [] ∧ ∃ v, aResult E fn.results.toList a1' σ1 = some v ∧ R (.ret v) σ1 := by rcases hae with rfl | rfl <;> exact hq
    obtain ⟨hd, v, hr, hRv⟩ := hq'
    have hd' := ha1.defers
    rw [hd] at hd'
    obtain ⟨v', r1, r2⟩ := aResult_sound hR1 ha1 hr
    exact ⟨hd'.nil_inv, v', r1, ι1, H1, σ1, .ret v, hRv, .ret v v' r2, hR1, he1⟩
  cases hx with
  | normal => exact fin _ hq (.inl rfl)
  | ret => exact fin _ hq (.inr rfl)
  | exit id => exact hq.elim
  | goto l => exact hq.elim
  | pan v v' hv =>
    obtain ⟨hd, hRv⟩ := hq
    have hd' := ha1.defers
    rw [hd] at hd'
    exact ⟨hd'.nil_inv, ι1, H1, σ1, .pan v, hRv, .pan v v' hv, hR1, he1⟩
end
end Abs
