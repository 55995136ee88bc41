/-
  Part of the abstract layer (Q): values, stores and steps that stand for those of the model, and the proof that they do. It proves no statement by itself.
-/
import Derived.Test.YtjakpdffbabojaaAbsP
noncomputable section
namespace Abs
open Go

/-! ### Operations in a row -/

/-- What is left where nothing was done. -/
def undefA : AVal := .tuple []

def aYield (ops : Array Oper) (a : AAct) (j : Nat) : Option (Option Bool) :=
  match (ops[j]?).bind (·.dst) with
  | some t => match a.tmps.get t with
    | some (.sc (.bool b)) => some (some b)
    | some (.tuple _) => some none
    | _ => none
  | none => none

/-- What an operation comes to, in continuation form. -/
def aGo (E : Env) (dst : Option Tmp) (K : APred) (k : AAct → AStore → Prop) (a : AAct) (σ : AStore) : ARes → Prop
  | .val v σ' => a.fits dst = true ∧ k (a.put dst (some v)) σ'
  | .vals l => a.fits dst = true ∧ ∀ p ∈ l, k (a.put dst (some p.1)) p.2
  | .skip σ' => a.fits dst = true ∧ k (a.put dst (some undefA)) σ'
  | .enter f args => a.fits dst = true ∧ ACalls E f args σ fun e σ' =>
      match e with
      | .ret v => k (a.put dst (some v)) σ'
      | .pan v => K (.pan v) a σ'
  | .dfr d => a.fits dst = true ∧ k (({ a with defers := d :: a.defers } : AAct).put dst (some undefA)) σ
  | .pan v => K (.pan v) a σ
  | .recov => False
  | .bad => False

def aStep (E : Env) (ops : Array Oper) (o : Oper) (K : APred) (k : AAct → AStore → Prop) (a : AAct) (σ : AStore) : Prop :=
  match o.guard with
  | none => aGo E o.dst K k a σ (aOp E false o.op (a.ev E.G) σ)
  | some (j, want) =>
    match aYield ops a j with
    | some b => (b = some want → aGo E o.dst K k a σ (aOp E false o.op (a.ev E.G) σ)) ∧ (b ≠ some want → a.fits o.dst = true ∧ k (a.put o.dst (some undefA)) σ)
    | none => False

section
variable {E : Env} {K : APred} {a : AAct} {σ : AStore}

theorem undefA_rel {n : Nat} {ι : Inj} {H : Imm} : VRel n ι H undefA undef := .tuple [] [] .nil

theorem aYield_sound {n : Nat} {ι : Inj} {H : Imm} {ops : Array Oper} {a' : Act} (ha : ActRel n ι H a a') {j : Nat} {b : Option Bool} (h : aYield ops a j = some b) : yielded ops a'.tmps j = b := by
  unfold aYield at h
  split at h
  · rename_i t ht
    split at h
    · rename_i c hc
      cases h
      obtain ⟨h1, h2⟩ := ha.tmps t _ hc
      have h3 := h2.sc_inv
      have hlt : t < a'.tmps.size := by rw [ha.size]; exact h1
      have : a'.tmps[t]? = some (.bool c) := by
        rw [Array.getD_eq_getD_getElem?, Array.getElem?_eq_getElem hlt] at h3
        rw [Array.getElem?_eq_getElem hlt]
        exact congrArg some h3
      simp [yielded, ht, this]
    · rename_i c hc
      cases h
      obtain ⟨h1, h2⟩ := ha.tmps t _ hc
      obtain ⟨cs, h3, _⟩ := h2.tuple_inv
      have hlt : t < a'.tmps.size := by rw [ha.size]; exact h1
      have : a'.tmps[t]? = some (.tuple cs.toArray) := by
        rw [Array.getD_eq_getD_getElem?, Array.getElem?_eq_getElem hlt] at h3
        rw [Array.getElem?_eq_getElem hlt]
        exact congrArg some h3
      simp [yielded, ht, this]
    · cases h
  · cases h

theorem aGo_sound {ι ι0 : Inj} {H H0 : Imm} {n0 : Nat} {w : World} {a' : Act} (hR : Rel E ι H σ w) (ha : ActRel σ.next ι H a a') (he : Ext n0 ι0 H0 σ.next ι H) {o : Oper} {k : AAct → AStore → Prop}
    {KK : Act → World → Prop} (hk : ∀ ι1 H1 σ1 a1 a1' w1, k a1 σ1 → ActRel σ1.next ι1 H1 a1 a1' → Rel E ι1 H1 σ1 w1 → Ext n0 ι0 H0 σ1.next ι1 H1 → KK a1' w1)
    (h : aGo E o.dst K k a σ (aOp E false o.op (a.ev E.G) σ)) : o.wp E.P a' w KK (APost E n0 ι0 H0 K) := by
  have hs := aOp_sound hR (ha.rho hR) false o
  unfold Oper.wp
  generalize hr : aOp E false o.op (a.ev E.G) σ = r at h hs
  cases r with
  | val v σ' =>
    obtain ⟨v', w', ι', H', hrun, hv, hR', he'⟩ := hs
    rw [hrun]
    exact hk ι' H' σ' _ _ w' h.2 ((ha.ext he').put h.1 hv) hR' (he.trans he')
  | vals l =>
    obtain ⟨p, hp, v', w', ι', H', hrun, hv, hR', he'⟩ := hs
    rw [hrun]
    exact hk ι' H' p.2 _ _ w' (h.2 p hp) ((ha.ext he').put h.1 hv) hR' (he.trans he')
  | skip σ' =>
    obtain ⟨w', hrun, hR', hn⟩ := hs
    rw [hrun]
    have he' : Ext σ.next ι H σ'.next ι H := ⟨by omega, fun _ _ => rfl, Imm.Le.refl _⟩
    exact hk ι H σ' _ _ w' h.2 ((ha.ext he').put h.1 undefA_rel) hR' (he.trans he')
  | enter f args =>
    obtain ⟨args', hrun, hargs⟩ := hs
    rw [hrun]
    refine Calls.mono (h.2 ι H w args' hR hargs) ?_
    rintro e w1 ⟨ι1, H1, σ1, ae, hq, hx, hR1, he1⟩
    cases hx with
    | ret v v' hv => exact hk ι1 H1 σ1 _ _ w1 hq ((ha.ext he1).put h.1 hv) hR1 (he.trans he1)
    | pan v v' hv => exact ⟨ι1, H1, σ1, a, _, hq, .pan v v' hv, ha.ext he1, hR1, he.trans he1⟩
  | dfr d =>
    obtain ⟨d', hrun, hd⟩ := hs
    rw [hrun]
    have ha2 : ActRel σ.next ι H { a with defers := d :: a.defers } { a' with defers := d' :: a'.defers } := ⟨ha.size, ha.tmps, .cons _ _ _ _ hd ha.defers⟩
    exact hk ι H σ _ _ w h.2 (ha2.put h.1 undefA_rel) hR he
  | pan v =>
    obtain ⟨v', hrun, hv⟩ := hs
    rw [hrun]
    exact ⟨ι, H, σ, a, _, h, .pan v v' hv, ha, hR, he⟩
  | recov => exact h.elim
  | bad => exact h.elim

theorem aStep_sound {ι ι0 : Inj} {H H0 : Imm} {n0 : Nat} {w : World} {a' : Act} (hR : Rel E ι H σ w) (ha : ActRel σ.next ι H a a') (he : Ext n0 ι0 H0 σ.next ι H) {ops : Array Oper} {i : Nat} {o : Oper}
    (ho : ops[i]? = some o) {k : AAct → AStore → Prop}
    {KK : Act → World → Prop} (hk : ∀ ι1 H1 σ1 a1 a1' w1, k a1 σ1 → ActRel σ1.next ι1 H1 a1 a1' → Rel E ι1 H1 σ1 w1 → Ext n0 ι0 H0 σ1.next ι1 H1 → KK a1' w1)
    (h : aStep E ops o K k a σ) : wpOp E.P ops (APost E n0 ι0 H0 K) i KK a' w := by
  unfold wpOp
  simp only [ho]
  unfold aStep at h
  split at h
  · rename_i hg
    have : Region.wanted o (yielded ops a'.tmps) = true := by simp [Region.wanted, hg]
    rw [if_pos this]
    exact .inl (aGo_sound hR ha he hk h)
  · rename_i j want hg
    split at h
    · rename_i b hy
      have hy' := aYield_sound ha hy
      by_cases hb : b = some want
      · have : Region.wanted o (yielded ops a'.tmps) = true := by simp [Region.wanted, hg, hy', hb]
        rw [if_pos this]
        exact .inl (aGo_sound hR ha he hk (h.1 hb))
      · have : ¬ Region.wanted o (yielded ops a'.tmps) = true := by simp [Region.wanted, hg, hy', hb]
        rw [if_neg this]
        obtain ⟨h1, h2⟩ := h.2 hb
        exact hk ι H σ _ _ w h2 (ha.put h1 undefA_rel) hR he
    · exact h.elim

/-- Operations in the order of a list of numbers. -/
def aOps (E : Env) (ops : Array Oper) (K : APred) : List Nat → AAct → AStore → Prop
  | [], a, σ => K .normal a σ
  | i :: rest, a, σ =>
    match ops[i]? with
    | none => aOps E ops K rest a σ
    | some o => aStep E ops o K (aOps E ops K rest) a σ

theorem aOps_sound {ops : Array Oper} {n0 : Nat} {ι0 : Inj} {H0 : Imm} : ∀ (l : List Nat) {ι : Inj} {H : Imm} {a : AAct} {σ : AStore} {w : World} {a' : Act}, Rel E ι H σ w → ActRel σ.next ι H a a' → Ext n0 ι0 H0 σ.next ι H →
    aOps E ops K l a σ → wpOps E.P ops (APost E n0 ι0 H0 K) l a' w
  | [], ι, H, a, σ, w, a', hR, ha, he, h => ⟨ι, H, σ, a, _, h, .normal, ha, hR, he⟩
  | i :: rest, ι, H, a, σ, w, a', hR, ha, he, h => by
      rw [wpOps_cons]
      simp only [aOps] at h
      cases ho : ops[i]? with
      | none =>
        rw [ho] at h
        simp only [wpOp, ho]
        exact aOps_sound rest hR ha he h
      | some o =>
        rw [ho] at h
        exact aStep_sound hR ha he ho (fun ι1 H1 σ1 a1 a1' w1 hk ha1 hR1 he1 => aOps_sound rest hR1 ha1 he1 hk) h

theorem AWp.region {id : Nat} {ops : Array Oper} (h : aOps E ops K (List.range ops.size) a σ) : AWp E (.region id ops false) K a σ :=
  fun _ _ _ _ hR ha => wp_region (aOps_sound _ hR ha (Ext.refl _ _ _) h)

/-! ### Functions -/

def aResults (E : Env) (rs : List ResultVar) (a : AAct) (σ : AStore) : Option (List AVal) :=
  match rs with
  | [] => some []
  | .tmp t :: rest =>
    match a.tmps.get t, aResults E rest a σ with
    | some v, some vs => some (v :: vs)
    | _, _ => none
  | .cell t ty :: rest =>
    match a.tmps.get t, E.ty ty, aResults E rest a σ with
    | some p, some i, some vs =>
      match aLoad i.isA i.size p σ with
      | some v => some (v :: vs)
      | none => none
    | _, _, _ => none

def aResult (E : Env) (rs : List ResultVar) (a : AAct) (σ : AStore) : Option AVal :=
  match aResults E rs a σ with
  | some [v] => some v
  | some vs => some (.tuple vs)
  | none => none

def resultSem (t : Array Value) : ResultVar → Sem Value
  | .tmp x => pure (t.getD x undef)
  | .cell x ty => do loadVar ty (← asAddr (t.getD x undef))

theorem run_results {ι : Inj} {H : Imm} {w : World} {a' : Act} (hR : Rel E ι H σ w) (ha : ActRel σ.next ι H a a') : ∀ (rs : List ResultVar) {vs : List AVal}, aResults E rs a σ = some vs →
    ∃ vs', (rs.mapM (resultSem a'.tmps)).run E.P w = .ok vs' w ∧ LRel σ.next ι H vs vs'
  | [], vs, h => by simp [aResults] at h; subst h; exact ⟨[], by simp, .nil⟩
  | .tmp t :: rest, vs, h => by
      simp only [aResults] at h
      split at h
      · rename_i v vs1 hv hvs
        cases h
        obtain ⟨vs', r1, r2⟩ := run_results hR ha rest hvs
        have := (ha.tmps t v hv).2
        exact ⟨a'.tmps.getD t undef :: vs', by simp only [List.mapM_cons, resultSem, Sem.run_bind, Sem.run_pure, Result.andThen_ok, r1], .cons _ _ _ _ this r2⟩
      · cases h
  | .cell t ty :: rest, vs, h => by
      simp only [aResults] at h
      split at h
      · rename_i p i vs1 hp hi hvs
        split at h
        · rename_i v hl
          cases h
          obtain ⟨vs', r1, r2⟩ := run_results hR ha rest hvs
          have hpr := (ha.tmps t p hp).2
          obtain ⟨v', q1, q2⟩ := aLoad_sound hi hR hpr hl
          have q1' : ((do loadVar ty (← asAddr (a'.tmps.getD t undef))) : Sem Value).run E.P w = .ok v' w := by
            have hptr : ∃ ad, a'.tmps.getD t undef = .pointer (some ad) := by
              unfold aLoad at hl
              split at hl
              · obtain ⟨b, o, h, _⟩ := hpr.iptr_inv; exact ⟨_, h⟩
              · obtain ⟨_, h⟩ := hpr.ptr_inv; exact ⟨_, h⟩
              · cases hl
            obtain ⟨ad, had⟩ := hptr
            rw [had] at q1 ⊢
            simpa [Instr.loadAt, Instr.sureAddr, asAddr] using q1
          exact ⟨v' :: vs', by simp only [List.mapM_cons, resultSem, Sem.run_bind, q1', r1, Sem.run_pure, Result.andThen_ok], .cons _ _ _ _ q2 r2⟩
        · cases h
      · cases h

theorem aResult_sound {ι : Inj} {H : Imm} {w : World} {a' : Act} (hR : Rel E ι H σ w) (ha : ActRel σ.next ι H a a') {fn : Func} {v : AVal} (h : aResult E fn.results.toList a σ = some v) :
    ∃ v', (results fn a'.tmps).run E.P w = .ok v' w ∧ VRel σ.next ι H v v' := by
  have key : ∀ vs vs', aResults E fn.results.toList a σ = some vs → LRel σ.next ι H vs vs' → (fn.results.toList.mapM (resultSem a'.tmps)).run E.P w = .ok vs' w →
      (results fn a'.tmps).run E.P w = .ok (if h : vs'.toArray.size = 1 then vs'.toArray[0] else .tuple vs'.toArray) w := by
    intro vs vs' _ _ hrun
    have e : (fn.results.mapM (resultSem a'.tmps) : Sem (Array Value)) = List.toArray <$> (fn.results.toList.mapM (resultSem a'.tmps) : Sem (List Value)) := by
      obtain ⟨l⟩ := fn.results
      simp
    have e2 : results fn a'.tmps = (do let vs ← fn.results.mapM (resultSem a'.tmps); pure (if h : vs.size = 1 then vs[0] else .tuple vs)) := by
      unfold results
      congr 1
    rw [e2, Sem.run_bind, e, Sem.run_map, hrun]
    rfl
  unfold aResult at h
  cases hr : aResults E fn.results.toList a σ with
  | none => simp [hr] at h
  | some vs =>
    rw [hr] at h
    obtain ⟨vs', r1, r2⟩ := run_results hR ha _ hr
    have hk := key vs vs' hr r2 r1
    match vs, r2, h with
    | [], r2, h =>
      cases r2
      simp at h
      subst h
      exact ⟨_, hk, .tuple [] [] .nil⟩
    | [x], r2, h =>
      obtain ⟨x', ws, rfl, hx, hs⟩ := r2.cons_inv
      obtain rfl := hs.nil_inv
      simp at h
      subst h
      exact ⟨x', hk, hx⟩
    | x :: y :: zs, r2, h =>
      obtain ⟨x', ws, rfl, hx, hs⟩ := r2.cons_inv
      obtain ⟨y', ws', rfl, hy, hs'⟩ := hs.cons_inv
      simp at h
      subst h
      refine ⟨_, hk, ?_⟩
      have : ¬ ((x' :: y' :: ws').toArray.size = 1) := by simp
      rw [dif_neg this]
      exact .tuple _ _ (.cons _ _ _ _ hx (.cons _ _ _ _ hy hs'))

/-- The act with which a function begins. -/
def aInitT : List AVal → Nat → T AVal → T AVal
  | [], _, t => t
  | v :: vs, k, t => aInitT vs (k + 1) (T.put 20 t k (some v))

def aInit (args : List AVal) (n : Nat) : AAct := ⟨aInitT args 0 .leaf, n, []⟩

theorem aInitT_get : ∀ (args : List AVal) (k : Nat) (t : T AVal) (x : Nat) (v : AVal), k + args.length < 2 ^ 20 - 1 → (aInitT args k t).get x = some v → (k ≤ x ∧ args[x - k]? = some v) ∨ t.get x = some v
  | [], k, t, x, v, _, h => .inr h
  | y :: ys, k, t, x, v, hk, h => by
      simp at hk
      rcases aInitT_get ys (k + 1) _ x v (by omega) h with ⟨h1, h2⟩ | h1
      · left
        refine ⟨by omega, ?_⟩
        rw [show x - k = (x - (k + 1)) + 1 by omega]
        simpa using h2
      · rw [T.get_put _ _ _ _ _ (by omega)] at h1
        split at h1
        · rename_i e; subst e; left; exact ⟨Nat.le_refl _, by simpa using h1⟩
        · exact .inr h1

theorem aInit_rel {n : Nat} {ι : Inj} {H : Imm} {args : List AVal} {args' : List Value} (h : LRel n ι H args args') {m : Nat} (hm : args.length ≤ m) (hl : args.length < 1000) :
    ActRel n ι H (aInit args m) { tmps := args'.toArray ++ Array.replicate (m - args'.toArray.size) undef, defers := [] } := by
  have hlen := h.length
  refine ⟨by simp [aInit]; omega, ?_, .nil⟩
  intro t v ht
  rcases aInitT_get args 0 .leaf t v (by omega) ht with ⟨_, h1⟩ | h1
  · simp at h1
    have hlt : t < args.length := by
      rcases Nat.lt_or_ge t args.length with h' | h'
      · exact h'
      · rw [List.getElem?_eq_none h'] at h1; cases h1
    obtain ⟨w, h2, h3⟩ := h.get h1
    refine ⟨by simp [aInit]; omega, ?_⟩
    have : (args'.toArray ++ Array.replicate (m - args'.toArray.size) undef).getD t undef = w := by
      rw [Array.getD_eq_getD_getElem?, Array.getElem?_append_left (by simp; omega)]
      simp [h2]
    rw [this]; exact h3
  · simp [T.get_leaf] at h1

/-- What is owed where a function without deferred calls ends. -/
def aEnd (E : Env) (fn : Func) (R : AEnd → AStore → Prop) : APred
  | .normal, a, σ | .ret, a, σ => a.defers = [] ∧ ∃ v, aResult E fn.results.toList a σ = some v ∧ R (.ret v) σ
  | .pan v, a, σ => a.defers = [] ∧ R (.pan v) σ
  | _, _, _ => False

theorem DefsRel.nil_inv {n : Nat} {ι : Inj} {H : Imm} {d : List Deferred} (h : DefsRel n ι H [] d) : d = [] := by cases h; rfl

theorem ACalls.of_wp {f : FuncId} {fn : Func} {c : Code} {args : List AVal} {R : AEnd → AStore → Prop} (hf : E.P.funcs[f]? = some fn) (hb : fn.body = some c) (hn : args.length ≤ fn.ntmps) (hl : args.length < 1000)
    (h : AWp E c (aEnd E fn R) (aInit args fn.ntmps) σ) : ACalls E f args σ R := by
  intro ι H w args' hR hargs
  have ha := aInit_rel hargs hn hl
  refine calls_of_wp hf hb ?_
  have hw := h ι H w _ hR ha
  refine wp_mono (by simpa using hw) ?_
  rintro e a1 w1 ⟨ι1, H1, σ1, a1', ae, hq, hx, ha1, hR1, he1⟩
  have fin : ∀ ae, aEnd E fn R ae a1' σ1 → (ae = .normal ∨ ae = .ret) → a1.defers = [] ∧ ∃ v, (results fn a1.tmps).run E.P w1 = .ok v w1 ∧
      ∃ ι' H' σ' ae, R ae σ' ∧ EndRel σ'.next ι' H' ae (.returned v) ∧ Rel E ι' H' σ' w1 ∧ Ext σ.next ι H σ'.next ι' H' := by
    intro ae hq hae
    have hq' : a1'.defers = [] ∧ ∃ v, aResult E fn.results.toList a1' σ1 = some v ∧ R (.ret v) σ1 := by rcases hae with rfl | rfl <;> exact hq
    obtain ⟨hd, v, hr, hRv⟩ := hq'
    have hd' := ha1.defers
    rw [hd] at hd'
    obtain ⟨v', r1, r2⟩ := aResult_sound hR1 ha1 hr
    exact ⟨hd'.nil_inv, v', r1, ι1, H1, σ1, .ret v, hRv, .ret v v' r2, hR1, he1⟩
  cases hx with
  | normal => exact fin _ hq (.inl rfl)
  | ret => exact fin _ hq (.inr rfl)
  | exit id => exact hq.elim
  | goto l => exact hq.elim
  | pan v v' hv =>
    obtain ⟨hd, hRv⟩ := hq
    have hd' := ha1.defers
    rw [hd] at hd'
    exact ⟨hd'.nil_inv, ι1, H1, σ1, .pan v, hRv, .pan v v' hv, hR1, he1⟩
end
end Abs
