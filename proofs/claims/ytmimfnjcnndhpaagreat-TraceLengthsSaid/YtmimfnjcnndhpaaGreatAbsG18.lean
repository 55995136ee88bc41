/-
  Part of the abstract layer (SY): values, stores and steps that stand for those of the model, and the proof that they do. It proves no statement by itself.
-/
import Derived.Test.YtmimfnjcnndhpaaGreatAbsG14
noncomputable section
namespace Abs
set_option linter.unusedVariables false
set_option linter.unusedSimpArgs false
set_option linter.unusedSectionVars false
open Go

/-! ### Walking by hand: acts as lists, and what is owed for a piece of code, written out -/

abbrev Ev := List (Nat × AVal)

def look? : Ev → Nat → Option AVal
  | [], _ => none
  | (d, v) :: r, t => if t = d then some v else look? r t

def actOf (n : Nat) : Ev → AAct
  | [] => ⟨.leaf, n, []⟩
  | (d, v) :: r => (actOf n r).put (some d) (some v)

def fitN (n : Nat) : Option Nat → Bool
  | some d => Nat.blt d n && Nat.blt n 1000000
  | none => true

theorem actOf_n (n : Nat) : ∀ e, (actOf n e).n = n ∧ (actOf n e).defers = []
  | [] => ⟨rfl, rfl⟩
  | (d, v) :: r => by
      obtain ⟨h1, h2⟩ := actOf_n n r
      obtain ⟨g1, g2⟩ := (actOf n r).put_n (some d) (some v)
      exact ⟨g1.trans h1, g2.trans h2⟩

theorem fits_actOf (n : Nat) (e : Ev) (d : Option Nat) : (actOf n e).fits d = fitN n d := by
  cases d with
  | none => rfl
  | some d => simp [AAct.fits, fitN, (actOf_n n e).1]

/-- All places are within reach. -/
def okE (e : Ev) : Prop := ∀ d v, (d, v) ∈ e → d < 1000000

theorem get_actOf {n : Nat} : ∀ {e : Ev}, (∀ d v, (d, v) ∈ e → d < 1000000) → ∀ t, (actOf n e).tmps.get t = look? e t
  | [], _, t => by simp [actOf, look?, T.get_leaf]
  | (d, v) :: r, h, t => by
      have hd : d < 1000000 := h d v (by simp)
      show ((actOf n r).put (some d) (some v)).tmps.get t = _
      rw [AAct.put_eq]
      simp only []
      rw [T.get_put _ _ _ _ _ (by omega), get_actOf (fun d v h' => h d v (by simp [h']))]
      rfl

theorem put_actOf (n : Nat) (e : Ev) (d : Nat) (v : AVal) : (actOf n e).put (some d) (some v) = actOf n ((d, v) :: e) := rfl
theorem put_none (a : AAct) (x : Option AVal) : a.put none x = a := by cases a; rfl

/-- What a list knows, an act that has as much knows. -/
theorem actOf_le {n : Nat} {e e' : Ev} (h : okE e) (h' : okE e') (hl : ∀ t v, look? e t = some v → look? e' t = some v) : (actOf n e).Le (actOf n e') := by
  refine ⟨by rw [(actOf_n n e).1, (actOf_n n e').1], by rw [(actOf_n n e).2, (actOf_n n e').2], fun t v ht => ?_⟩
  rw [get_actOf h] at ht
  rw [get_actOf h']
  exact hl t v ht

def evE (G : Nat → AVal) (e : Ev) : ARho
  | .tmp t => look? e t
  | .const v => some (absV v)
  | .global g => some (G g)
  | .func f => some (.func (.func f) [] [])

theorem ev_actOf {n : Nat} {e : Ev} (h : okE e) (G : Nat → AVal) : (actOf n e).ev G = evE G e := by
  funext x
  cases x with
  | tmp t => exact get_actOf h t
  | _ => rfl

/-! #### What is owed -/

abbrev SPred := AExit → Ev → AStore → Prop

def liftS (n : Nat) (Q : SPred) : APred := fun ex a σ => ∃ e, okE e ∧ (actOf n e).Le a ∧ Q ex e σ

def putE (e : Ev) : Option Nat → AVal → Ev
  | some d, v => (d, v) :: e
  | none, _ => e

def sGo (E : Env) (n : Nat) (dst : Option Nat) (K : SPred) (k : Ev → AStore → Prop) (e : Ev) (σ : AStore) : ARes → Prop
  | .val v σ' => fitN n dst = true ∧ k (putE e dst v) σ'
  | .vals l => fitN n dst = true ∧ ∀ p ∈ l, k (putE e dst p.1) p.2
  | .skip σ' => fitN n dst = true ∧ k (putE e dst undefA) σ'
  | .enter f args => fitN n dst = true ∧ ACallsT E f args σ fun en σ' =>
      match en with
      | .ret v => k (putE e dst v) σ'
      | .pan v => K (.pan v) e σ'
  | .pan v => K (.pan v) e σ
  | .dfr _ | .recov | .bad => False

def sYield (ops : Array Oper) (e : Ev) (j : Nat) : Option (Option Bool) :=
  match (ops[j]?).bind (·.dst) with
  | some t => match look? e t with
    | some (.sc (.bool b)) => some (some b)
    | some (.tuple _) => some none
    | _ => none
  | none => none

def sStep (E : Env) (n : Nat) (ops : Array Oper) (o : Oper) (K : SPred) (k : Ev → AStore → Prop) (e : Ev) (σ : AStore) : Prop :=
  match o.guard with
  | none => sGo E n o.dst K k e σ (aOp E false o.op (evE E.G e) σ)
  | some (j, want) =>
    match sYield ops e j with
    | some b => (b = some want → sGo E n o.dst K k e σ (aOp E false o.op (evE E.G e) σ)) ∧ (b ≠ some want → fitN n o.dst = true ∧ k (putE e o.dst undefA) σ)
    | none => False

def sOps (E : Env) (n : Nat) (ops : Array Oper) (K : SPred) : List Oper → Ev → AStore → Prop
  | [], e, σ => K .normal e σ
  | o :: r, e, σ => sStep E n ops o K (sOps E n ops K r) e σ

def thenS (k : Ev → AStore → Prop) (Q : SPred) : SPred
  | .normal, e, σ => k e σ
  | ex, e, σ => Q ex e σ

def blkS (id : Nat) (Q : SPred) : SPred
  | .exit id', e, σ => if id' = id then Q .normal e σ else Q (.exit id') e σ
  | ex, e, σ => Q ex e σ

def SWp (E : Env) (n : Nat) (c : Code) (Q : SPred) (e : Ev) (σ : AStore) : Prop := okE e → AWp E c (liftS n Q) (actOf n e) σ

def W (E : Env) (n : Nat) : Code → SPred → Ev → AStore → Prop
  | .skip, Q, e, σ => Q .normal e σ
  | .label _, Q, e, σ => Q .normal e σ
  | .region _ ops false, Q, e, σ => sOps E n ops Q ops.toList e σ
  | .seq x y, Q, e, σ => W E n x (thenS (W E n y Q) Q) e σ
  | .cond c x y, Q, e, σ =>
    match evE E.G e c with
    | some (.sc (.bool b)) => (b = true → W E n x Q e σ) ∧ (b = false → W E n y Q e σ)
    | _ => False
  | .block id c, Q, e, σ => W E n c (blkS id Q) e σ
  | .exit id, Q, e, σ => Q (.exit id) e σ
  | .goto l, Q, e, σ => Q (.goto l) e σ
  | .ret, Q, e, σ => Q .ret e σ
  | c, Q, e, σ => SWp E n c Q e σ

theorem fitN_lt {n d : Nat} (h : fitN n (some d) = true) : d < 1000000 := by
  simp only [fitN, Bool.and_eq_true, Nat.blt_eq] at h; omega

theorem okE_put {n : Nat} {e : Ev} (h : okE e) {d : Option Nat} (hf : fitN n d = true) (v : AVal) : okE (putE e d v) := by
  cases d with
  | none => exact h
  | some d =>
    intro d' v' hm
    simp only [putE, List.mem_cons, Prod.mk.injEq] at hm
    rcases hm with ⟨rfl, _⟩ | hm
    · exact fitN_lt hf
    · exact h d' v' hm

theorem put_putE (n : Nat) (e : Ev) (d : Option Nat) (v : AVal) : (actOf n e).put d (some v) = actOf n (putE e d v) := by
  cases d with
  | none => exact put_none _ _
  | some d => rfl

section
variable {E : Env} {n : Nat}

theorem sYield_eq {ops : Array Oper} {e : Ev} (h : okE e) {j : Nat} {b : Option Bool} (hb : sYield ops e j = some b) : aYield ops (actOf n e) j = some b := by
  unfold sYield at hb
  unfold aYield
  split at hb
  · rename_i t ht
    rw [ht]
    simp only []
    rw [get_actOf h]
    split at hb
    · rename_i b' hl
      rw [hl]; exact hb
    · rename_i b' hl
      rw [hl]; exact hb
    · cases hb
  · cases hb

theorem sGo_sound {K : SPred} {k : Ev → AStore → Prop} {k' : AAct → AStore → Prop} {dst : Option Nat} {e : Ev} {σ : AStore} (he : okE e)
    (hk : ∀ e σ, okE e → k e σ → k' (actOf n e) σ) {r : ARes} (h : sGo E n dst K k e σ r) : aGo E dst (liftS n K) k' (actOf n e) σ r := by
  cases r with
  | val v σ' => exact ⟨by rw [fits_actOf]; exact h.1, by rw [put_putE]; exact hk _ _ (okE_put he h.1 v) h.2⟩
  | vals l => exact ⟨by rw [fits_actOf]; exact h.1, fun p hp => by rw [put_putE]; exact hk _ _ (okE_put he h.1 _) (h.2 p hp)⟩
  | skip σ' => exact ⟨by rw [fits_actOf]; exact h.1, by rw [put_putE]; exact hk _ _ (okE_put he h.1 _) h.2⟩
  | enter f args =>
    refine ⟨by rw [fits_actOf]; exact h.1, ACallsT.mono h.2 ?_⟩
    intro en σ' hh
    cases en with
    | ret v => show k' ((actOf n e).put dst (some v)) σ'; rw [put_putE]; exact hk _ _ (okE_put he h.1 _) hh
    | pan v => exact ⟨e, he, AAct.Le.refl _, hh⟩
  | dfr d => exact h.elim
  | pan v => exact ⟨e, he, AAct.Le.refl _, h⟩
  | recov => exact h.elim
  | bad => exact h.elim

theorem sStep_sound {ops : Array Oper} {o : Oper} {K : SPred} {k : Ev → AStore → Prop} {k' : AAct → AStore → Prop} {e : Ev} {σ : AStore} (he : okE e)
    (hk : ∀ e σ, okE e → k e σ → k' (actOf n e) σ) (h : sStep E n ops o K k e σ) : aStep E ops o (liftS n K) k' (actOf n e) σ := by
  unfold sStep at h
  unfold aStep
  rw [ev_actOf he]
  split at h
  · rename_i hg
    rw [hg]
    exact sGo_sound he hk h
  · rename_i j want hg
    rw [hg]
    split at h
    · rename_i b hb
      simp only [sYield_eq he hb]
      exact ⟨fun hw => sGo_sound he hk (h.1 hw), fun hw => ⟨by rw [fits_actOf]; exact (h.2 hw).1, by rw [put_putE]; exact hk _ _ (okE_put he (h.2 hw).1 _) (h.2 hw).2⟩⟩
    · exact h.elim

theorem sOps_sound {ops : Array Oper} {K : SPred} : ∀ (l : List Nat) (os : List Oper) (e : Ev) (σ : AStore), l.map (ops[·]?) = os.map some → okE e → sOps E n ops K os e σ → aOps E ops (liftS n K) l (actOf n e) σ
  | [], os, e, σ, hl, he, h => by
      cases os with
      | nil => exact ⟨e, he, AAct.Le.refl _, h⟩
      | cons o os => simp at hl
  | i :: l, os, e, σ, hl, he, h => by
      cases os with
      | nil => simp at hl
      | cons o os =>
        simp only [List.map_cons, List.cons.injEq] at hl
        obtain ⟨hi, hl⟩ := hl
        simp only [aOps, hi]
        exact sStep_sound he (fun e σ he h => sOps_sound l os e σ hl he h) h

theorem SWp.mono {c : Code} {Q Q' : SPred} {e : Ev} {σ : AStore} (h : SWp E n c Q e σ) (hq : ∀ ex e σ, okE e → Q ex e σ → Q' ex e σ) : SWp E n c Q' e σ :=
  fun he => (h he).mono fun _ _ _ ⟨e, h1, h2, h3⟩ => ⟨e, h1, h2, hq _ _ _ h1 h3⟩

/-- Less is known. -/
theorem SWp.less {c : Code} {Q : SPred} {e e' : Ev} {σ : AStore} (h : SWp E n c Q e σ) (he : okE e) (hl : ∀ t v, look? e t = some v → look? e' t = some v) : SWp E n c Q e' σ :=
  fun he' => (h he).weaken (actOf_le he he' hl)

theorem SWp.of {c : Code} {Q : SPred} {a : AAct} {e : Ev} {σ : AStore} (he : okE e) (hl : (actOf n e).Le a) (h : SWp E n c Q e σ) : AWp E c (liftS n Q) a σ := (h he).weaken hl

theorem W_sound : ∀ (c : Code) {Q : SPred} {e : Ev} {σ : AStore}, W E n c Q e σ → SWp E n c Q e σ
  | .skip, Q, e, σ, h => fun he => AWp.skip ⟨e, he, AAct.Le.refl _, h⟩
  | .label _, Q, e, σ, h => fun he => AWp.label ⟨e, he, AAct.Le.refl _, h⟩
  | .exit _, Q, e, σ, h => fun he => AWp.exit ⟨e, he, AAct.Le.refl _, h⟩
  | .goto _, Q, e, σ, h => fun he => AWp.goto ⟨e, he, AAct.Le.refl _, h⟩
  | .ret, Q, e, σ, h => fun he => AWp.ret ⟨e, he, AAct.Le.refl _, h⟩
  | .region _ ops true, Q, e, σ, h => h
  | .loop _, Q, e, σ, h => h
  | .scope _, Q, e, σ, h => h
  | .rangeFunc .., Q, e, σ, h => h
  | .refuse .., Q, e, σ, h => h
  | .region _ ops false, Q, e, σ, h => fun he => by
      refine AWp.region (sOps_sound _ ops.toList e σ ?_ he h)
      apply List.ext_getElem?
      intro i
      simp only [List.getElem?_map]
      by_cases hi : i < ops.size
      · simp [hi]
      · rw [List.getElem?_eq_none (by simp; omega), List.getElem?_eq_none (by simp; omega)]; rfl
  | .seq x y, Q, e, σ, h => fun he => by
      refine AWp.seq ((W_sound x (Q := thenS (W E n y Q) Q) h he).mono ?_)
      rintro ex a σ ⟨e, h1, h2, h3⟩
      cases ex with
      | normal => exact SWp.of h1 h2 (W_sound y h3)
      | _ => exact ⟨e, h1, h2, h3⟩
  | .cond c x y, Q, e, σ, h => fun he => by
      unfold W at h
      split at h
      · rename_i b hb
        exact AWp.cond (b := b) (by rw [ev_actOf he]; exact hb) (fun hh => W_sound x (h.1 hh) he) (fun hh => W_sound y (h.2 hh) he)
      · exact h.elim
  | .block id c, Q, e, σ, h => fun he => by
      refine AWp.block ((W_sound c (Q := blkS id Q) h he).mono ?_)
      rintro ex a σ ⟨e, h1, h2, h3⟩
      cases ex with
      | exit id' =>
        simp only [AExit.inBlock]
        simp only [blkS] at h3
        split at h3
        · rename_i hid; rw [if_pos hid]; exact ⟨e, h1, h2, h3⟩
        · rename_i hid; rw [if_neg hid]; exact ⟨e, h1, h2, h3⟩
      | _ => exact ⟨e, h1, h2, h3⟩

/-- A loop, by states that are told by 'S'. -/
theorem SWp.loop {ι : Type} {c : Code} {Q : SPred} (S : ι → Ev) (σS : ι → AStore) (m : ι → Nat) (okS : ∀ i, okE (S i)) {e : Ev} {σ : AStore} (i0 : ι) (h0 : ∀ t v, look? (S i0) t = some v → look? e t = some v) (hσ : σS i0 = σ)
    (round : ∀ i, SWp E n c (fun ex e' σ' => match ex with
      | .normal => ∃ j, m j < m i ∧ σS j = σ' ∧ ∀ t v, look? (S j) t = some v → look? e' t = some v
      | _ => Q ex e' σ') (S i) (σS i)) : SWp E n (.loop c) Q e σ := by
  intro he
  subst hσ
  refine AWp.weaken (actOf_le (okS i0) he h0) ?_
  refine AWp.loop (fun k a σ => ∃ i, m i = k ∧ a = actOf n (S i) ∧ σ = σS i) (m i0) ⟨i0, rfl, rfl, rfl⟩ ?_
  rintro k a σ ⟨i, rfl, rfl, rfl⟩
  refine (round i (okS i)).mono ?_
  rintro ex a σ ⟨e, h1, h2, h3⟩
  cases ex with
  | normal =>
    obtain ⟨j, hj, hσ, hl⟩ := h3
    have hle := actOf_le (n := n) (okS j) h1 hl
    exact ⟨actOf n (S j), m j, ⟨hle.1.trans h2.1, hle.2.1.trans h2.2.1, fun t v ht => h2.2.2 t v (hle.2.2 t v ht)⟩, hj, j, rfl, rfl, hσ.symm⟩
  | _ => exact ⟨e, h1, h2, h3⟩
end
end Abs
end
