/-
  Part of the abstract layer (A B C D E): values, stores and steps that stand for those of the model, and the proof that they do. It proves no statement by itself.
-/
import Derived.Calls
import Derived.Orders
import Derived.Defers
import Derived.Laws.Sem
import Derived.Laws.World
noncomputable section
namespace Abs
set_option linter.unusedVariables false
set_option linter.unusedSimpArgs false
set_option linter.unusedSectionVars false
open Go

/-- Abstract values. 'sc': a scalar as it is. 'ptr', 'slice', 'view' (a slice that has no more room), 'endS' (what lies behind the last element), 'map': blocks of the call's own, by abstract number. 'iptr', 'data': memory that no one writes, by its contents. -/
inductive AVal where
  | sc (v : Value)
  | ptr (b i k : Nat)
  | iptr (cells : List AVal)
  | slice (b off len : Nat)
  | view (b off len : Nat)
  | endS (b off : Nat)
  | data (sz : Nat) (t : Bool) (els : List AVal)
  | map (b : Nat)
  | yld (b : Nat)
  | func (fn : Fn) (first captured : List AVal)
  | iface (t : TypeId) (v : AVal)
  | agg (cells : List AVal)
  | tuple (vs : List AVal)

def AVal.isAgg : AVal → Bool
  | .agg _ => true
  | _ => false

def AVal.cells : AVal → List AVal
  | .agg cs => cs
  | v => [v]

structure Place where
  blk : Nat
  base : Nat
  sz : Nat
  cap : Nat
  el : Nat

abbrev Inj := Nat → Place
/-- What lies fixed. 'true': abstract values may tell of it. -/
abbrev Imm := Nat → Option (Bool × Obj)

def Imm.cell? (H : Imm) (b : Nat) (o : Nat) : Option Value :=
  match H b with
  | some (true, .cells c _ _) => c[o]?
  | _ => none

def Imm.Le (H H' : Imm) : Prop := ∀ c o, H c = some o → H' c = some o

theorem Imm.Le.refl (H : Imm) : Imm.Le H H := fun _ _ h => h
theorem Imm.Le.trans {H H' H'' : Imm} (h : Imm.Le H H') (h' : Imm.Le H' H'') : Imm.Le H H'' := fun c o hc => h' c o (h c o hc)

theorem Imm.Le.cell {H H' : Imm} (h : Imm.Le H H') {b o : Nat} {v : Value} (hc : H.cell? b o = some v) : H'.cell? b o = some v := by
  unfold Imm.cell? at *
  cases hb : H b with
  | none => simp [hb] at hc
  | some x => rw [h b x hb]; rw [hb] at hc; exact hc

/-- What is told of the one is told of the other. -/
def Imm.CLe (H H' : Imm) : Prop := ∀ b o v, H.cell? b o = some v → H'.cell? b o = some v
theorem Imm.CLe.cell {H H' : Imm} (h : Imm.CLe H H') {b o : Nat} {v : Value} (hc : H.cell? b o = some v) : H'.cell? b o = some v := h b o v hc
theorem Imm.Le.cle {H H' : Imm} (h : Imm.Le H H') : Imm.CLe H H' := fun _ _ _ hc => h.cell hc

mutual
/-- The value 'w' is the abstract value 'v' (all abstract numbers in it are below 'n'). -/
inductive VRel (n : Nat) (ι : Inj) (H : Imm) : AVal → Value → Prop
  | sc (v : Value) : VRel n ι H (.sc v) v
  | ptr (b i k : Nat) (h : b < n) : VRel n ι H (.ptr b i k) (.pointer (some ⟨(ι b).blk, (ι b).base + i * (ι b).sz + k, none⟩))
  | iptr (cs : List AVal) (b o : Nat) (h : CRel n ι H (H.cell? b) cs o) : VRel n ι H (.iptr cs) (.pointer (some ⟨b, o, none⟩))
  | slice (b off len cap : Nat) (h : b < n) (hl : len ≤ cap) (hc : off + cap = (ι b).cap) :
      VRel n ι H (.slice b off len) (.slice (some ⟨(ι b).blk, (ι b).base + off * (ι b).sz, none⟩) len cap)
  | view (b off len : Nat) (h : b < n) (hc : off + len ≤ (ι b).cap) :
      VRel n ι H (.view b off len) (.slice (some ⟨(ι b).blk, (ι b).base + off * (ι b).sz, none⟩) len len)
  | endS (b off o cap : Nat) (h : b < n) (hc : off + cap = (ι b).cap) (ho : cap ≠ 0 → o = (ι b).base + off * (ι b).sz) :
      VRel n ι H (.endS b off) (.slice (some ⟨(ι b).blk, o, none⟩) 0 cap)
  | data (sz : Nat) (t : Bool) (els : List AVal) (b o len cap : Nat) (hlen : len = els.length) (hl : len ≤ cap) (ht : t = true → cap = len) (h : DRel n ι H (H.cell? b) sz els o) :
      VRel n ι H (.data sz t els) (.slice (some ⟨b, o, none⟩) len cap)
  | map (b : Nat) (h : b < n) : VRel n ι H (.map b) (.map (some (ι b).blk))
  | yld (b : Nat) (h : b < n) : VRel n ι H (.yld b) (.func (.yield (ι b).blk) #[] #[])
  | func (fn : Fn) (fs cs : List AVal) (fs' cs' : List Value) (hf : LRel n ι H fs fs') (hc : LRel n ι H cs cs') :
      VRel n ι H (.func fn fs cs) (.func fn fs'.toArray cs'.toArray)
  | iface (t : TypeId) (v : AVal) (v' : Value) (h : VRel n ι H v v') : VRel n ι H (.iface t v) (.iface t v')
  | agg (cs : List AVal) (cs' : List Value) (h : LRel n ι H cs cs') : VRel n ι H (.agg cs) (.agg cs'.toArray)
  | tuple (cs : List AVal) (cs' : List Value) (h : LRel n ι H cs cs') : VRel n ι H (.tuple cs) (.tuple cs'.toArray)
inductive LRel (n : Nat) (ι : Inj) (H : Imm) : List AVal → List Value → Prop
  | nil : LRel n ι H [] []
  | cons (v : AVal) (w : Value) (vs : List AVal) (ws : List Value) (h : VRel n ι H v w) (hs : LRel n ι H vs ws) : LRel n ι H (v :: vs) (w :: ws)
/-- From offset 'o' on the cells are these. -/
inductive CRel (n : Nat) (ι : Inj) (H : Imm) : (Nat → Option Value) → List AVal → Nat → Prop
  | nil (g : Nat → Option Value) (o : Nat) : CRel n ι H g [] o
  | cons (g : Nat → Option Value) (v : AVal) (w : Value) (vs : List AVal) (o : Nat) (hg : g o = some w) (h : VRel n ι H v w) (hs : CRel n ι H g vs (o + 1)) :
      CRel n ι H g (v :: vs) o
/-- From offset 'o' on the elements, of 'sz' cells each, are these. -/
inductive DRel (n : Nat) (ι : Inj) (H : Imm) : (Nat → Option Value) → Nat → List AVal → Nat → Prop
  | nil (g : Nat → Option Value) (sz o : Nat) : DRel n ι H g sz [] o
  | agg (g : Nat → Option Value) (sz : Nat) (cs es : List AVal) (o : Nat) (hsz : cs.length = sz) (h : CRel n ι H g cs o) (hs : DRel n ι H g sz es (o + sz)) :
      DRel n ι H g sz (.agg cs :: es) o
  | one (g : Nat → Option Value) (v : AVal) (w : Value) (es : List AVal) (o : Nat) (hv : v.isAgg = false) (hg : g o = some w) (h : VRel n ι H v w)
      (hs : DRel n ι H g 1 es (o + 1)) : DRel n ι H g 1 (v :: es) o
end

mutual
/-- All abstract numbers are below 'n'. -/
inductive WF (n : Nat) : AVal → Prop
  | sc (v : Value) : WF n (.sc v)
  | ptr (b i k : Nat) (h : b < n) : WF n (.ptr b i k)
  | iptr (cs : List AVal) (h : WFs n cs) : WF n (.iptr cs)
  | slice (b off len : Nat) (h : b < n) : WF n (.slice b off len)
  | view (b off len : Nat) (h : b < n) : WF n (.view b off len)
  | endS (b off : Nat) (h : b < n) : WF n (.endS b off)
  | data (sz : Nat) (t : Bool) (els : List AVal) (h : WFs n els) : WF n (.data sz t els)
  | map (b : Nat) (h : b < n) : WF n (.map b)
  | yld (b : Nat) (h : b < n) : WF n (.yld b)
  | func (fn : Fn) (fs cs : List AVal) (hf : WFs n fs) (hc : WFs n cs) : WF n (.func fn fs cs)
  | iface (t : TypeId) (v : AVal) (h : WF n v) : WF n (.iface t v)
  | agg (cs : List AVal) (h : WFs n cs) : WF n (.agg cs)
  | tuple (cs : List AVal) (h : WFs n cs) : WF n (.tuple cs)
inductive WFs (n : Nat) : List AVal → Prop
  | nil : WFs n []
  | cons (v : AVal) (vs : List AVal) (h : WF n v) (hs : WFs n vs) : WFs n (v :: vs)
end

/-- 'ι'' and 'H'' go on from 'ι' and 'H'. -/
structure Ext (n : Nat) (ι : Inj) (H : Imm) (n' : Nat) (ι' : Inj) (H' : Imm) : Prop where
  next : n ≤ n'
  inj : ∀ b, b < n → ι' b = ι b
  imm : H.Le H'

theorem Ext.refl (n : Nat) (ι : Inj) (H : Imm) : Ext n ι H n ι H := ⟨Nat.le_refl _, fun _ _ => rfl, Imm.Le.refl _⟩
theorem Ext.trans {n n' n'' : Nat} {ι ι' ι'' : Inj} {H H' H'' : Imm} (h : Ext n ι H n' ι' H') (h' : Ext n' ι' H' n'' ι'' H'') : Ext n ι H n'' ι'' H'' :=
  ⟨Nat.le_trans h.next h'.next, fun b hb => (h'.inj b (Nat.lt_of_lt_of_le hb h.next)).trans (h.inj b hb), h.imm.trans h'.imm⟩

/-- The second reading has what the first has. -/
def RLe (g g' : Nat → Option Value) : Prop := ∀ o v, g o = some v → g' o = some v

mutual
theorem VRel.wf {n : Nat} {ι : Inj} {H : Imm} : ∀ {v : AVal} {w : Value}, VRel n ι H v w → WF n v
  | _, _, .sc v => .sc v
  | _, _, .ptr b i k h => .ptr b i k h
  | _, _, .iptr cs _ _ h => .iptr cs h.wf
  | _, _, .slice b off len _ h _ _ => .slice b off len h
  | _, _, .view b off len h _ => .view b off len h
  | _, _, .endS b off _ _ h _ _ => .endS b off h
  | _, _, .data sz t els _ _ _ _ _ _ _ h => .data sz t els h.wf
  | _, _, .map b h => .map b h
  | _, _, .yld b h => .yld b h
  | _, _, .func fn fs cs _ _ hf hc => .func fn fs cs hf.wf hc.wf
  | _, _, .iface t v _ h => .iface t v h.wf
  | _, _, .agg cs _ h => .agg cs h.wf
  | _, _, .tuple cs _ h => .tuple cs h.wf
theorem LRel.wf {n : Nat} {ι : Inj} {H : Imm} : ∀ {vs : List AVal} {ws : List Value}, LRel n ι H vs ws → WFs n vs
  | _, _, .nil => .nil
  | _, _, .cons v _ vs _ h hs => .cons v vs h.wf hs.wf
theorem CRel.wf {n : Nat} {ι : Inj} {H : Imm} : ∀ {g : Nat → Option Value} {vs : List AVal} {o : Nat}, CRel n ι H g vs o → WFs n vs
  | _, _, _, .nil _ _ => .nil
  | _, _, _, .cons _ v _ vs _ _ h hs => .cons v vs h.wf hs.wf
theorem DRel.wf {n : Nat} {ι : Inj} {H : Imm} : ∀ {g : Nat → Option Value} {sz : Nat} {vs : List AVal} {o : Nat}, DRel n ι H g sz vs o → WFs n vs
  | _, _, _, _, .nil _ _ _ => .nil
  | _, _, _, _, .agg _ _ cs es _ _ h hs => .cons _ es (.agg cs h.wf) hs.wf
  | _, _, _, _, .one _ v _ es _ _ _ h hs => .cons v es h.wf hs.wf
end

mutual
theorem VRel.mono {n n' m : Nat} {ι ι' : Inj} {H H' : Imm} (hi : ∀ b, b < m → ι' b = ι b) (hm : m ≤ n') (hH : H.CLe H') :
    ∀ {v : AVal} {w : Value}, VRel n ι H v w → WF m v → VRel n' ι' H' v w
  | _, _, .sc v, _ => .sc v
  | _, _, .ptr b i k _, .ptr _ _ _ h => by have := hi b h; rw [← this]; exact .ptr b i k (Nat.lt_of_lt_of_le h hm)
  | _, _, .iptr cs b o h, .iptr _ hw => .iptr cs b o (CRel.mono hi hm hH (fun _ _ hc => hH.cell hc) h hw)
  | _, _, .slice b off len cap _ hl hc, .slice _ _ _ h => by
      have := hi b h; rw [← this]; exact .slice b off len cap (Nat.lt_of_lt_of_le h hm) hl (by rw [this]; exact hc)
  | _, _, .view b off len _ hc, .view _ _ _ h => by
      have := hi b h; rw [← this]; exact .view b off len (Nat.lt_of_lt_of_le h hm) (by rw [this]; exact hc)
  | _, _, .endS b off o cap _ hc ho, .endS _ _ h => by
      have := hi b h; rw [← this]; exact .endS b off o cap (Nat.lt_of_lt_of_le h hm) (by rw [this]; exact hc) (by rw [this]; exact ho)
  | _, _, .data sz t els b o len cap hlen hl ht h, .data _ _ _ hw => .data sz t els b o len cap hlen hl ht (DRel.mono hi hm hH (fun _ _ hc => hH.cell hc) h hw)
  | _, _, .map b _, .map _ h => by have := hi b h; rw [← this]; exact .map b (Nat.lt_of_lt_of_le h hm)
  | _, _, .yld b _, .yld _ h => by have := hi b h; rw [← this]; exact .yld b (Nat.lt_of_lt_of_le h hm)
  | _, _, .func fn fs cs fs' cs' hf hc, .func _ _ _ wf wc => .func fn fs cs fs' cs' (LRel.mono hi hm hH hf wf) (LRel.mono hi hm hH hc wc)
  | _, _, .iface t v v' h, .iface _ _ hw => .iface t v v' (VRel.mono hi hm hH h hw)
  | _, _, .agg cs cs' h, .agg _ hw => .agg cs cs' (LRel.mono hi hm hH h hw)
  | _, _, .tuple cs cs' h, .tuple _ hw => .tuple cs cs' (LRel.mono hi hm hH h hw)
theorem LRel.mono {n n' m : Nat} {ι ι' : Inj} {H H' : Imm} (hi : ∀ b, b < m → ι' b = ι b) (hm : m ≤ n') (hH : H.CLe H') :
    ∀ {vs : List AVal} {ws : List Value}, LRel n ι H vs ws → WFs m vs → LRel n' ι' H' vs ws
  | _, _, .nil, _ => .nil
  | _, _, .cons v w vs ws h hs, .cons _ _ hw hws => .cons v w vs ws (VRel.mono hi hm hH h hw) (LRel.mono hi hm hH hs hws)
theorem CRel.mono {n n' m : Nat} {ι ι' : Inj} {H H' : Imm} (hi : ∀ b, b < m → ι' b = ι b) (hm : m ≤ n') (hH : H.CLe H') :
    ∀ {g g' : Nat → Option Value} {vs : List AVal} {o : Nat}, RLe g g' → CRel n ι H g vs o → WFs m vs → CRel n' ι' H' g' vs o
  | _, g', _, _, _, .nil _ o, _ => .nil g' o
  | _, g', _, _, hg, .cons _ v w vs o ho h hs, .cons _ _ hw hws =>
      .cons g' v w vs o (hg _ _ ho) (VRel.mono hi hm hH h hw) (CRel.mono hi hm hH hg hs hws)
theorem DRel.mono {n n' m : Nat} {ι ι' : Inj} {H H' : Imm} (hi : ∀ b, b < m → ι' b = ι b) (hm : m ≤ n') (hH : H.CLe H') :
    ∀ {g g' : Nat → Option Value} {sz : Nat} {vs : List AVal} {o : Nat}, RLe g g' → DRel n ι H g sz vs o → WFs m vs → DRel n' ι' H' g' sz vs o
  | _, g', _, _, _, _, .nil _ sz o, _ => .nil g' sz o
  | _, g', _, _, _, hg, .agg _ sz cs es o hsz h hs, .cons _ _ (.agg _ hw) hws =>
      .agg g' sz cs es o hsz (CRel.mono hi hm hH hg h hw) (DRel.mono hi hm hH hg hs hws)
  | _, g', _, _, _, hg, .one _ v w es o hv ho h hs, .cons _ _ hw hws =>
      .one g' v w es o hv (hg _ _ ho) (VRel.mono hi hm hH h hw) (DRel.mono hi hm hH hg hs hws)
end

theorem VRel.ext {n n' : Nat} {ι ι' : Inj} {H H' : Imm} (he : Ext n ι H n' ι' H') {v : AVal} {w : Value} (h : VRel n ι H v w) : VRel n' ι' H' v w :=
  h.mono he.inj he.next he.imm.cle h.wf
theorem LRel.ext {n n' : Nat} {ι ι' : Inj} {H H' : Imm} (he : Ext n ι H n' ι' H') {v : List AVal} {w : List Value} (h : LRel n ι H v w) : LRel n' ι' H' v w :=
  h.mono he.inj he.next he.imm.cle h.wf
end Abs
end
noncomputable section
namespace Abs
set_option linter.unusedVariables false
set_option linter.unusedSimpArgs false
set_option linter.unusedSectionVars false
open Go

/-! ### A tree by binary digits -/

inductive T (α : Type) where
  | leaf
  | node (l : T α) (v : Option α) (r : T α)

def T.getS {α : Type} : T α → Nat → Option α
  | .leaf, _ => none
  | .node l v r, k =>
    match Nat.beq k 0 with
    | true => v
    | false => match Nat.beq (k % 2) 1 with
      | true => l.getS (k / 2)
      | false => r.getS (k / 2 - 1)

def T.putS {α : Type} : Nat → T α → Nat → Option α → T α
  | 0, t, _, _ => t
  | f + 1, .leaf, k, x =>
    match Nat.beq k 0 with
    | true => .node .leaf x .leaf
    | false => match Nat.beq (k % 2) 1 with
      | true => .node (T.putS f .leaf (k / 2) x) none .leaf
      | false => .node .leaf none (T.putS f .leaf (k / 2 - 1) x)
  | f + 1, .node l v r, k, x =>
    match Nat.beq k 0 with
    | true => .node l x r
    | false => match Nat.beq (k % 2) 1 with
      | true => .node (T.putS f l (k / 2) x) v r
      | false => .node l v (T.putS f r (k / 2 - 1) x)

theorem nbeq_false {a b : Nat} (h : a ≠ b) : Nat.beq a b = false := by
  cases hh : Nat.beq a b with
  | false => rfl
  | true => exact absurd (Nat.eq_of_beq_eq_true hh) h

theorem T.getS_leaf {α : Type} (k : Nat) : T.getS (.leaf : T α) k = none := rfl

theorem T.getS_put {α : Type} : ∀ (f : Nat) (t : T α) (k k' : Nat) (x : Option α), k < 2 ^ f - 1 → (T.putS f t k x).getS k' = if k' = k then x else t.getS k' := by
  intro f
  induction f with
  | zero => intro t k k' x h; simp at h
  | succ f ih =>
    intro t k k' x h
    have hk : k / 2 < 2 ^ f - 1 ∨ k = 2 ^ (f + 1) - 2 ∨ k = 0 := by rw [Nat.pow_succ] at h ⊢; omega
    have key : ∀ (l : T α) (v : Option α) (r : T α), T.getS (match Nat.beq k 0 with
        | true => T.node l x r
        | false => match Nat.beq (k % 2) 1 with
          | true => .node (T.putS f l (k / 2) x) v r
          | false => .node l v (T.putS f r (k / 2 - 1) x)) k' = if k' = k then x else T.getS (.node l v r) k' := by
      intro l v r
      by_cases h0 : k = 0
      · subst h0
        simp only [T.getS]
        by_cases h1 : k' = 0
        · subst h1; simp
        · have : Nat.beq k' 0 = false := nbeq_false h1
          simp [this, h1]
      · have e0 : Nat.beq k 0 = false := nbeq_false h0
        simp only [e0]
        by_cases h2 : k % 2 = 1
        · have e1 : Nat.beq (k % 2) 1 = true := by rw [h2]; rfl
          simp only [e1, T.getS]
          by_cases h1 : k' = 0
          · subst h1; simp; intro hc; omega
          · have e2 : Nat.beq k' 0 = false := nbeq_false h1
            simp only [e2]
            by_cases h3 : k' % 2 = 1
            · have e3 : Nat.beq (k' % 2) 1 = true := by rw [h3]; rfl
              simp only [e3]
              rw [ih _ _ _ _ (by rw [Nat.pow_succ] at h; omega)]
              by_cases h4 : k' = k
              · subst h4; simp
              · have : k' / 2 ≠ k / 2 := by omega
                simp [h4, this]
            · have e3 : Nat.beq (k' % 2) 1 = false := nbeq_false h3
              simp only [e3]
              have : k' ≠ k := by intro hc; subst hc; exact h3 h2
              simp [this]
        · have e1 : Nat.beq (k % 2) 1 = false := nbeq_false h2
          simp only [e1, T.getS]
          by_cases h1 : k' = 0
          · subst h1; simp; intro hc; omega
          · have e2 : Nat.beq k' 0 = false := nbeq_false h1
            simp only [e2]
            by_cases h3 : k' % 2 = 1
            · have e3 : Nat.beq (k' % 2) 1 = true := by rw [h3]; rfl
              simp only [e3]
              have : k' ≠ k := by intro hc; subst hc; exact h2 h3
              simp [this]
            · have e3 : Nat.beq (k' % 2) 1 = false := nbeq_false h3
              simp only [e3]
              rw [ih _ _ _ _ (by rw [Nat.pow_succ] at h; omega)]
              by_cases h4 : k' = k
              · subst h4; simp
              · have : k' / 2 - 1 ≠ k / 2 - 1 := by omega
                simp [h4, this]
    cases t with
    | leaf =>
      have := key .leaf none .leaf
      have e : T.getS (.node .leaf none .leaf : T α) k' = T.getS .leaf k' := by
        simp only [T.getS]
        split
        · rfl
        · split <;> rfl
      rw [e] at this
      exact this
    | node l v r => exact key l v r

/-- Written out for the kernel. -/
def T.get {α : Type} (t : T α) : Nat → Option α :=
  @T.rec α (fun _ => Nat → Option α) (fun _ => none)
    (fun _ v _ l r k => @Bool.rec (fun _ => Option α) (@Bool.rec (fun _ => Option α) (r (Nat.sub (Nat.div k 2) 1)) (l (Nat.div k 2)) (Nat.beq (Nat.mod k 2) 1)) v (Nat.beq k 0)) t

theorem T.get_eq {α : Type} : ∀ (t : T α) (k : Nat), t.get k = t.getS k
  | .leaf, k => rfl
  | .node l v r, k => by
      show @Bool.rec (fun _ => Option α) (@Bool.rec (fun _ => Option α) (r.get (Nat.sub (Nat.div k 2) 1)) (l.get (Nat.div k 2)) (Nat.beq (Nat.mod k 2) 1)) v (Nat.beq k 0) = _
      rw [T.get_eq l, T.get_eq r]
      conv => rhs; unfold T.getS
      show @Bool.rec (fun _ => Option α) (@Bool.rec (fun _ => Option α) (r.getS (k / 2 - 1)) (l.getS (k / 2)) (Nat.beq (k % 2) 1)) v (Nat.beq k 0) = _
      cases Nat.beq k 0 <;> cases Nat.beq (k % 2) 1 <;> rfl

def T.put {α : Type} (f : Nat) : T α → Nat → Option α → T α :=
  @Nat.rec (fun _ => T α → Nat → Option α → T α) (fun t _ _ => t)
    (fun _ ih t => @T.rec α (fun _ => Nat → Option α → T α)
      (fun k x => @Bool.rec (fun _ => T α) (@Bool.rec (fun _ => T α) (.node .leaf none (ih .leaf (Nat.sub (Nat.div k 2) 1) x)) (.node (ih .leaf (Nat.div k 2) x) none .leaf) (Nat.beq (Nat.mod k 2) 1)) (.node .leaf x .leaf) (Nat.beq k 0))
      (fun l v r _ _ k x => @Bool.rec (fun _ => T α) (@Bool.rec (fun _ => T α) (.node l v (ih r (Nat.sub (Nat.div k 2) 1) x)) (.node (ih l (Nat.div k 2) x) v r) (Nat.beq (Nat.mod k 2) 1)) (.node l x r) (Nat.beq k 0)) t) f

theorem T.put_eq {α : Type} : ∀ (f : Nat) (t : T α) (k : Nat) (x : Option α), T.put f t k x = T.putS f t k x
  | 0, t, k, x => by cases t <;> rfl
  | f + 1, .leaf, k, x => by
      show @Bool.rec (fun _ => T α) (@Bool.rec (fun _ => T α) (.node .leaf none (T.put f .leaf (k / 2 - 1) x)) (.node (T.put f .leaf (k / 2) x) none .leaf) (Nat.beq (k % 2) 1)) (.node .leaf x .leaf) (Nat.beq k 0) = _
      rw [T.put_eq f, T.put_eq f]
      conv => rhs; unfold T.putS
      cases Nat.beq k 0 <;> cases Nat.beq (k % 2) 1 <;> rfl
  | f + 1, .node l v r, k, x => by
      show @Bool.rec (fun _ => T α) (@Bool.rec (fun _ => T α) (.node l v (T.put f r (k / 2 - 1) x)) (.node (T.put f l (k / 2) x) v r) (Nat.beq (k % 2) 1)) (.node l x r) (Nat.beq k 0) = _
      rw [T.put_eq f, T.put_eq f]
      conv => rhs; unfold T.putS
      cases Nat.beq k 0 <;> cases Nat.beq (k % 2) 1 <;> rfl

theorem T.get_leaf {α : Type} (k : Nat) : T.get (.leaf : T α) k = none := rfl

theorem T.get_put {α : Type} (f : Nat) (t : T α) (k k' : Nat) (x : Option α) (h : k < 2 ^ f - 1) : (T.put f t k x).get k' = if k' = k then x else t.get k' := by
  rw [T.put_eq, T.get_eq, T.get_eq]
  exact T.getS_put f t k k' x h

inductive ABlk where
  | cells (sz : Nat) (els : List AVal)
  | map (kvs : List (AVal × AVal)) (clock : Nat)
  | miter (m : Nat) (since : Nat) (seen : List Value)
  | mitern
  | siter (s : ByteArray) (pos : Nat)
  | loop (st : LoopState) (pend : Option Code) (ps : Array Tmp) (as bd : Code) (tm : T AVal) (nt d : Nat)
  | dfd

/-- 'tys': the types of some blocks' elements. -/
structure AStore where
  t : T ABlk
  next : Nat
  tys : List (Nat × Nat)

def AStore.get (σ : AStore) (b : Nat) : Option ABlk :=
  match Nat.blt b σ.next with
  | true => σ.t.get b
  | false => none

theorem AStore.fin (σ : AStore) (b : Nat) (h : σ.next ≤ b) : σ.get b = none := by
  have : Nat.blt b σ.next = false := by
    cases hh : Nat.blt b σ.next with
    | false => rfl
    | true => rw [Nat.blt_eq] at hh; omega
  simp [AStore.get, this]

def AStore.alloc (σ : AStore) (x : ABlk) : AStore := ⟨T.put (σ.next + 1) σ.t σ.next (some x), σ.next + 1, σ.tys⟩

def AStore.set (σ : AStore) (b : Nat) (x : ABlk) : AStore := ⟨T.put (b + 1) σ.t b (some x), σ.next, σ.tys⟩

def AStore.del (σ : AStore) (b : Nat) : AStore := ⟨T.put (b + 1) σ.t b none, σ.next, σ.tys⟩

/-- The type of a block's elements is known. -/
def AStore.tag (σ : AStore) (b t : Nat) : AStore := ⟨σ.t, σ.next, (b, t) :: σ.tys⟩

theorem lt_two_pow_sub (k : Nat) : k < 2 ^ (k + 1) - 1 := by
  have : k < 2 ^ k := Nat.lt_two_pow_self
  rw [Nat.pow_succ]; omega

theorem AStore.get_of_lt {σ : AStore} {b : Nat} (h : b < σ.next) : σ.get b = σ.t.get b := by
  have : Nat.blt b σ.next = true := by rw [Nat.blt_eq]; exact h
  simp [AStore.get, this]

theorem AStore.get_alloc (σ : AStore) (x : ABlk) (b : Nat) : (σ.alloc x).get b = if b = σ.next then some x else σ.get b := by
  by_cases hb : b < σ.next + 1
  · rw [AStore.get_of_lt (σ := σ.alloc x) hb, AStore.alloc, T.get_put _ _ _ _ _ (lt_two_pow_sub _)]
    by_cases h : b = σ.next
    · simp [h]
    · rw [if_neg h, if_neg h, AStore.get_of_lt (by omega)]
  · rw [AStore.fin _ _ (show (σ.alloc x).next ≤ b by simp [AStore.alloc]; omega), if_neg (by omega), AStore.fin _ _ (by omega)]

theorem AStore.get_set (σ : AStore) (b : Nat) (x : ABlk) (b' : Nat) : (σ.set b x).get b' = if b' = b ∧ b < σ.next then some x else σ.get b' := by
  by_cases hb : b' < σ.next
  · rw [AStore.get_of_lt (σ := σ.set b x) hb, AStore.set, T.get_put _ _ _ _ _ (lt_two_pow_sub _)]
    by_cases h : b' = b
    · subst h; simp [hb]
    · rw [if_neg h, if_neg (fun hh => h hh.1), AStore.get_of_lt hb]
  · rw [AStore.fin _ _ (show (σ.set b x).next ≤ b' by simp [AStore.set]; omega), if_neg (by omega), AStore.fin _ _ (by omega)]

theorem AStore.get_del (σ : AStore) (b b' : Nat) : (σ.del b).get b' = if b' = b then none else σ.get b' := by
  by_cases hb : b' < σ.next
  · rw [AStore.get_of_lt (σ := σ.del b) hb, AStore.del, T.get_put _ _ _ _ _ (lt_two_pow_sub _)]
    by_cases h : b' = b
    · simp [h]
    · rw [if_neg h, if_neg h, AStore.get_of_lt hb]
  · rw [AStore.fin _ _ (show (σ.del b).next ≤ b' by simp [AStore.del]; omega), AStore.fin _ _ (by omega)]; split <;> rfl

theorem AStore.lt_of_get {σ : AStore} {b : Nat} {x : ABlk} (h : σ.get b = some x) : b < σ.next := by
  rcases Nat.lt_or_ge b σ.next with h' | h'
  · exact h'
  · simp [σ.fin b h'] at h

inductive KRel (n : Nat) (ι : Inj) (H : Imm) : List (AVal × AVal) → List MapEntry → Prop
  | nil : KRel n ι H [] []
  | cons (k v : AVal) (e : MapEntry) (kvs : List (AVal × AVal)) (es : List MapEntry) (hk : VRel n ι H k e.key) (hv : VRel n ι H v e.val)
      (hs : KRel n ι H kvs es) : KRel n ι H ((k, v) :: kvs) (e :: es)

/-- No cell of the block is shut. -/
def FrOk (m : Nat) (fr : Nat × Nat) : Prop := ∀ o, o < m → ¬ (fr.1 ≤ o ∧ o < fr.2)

/-- The block at 'p' is that. -/
def BlkRel (n : Nat) (ι : Inj) (H : Imm) (w : World) (p : Place) : ABlk → Prop
  | .cells sz els => p.sz = sz ∧ els.length ≤ p.cap ∧ ∃ c elem fr, w.heap[p.blk]? = some (.cells c elem fr) ∧ FrOk c.size fr ∧ p.base + p.cap * sz ≤ c.size ∧
      DRel n ι H (c[·]?) sz els p.base ∧ elem = p.el
  | .map kvs clock => ∃ es, w.heap[p.blk]? = some (.map es clock) ∧ KRel n ι H kvs es.toList ∧ (es.toList.map (·.born)).Nodup ∧ (∀ e ∈ es.toList, e.born < clock) ∧ (es.toList.map (·.key)).Nodup
  | .miter m since seen => (m < n ∧ (ι m).blk < w.heap.size ∧ p.base = 0) ∧ ∃ since' seen' stepped, w.heap[p.blk]? = some (.mapIter (some (ι m).blk) since' seen' stepped) ∧ since' = since ∧ stepped = since ∧
      ∀ es clock, w.heap[(ι m).blk]? = some (.map es clock) → since ≤ clock ∧ (clock = since → ∀ e ∈ es.toList, (e.born ∈ seen' ↔ e.key ∈ seen) ∧ (seen'.back? = some e.born ↔ seen.getLast? = some e.key))
  | .mitern => p.base = 0 ∧ ∃ since seen stepped, w.heap[p.blk]? = some (.mapIter none since seen stepped)
  | .siter s pos => p.base = 0 ∧ w.heap[p.blk]? = some (.stringIter s pos)
  | .loop st pend ps as bd tm nt d => p.base = 0 ∧ d < n ∧ ∃ fn tmps, w.heap[p.blk]? = some (.loop ⟨st, pend, fn, tmps, ps, as, bd, (ι d).blk⟩) ∧ tmps.size = nt ∧
      ∀ t v, tm.get t = some v → t < nt ∧ VRel n ι H v (tmps.getD t undef)
  | .dfd => p.base = 0 ∧ w.heap[p.blk]? = some (.deferred (some []))

structure TyI where
  desc : TypeDesc
  size : Nat
  bytes : Nat
  zero : Value

def TyI.isA (i : TyI) : Bool :=
  match i.desc with
  | .struct _ | .array _ _ => true
  | _ => false

/-- A type table that the program has. -/
def TyOk (P : Program) (ty : Nat → Option TyI) : Prop :=
  ∀ t i, ty t = some i → P.underlying t = some i.desc ∧ ∃ info, P.info? t = some info ∧ info.size = i.size ∧ info.bytes = i.bytes ∧ info.zero = some i.zero

structure ADef where
  fn : Fn
  cap : List AVal
  args : List AVal

structure Env where
  P : Program
  G : Nat → AVal
  ty : Nat → Option TyI
  ok : TyOk P ty
  fns : Nat → Bool
  fok : ∀ f, fns f = true → ∃ fn, P.funcs[f]? = some fn ∧ fn.body.isNone = false ∧ (fn.name == "runtime.NumGoroutine") = false
  /-- Functions that give back what they are given. -/
  nes : Nat → Bool
  nok : ∀ f, nes f = true → ∃ fn, P.funcs[f]? = some fn ∧ fn.body.isNone = true ∧ (fn.name == "runtime.NumGoroutine") = false ∧ Extern.findNext fn = none ∧ Extern.find fn = some Extern.AbiNoEscape.same
  /-- The world at the start. -/
  w0 : World
  /-- The loop over a function, by its record's number, of which the code is a round's. -/
  rd : Option Nat
  /-- What the code at hand has deferred, where it is walked by hand. -/
  ds : List ADef

/-- The outside is as it is there. -/
def Same (w0 w : World) : Prop := w.os = w0.os ∧ w.output = w0.output

structure Rel (E : Env) (ι : Inj) (H : Imm) (σ : AStore) (w : World) : Prop where
  imm : ∀ c o, H c = some o → w.heap[c]? = some o.2
  live : ∀ b x, σ.get b = some x → BlkRel σ.next ι H w (ι b) x ∧ H (ι b).blk = none ∧ (ι b).blk < w.heap.size
  inj : ∀ b b' x x', σ.get b = some x → σ.get b' = some x' → (ι b).blk = (ι b').blk → b = b'
  glob : ∀ g, VRel σ.next ι H (E.G g) (.pointer (some ⟨g, 0, none⟩))
  keep : Same E.w0 w
  tys : ∀ b t, (b, t) ∈ σ.tys → b < σ.next ∧ (ι b).el = t ∧ (ι b).base = 0

theorem Same.refl (w : World) : Same w w := ⟨rfl, rfl⟩
theorem Same.trans_keep {a b c : World} (h2 : Same b c) (h : Same a b) : Same a c := ⟨h2.1.trans h.1, h2.2.trans h.2⟩
theorem Same.trans {a b c : World} (h : Same a b) (h2 : Same b c) : Same a c := ⟨h2.1.trans h.1, h2.2.trans h.2⟩

/-- The same, of another round. -/
theorem Rel.rd {E : Env} {ι : Inj} {H : Imm} {σ : AStore} {w : World} (h : Rel E ι H σ w) (r : Option Nat) : Rel { E with rd := r } ι H σ w := ⟨h.imm, h.live, h.inj, h.glob, h.keep, h.tys⟩
theorem Rel.unrd {E : Env} {r : Option Nat} {ι : Inj} {H : Imm} {σ : AStore} {w : World} (h : Rel { E with rd := r } ι H σ w) : Rel E ι H σ w := ⟨h.imm, h.live, h.inj, h.glob, h.keep, h.tys⟩

theorem KRel.ext {n n' : Nat} {ι ι' : Inj} {H H' : Imm} (he : Ext n ι H n' ι' H') : ∀ {kvs : List (AVal × AVal)} {es : List MapEntry}, KRel n ι H kvs es → KRel n' ι' H' kvs es
  | _, _, .nil => .nil
  | _, _, .cons k v e kvs es hk hv hs => .cons k v e kvs es (hk.ext he) (hv.ext he) (hs.ext he)

theorem DRel.ext {n n' : Nat} {ι ι' : Inj} {H H' : Imm} (he : Ext n ι H n' ι' H') {g g' : Nat → Option Value} (hg : RLe g g') {sz : Nat} {els : List AVal} {o : Nat}
    (h : DRel n ι H g sz els o) : DRel n' ι' H' g' sz els o := h.mono he.inj he.next he.imm.cle hg h.wf
theorem CRel.ext {n n' : Nat} {ι ι' : Inj} {H H' : Imm} (he : Ext n ι H n' ι' H') {g g' : Nat → Option Value} (hg : RLe g g') {els : List AVal} {o : Nat}
    (h : CRel n ι H g els o) : CRel n' ι' H' g' els o := h.mono he.inj he.next he.imm.cle hg h.wf

/-- A block's relation goes on where its own place, and what it looks at, stay. -/
theorem BlkRel.ext {n n' : Nat} {ι ι' : Inj} {H H' : Imm} (he : Ext n ι H n' ι' H') {w w' : World} {p : Place} {x : ABlk} (h : BlkRel n ι H w p x)
    (hb : w'.heap[p.blk]? = w.heap[p.blk]?) (hs : w.heap.size ≤ w'.heap.size)
    (hm : ∀ m since seen, x = .miter m since seen → w'.heap[(ι m).blk]? = w.heap[(ι m).blk]?) : BlkRel n' ι' H' w' p x := by
  cases x with
  | cells sz els =>
    obtain ⟨h1, h2, c, elem, fr, h3, hf, h4, h5, h6⟩ := h
    exact ⟨h1, h2, c, elem, fr, by rw [hb]; exact h3, hf, h4, h5.ext he (fun _ _ h => h), h6⟩
  | map kvs clock =>
    obtain ⟨es, h1, h2, h3⟩ := h
    exact ⟨es, by rw [hb]; exact h1, h2.ext he, h3⟩
  | miter m since seen =>
    obtain ⟨⟨h0, h0', h0''⟩, s', se', st, h1, h2, h3, h4⟩ := h
    refine ⟨⟨Nat.lt_of_lt_of_le h0 he.next, by rw [he.inj m h0]; omega, h0''⟩, s', se', st, ?_, h2, h3, ?_⟩
    · rw [hb, he.inj m h0]; exact h1
    · intro es clock hh
      rw [he.inj m h0, hm m since seen rfl] at hh
      exact h4 es clock hh
  | mitern =>
    obtain ⟨z, a, b, c, h⟩ := h
    exact ⟨z, a, b, c, by rw [hb]; exact h⟩
  | siter s pos => exact ⟨h.1, hb.trans h.2⟩
  | loop st pend ps as bd tm nt d =>
    obtain ⟨z, hd, fn, tmps, h1, h2, h3⟩ := h
    refine ⟨z, Nat.lt_of_lt_of_le hd he.next, fn, tmps, ?_, h2, fun t v ht => ⟨(h3 t v ht).1, (h3 t v ht).2.ext he⟩⟩
    rw [hb, he.inj d hd]; exact h1
  | dfd => exact ⟨h.1, hb.trans h.2⟩

theorem Rel.congr {E : Env} {ι : Inj} {H : Imm} {σ : AStore} {w w' : World} (h : Rel E ι H σ w) (hw : w'.heap = w.heap) (hk : Same w w') : Rel E ι H σ w' where
  imm c o hc := by rw [hw]; exact h.imm c o hc
  live b x hb := by
    obtain ⟨h1, h2, h3⟩ := h.live b x hb
    exact ⟨h1.ext (Ext.refl _ _ _) (by rw [hw]) (by rw [hw]; exact Nat.le_refl _) (fun _ _ _ _ => by rw [hw]), h2, by rw [hw]; exact h3⟩
  inj := h.inj
  glob := h.glob
  keep := ⟨hk.1.trans h.keep.1, hk.2.trans h.keep.2⟩
  tys := h.tys

/-- Fewer blocks are looked at. -/
theorem Rel.restrict {E : Env} {ι : Inj} {H : Imm} {σ τ : AStore} {w : World} (h : Rel E ι H σ w) (hn : τ.next = σ.next) (hs : ∀ b x, τ.get b = some x → σ.get b = some x) (ht : ∀ p ∈ τ.tys, p ∈ σ.tys) :
    Rel E ι H τ w where
  imm := h.imm
  live b x hb := by rw [hn]; exact h.live b x (hs b x hb)
  inj b b' x x' hb hb' := h.inj b b' x x' (hs b x hb) (hs b' x' hb')
  glob := by rw [hn]; exact h.glob
  keep := h.keep
  tys b t hb := by rw [hn]; exact h.tys b t (ht _ hb)

def upd (ι : Inj) (b : Nat) (p : Place) : Inj := fun b' => if b' = b then p else ι b'

theorem upd_self (ι : Inj) (b : Nat) (p : Place) : upd ι b p b = p := by simp [upd]
theorem upd_ne (ι : Inj) {b b' : Nat} (p : Place) (h : b' ≠ b) : upd ι b p b' = ι b' := by simp [upd, h]

theorem Ext.upd (n : Nat) (ι : Inj) (H : Imm) (p : Place) : Ext n ι H (n + 1) (upd ι n p) H :=
  ⟨by omega, fun b hb => upd_ne ι p (by omega), Imm.Le.refl _⟩

theorem Rel.blk_lt {E : Env} {ι : Inj} {H : Imm} {σ : AStore} {w : World} (h : Rel E ι H σ w) {b : Nat} {x : ABlk} (hb : σ.get b = some x) : (ι b).blk < w.heap.size :=
  (h.live b x hb).2.2

/-- A new block. -/
theorem Rel.alloc {E : Env} {ι : Inj} {H : Imm} {σ : AStore} {w : World} (h : Rel E ι H σ w) {o : Obj} {p : Place} {x : ABlk} (hp : p.blk = w.heap.size)
    (hx : BlkRel σ.next ι H { w with heap := w.heap.push o } p x) :
    Rel E (upd ι σ.next p) H (σ.alloc x) { w with heap := w.heap.push o } := by
  have hold : ∀ (c : Nat) (o' : Obj), w.heap[c]? = some o' → (w.heap.push o)[c]? = some o' := by
    intro c o' hc
    have : c < w.heap.size := by
      rcases Nat.lt_or_ge c w.heap.size with h' | h'
      · exact h'
      · simp [Array.getElem?_eq_none h'] at hc
    simp [Array.getElem?_push, Nat.ne_of_lt this, hc]
  have hlt : ∀ (c : Nat), c < w.heap.size → (w.heap.push o)[c]? = w.heap[c]? := by
    intro c hc
    simp [Array.getElem?_push, Nat.ne_of_lt hc]
  have he : Ext σ.next ι H (σ.next + 1) (upd ι σ.next p) H := Ext.upd _ _ _ _
  have hH : ∀ c o', H c = some o' → c < w.heap.size := by
    intro c o' hc
    have := h.imm c o' hc
    rcases Nat.lt_or_ge c w.heap.size with h' | h'
    · exact h'
    · simp [Array.getElem?_eq_none h'] at this
  refine ⟨fun c o' hc => hold c _ (h.imm c o' hc), ?_, ?_, fun g => (h.glob g).ext he, h.keep, ?_⟩
  rotate_left 2
  · intro b t hb
    obtain ⟨h1, h2, h3⟩ := h.tys b t hb
    have h4 : upd ι σ.next p b = ι b := upd_ne _ _ (by omega)
    rw [h4]
    exact ⟨Nat.lt_succ_of_lt h1, h2, h3⟩
  · intro b y hb
    rw [AStore.get_alloc] at hb
    split at hb
    · rename_i hbn
      cases hb
      subst hbn
      rw [upd_self]
      refine ⟨hx.ext he rfl (Nat.le_refl _) (fun _ _ _ _ => rfl), ?_, ?_⟩
      · cases hc : H p.blk with
        | none => rfl
        | some o' => have := hH _ _ hc; omega
      · simp [hp]
    · rename_i hbn
      obtain ⟨h1, h2, h3⟩ := h.live b y hb
      rw [upd_ne _ _ hbn]
      refine ⟨h1.ext he (hlt _ h3) (by simp) ?_, h2, by simp; omega⟩
      intro m since seen hy
      subst hy
      exact hlt _ h1.1.2.1
  · intro b b' y y' hb hb' hbb
    rw [AStore.get_alloc] at hb hb'
    by_cases h1 : b = σ.next <;> by_cases h2 : b' = σ.next
    · omega
    · simp only [h1, upd_self, upd_ne _ _ h2] at hbb
      simp only [h2, if_false] at hb'
      have := h.blk_lt hb'; omega
    · simp only [h2, upd_self, upd_ne _ _ h1] at hbb
      simp only [h1, if_false] at hb
      have := h.blk_lt hb; omega
    · simp only [h1, h2, if_false] at hb hb'
      rw [upd_ne _ _ h1, upd_ne _ _ h2] at hbb
      exact h.inj b b' y y' hb hb' hbb
/-- A block of the call's own is turned. -/
theorem Rel.set {E : Env} {ι : Inj} {H : Imm} {σ : AStore} {w w' : World} (h : Rel E ι H σ w) {b : Nat} {y x : ABlk} (hb : σ.get b = some y)
    (hsz : w'.heap.size = w.heap.size) (ho : ∀ c, c ≠ (ι b).blk → w'.heap[c]? = w.heap[c]?) (hk : Same w w')
    (hx : BlkRel σ.next ι H w' (ι b) x)
    (hm : ∀ b' m since seen, b' ≠ b → σ.get b' = some (.miter m since seen) → (ι m).blk = (ι b).blk → BlkRel σ.next ι H w' (ι b') (.miter m since seen)) :
    Rel E ι H (σ.set b x) w' := by
  have hlt := AStore.lt_of_get hb
  refine ⟨?_, ?_, ?_, h.glob, ⟨hk.1.trans h.keep.1, hk.2.trans h.keep.2⟩, h.tys⟩
  · intro c o hc
    rw [ho c]
    · exact h.imm c o hc
    · intro hcb
      subst hcb
      rw [(h.live b y hb).2.1] at hc
      cases hc
  · intro b' z hz
    rw [AStore.get_set] at hz
    simp only [hlt, and_true] at hz
    split at hz
    · rename_i hbb
      cases hz
      subst hbb
      exact ⟨hx, (h.live b' y hb).2.1, by rw [hsz]; exact (h.live b' y hb).2.2⟩
    · rename_i hbb
      obtain ⟨h1, h2, h3⟩ := h.live b' z hz
      have hne : (ι b').blk ≠ (ι b).blk := fun hc => hbb (h.inj b' b z y hz hb hc)
      refine ⟨?_, h2, by rw [hsz]; exact h3⟩
      by_cases hmm : ∃ m since seen, z = .miter m since seen ∧ (ι m).blk = (ι b).blk
      · obtain ⟨m, since, seen, rfl, hmb⟩ := hmm
        exact hm b' m since seen hbb hz hmb
      · refine h1.ext (Ext.refl _ _ _) (ho _ hne) (by omega) ?_
        intro m since seen hz'
        exact ho _ (fun hc => hmm ⟨m, since, seen, hz', hc⟩)
  · intro b1 b2 x1 x2 h1 h2
    rw [AStore.get_set] at h1 h2
    simp only [hlt, and_true] at h1 h2
    split at h1 <;> split at h2
    · rename_i e1 e2; intro _; omega
    · rename_i e1 e2; subst e1; exact h.inj b1 b2 _ _ hb h2
    · rename_i e1 e2; subst e2; exact h.inj b1 b2 _ _ h1 hb
    · exact h.inj b1 b2 _ _ h1 h2

/-- A block of cells is turned. -/
theorem Rel.set_cells {E : Env} {ι : Inj} {H : Imm} {σ : AStore} {w w' : World} (h : Rel E ι H σ w) {b : Nat} {sz : Nat} {els : List AVal} {x : ABlk} (hb : σ.get b = some (.cells sz els))
    (hsz : w'.heap.size = w.heap.size) (ho : ∀ c, c ≠ (ι b).blk → w'.heap[c]? = w.heap[c]?) (hk : Same w w')
    {c' : Array Value} {elem' : TypeId} {fr' : Nat × Nat} (hc' : w'.heap[(ι b).blk]? = some (.cells c' elem' fr'))
    (hx : BlkRel σ.next ι H w' (ι b) x) : Rel E ι H (σ.set b x) w' := by
  refine h.set hb hsz ho hk hx ?_
  intro b' m since seen hne hz hmb
  obtain ⟨h1, h2, h3⟩ := h.live b' _ hz
  have hne' : (ι b').blk ≠ (ι b).blk := fun hc => hne (h.inj b' b _ _ hz hb hc)
  obtain ⟨⟨g0, g0', g0''⟩, s', se', st, g1, g2, g3, g4⟩ := h1
  refine ⟨⟨g0, by omega, g0''⟩, s', se', st, by rw [ho _ hne']; exact g1, g2, g3, ?_⟩
  intro es clock hh
  rw [hmb, hc'] at hh
  cases hh

theorem Rel.tag {E : Env} {ι : Inj} {H : Imm} {σ : AStore} {w : World} (h : Rel E ι H σ w) {b t : Nat} (h1 : b < σ.next) (h2 : (ι b).el = t) (h3 : (ι b).base = 0) : Rel E ι H (σ.tag b t) w :=
  ⟨h.imm, h.live, h.inj, h.glob, h.keep, fun b' t' hb => by
    simp only [AStore.tag, List.mem_cons, Prod.mk.injEq] at hb
    rcases hb with ⟨rfl, rfl⟩ | hb
    · exact ⟨h1, h2, h3⟩
    · exact h.tys b' t' hb⟩
end Abs
end
noncomputable section
namespace Abs
set_option linter.unusedVariables false
set_option linter.unusedSimpArgs false
set_option linter.unusedSectionVars false
open Go

/-- What the cells of a block are. -/
def rd (w : World) (b : Nat) : Nat → Option Value := fun o => w.cell? ⟨b, o, none⟩

theorem rd_cells {w : World} {b : Nat} {c : Array Value} {e : TypeId} {f : Nat × Nat} (h : w.heap[b]? = some (.cells c e f)) : rd w b = (c[·]?) := by
  funext o; simp [rd, World.cell?, h]

theorem rd_imm {H : Imm} {w : World} (h : ∀ c o, H c = some o → w.heap[c]? = some o.2) (b : Nat) : RLe (H.cell? b) (rd w b) := by
  intro o v hc
  unfold Imm.cell? at hc
  cases hb : H b with
  | none => simp [hb] at hc
  | some x =>
    rw [hb] at hc
    have := h b x hb
    obtain ⟨t, x⟩ := x
    cases t with
    | false => simp at hc
    | true =>
      cases x with
      | cells c e f => simp at hc; simp [rd, World.cell?, this, hc]
      | _ => simp at hc

theorem RLe.refl (g : Nat → Option Value) : RLe g g := fun _ _ h => h

theorem LRel.length {n : Nat} {ι : Inj} {H : Imm} : ∀ {vs : List AVal} {ws : List Value}, LRel n ι H vs ws → vs.length = ws.length
  | _, _, .nil => rfl
  | _, _, .cons _ _ _ _ _ hs => by simp [hs.length]

theorem LRel.get {n : Nat} {ι : Inj} {H : Imm} : ∀ {vs : List AVal} {ws : List Value} {k : Nat} {v : AVal}, LRel n ι H vs ws → vs[k]? = some v →
    ∃ w, ws[k]? = some w ∧ VRel n ι H v w
  | _, _, 0, _, .cons _ w _ _ h _, hv => by simp at hv; subst hv; exact ⟨w, by simp, h⟩
  | _, _, k + 1, _, .cons _ _ _ _ _ hs, hv => by simp at hv; obtain ⟨w, h1, h2⟩ := hs.get hv; exact ⟨w, by simpa using h1, h2⟩

theorem LRel.append {n : Nat} {ι : Inj} {H : Imm} : ∀ {vs vs' : List AVal} {ws ws' : List Value}, LRel n ι H vs ws → LRel n ι H vs' ws' → LRel n ι H (vs ++ vs') (ws ++ ws')
  | _, _, _, _, .nil, h => h
  | _, _, _, _, .cons v w vs ws h hs, h' => .cons v w _ _ h (hs.append h')

theorem LRel.drop {n : Nat} {ι : Inj} {H : Imm} : ∀ {vs : List AVal} {ws : List Value} (k : Nat), LRel n ι H vs ws → LRel n ι H (vs.drop k) (ws.drop k)
  | _, _, 0, h => by simpa using h
  | _, _, _ + 1, .nil => by simpa using LRel.nil
  | _, _, k + 1, .cons _ _ _ _ _ hs => by simpa using hs.drop k
theorem LRel.take {n : Nat} {ι : Inj} {H : Imm} : ∀ {vs : List AVal} {ws : List Value} (k : Nat), LRel n ι H vs ws → LRel n ι H (vs.take k) (ws.take k)
  | _, _, 0, _ => by simpa using LRel.nil
  | _, _, _ + 1, .nil => by simpa using LRel.nil
  | _, _, k + 1, .cons v w vs ws h hs => by simpa using .cons v w _ _ h (hs.take k)
theorem LRel.set {n : Nat} {ι : Inj} {H : Imm} : ∀ {vs : List AVal} {ws : List Value} (k : Nat) {v : AVal} {w : Value}, LRel n ι H vs ws → VRel n ι H v w →
    LRel n ι H (vs.set k v) (ws.set k w)
  | _, _, _, _, _, .nil, _ => by simpa using LRel.nil
  | _, _, 0, v, w, .cons _ _ vs ws _ hs, h' => by simpa using .cons v w vs ws h' hs
  | _, _, k + 1, _, _, .cons v w vs ws h hs, h' => by simpa using .cons v w _ _ h (hs.set k h')

theorem LRel.sc {n : Nat} {ι : Inj} {H : Imm} : ∀ (ws : List Value), LRel n ι H (ws.map .sc) ws
  | [] => .nil
  | w :: ws => .cons _ w _ ws (.sc w) (LRel.sc ws)

theorem CRel.get {n : Nat} {ι : Inj} {H : Imm} {g : Nat → Option Value} : ∀ {vs : List AVal} {o k : Nat} {v : AVal}, CRel n ι H g vs o → vs[k]? = some v →
    ∃ w, g (o + k) = some w ∧ VRel n ι H v w
  | _, _, 0, _, .cons _ _ w _ o ho h _, hv => by simp at hv; subst hv; exact ⟨w, ho, h⟩
  | _, o, k + 1, _, .cons _ _ _ _ _ _ _ hs, hv => by
      simp at hv
      obtain ⟨w, h1, h2⟩ := hs.get hv
      exact ⟨w, by rw [← h1]; congr 1; omega, h2⟩

theorem CRel.drop {n : Nat} {ι : Inj} {H : Imm} {g : Nat → Option Value} : ∀ {vs : List AVal} {o : Nat} (k : Nat), CRel n ι H g vs o → CRel n ι H g (vs.drop k) (o + k)
  | _, _, 0, h => by simpa using h
  | _, o, _ + 1, .nil _ _ => by simpa using CRel.nil _ _
  | _, o, k + 1, .cons _ _ _ _ _ _ _ hs => by
      have := hs.drop k
      simpa [show o + (k + 1) = o + 1 + k by omega] using this

theorem CRel.take {n : Nat} {ι : Inj} {H : Imm} {g : Nat → Option Value} : ∀ {vs : List AVal} {o : Nat} (k : Nat), CRel n ι H g vs o → CRel n ι H g (vs.take k) o
  | _, _, 0, _ => by simpa using CRel.nil _ _
  | _, _, _ + 1, .nil _ _ => by simpa using CRel.nil _ _
  | _, _, k + 1, .cons _ v w _ o ho h hs => by simpa using .cons g v w _ o ho h (hs.take k)

/-- The cells, as a list of values. -/
theorem CRel.list {n : Nat} {ι : Inj} {H : Imm} {g : Nat → Option Value} : ∀ {vs : List AVal} {o : Nat}, CRel n ι H g vs o →
    ∃ ws, LRel n ι H vs ws ∧ ∀ k, k < vs.length → g (o + k) = ws[k]?
  | _, _, .nil _ _ => ⟨[], .nil, by simp⟩
  | _, _, .cons _ v w vs o ho h hs => by
      obtain ⟨ws, h1, h2⟩ := hs.list
      refine ⟨w :: ws, .cons v w vs ws h h1, ?_⟩
      intro k hk
      cases k with
      | zero => simpa using ho
      | succ k => simp at hk; rw [show o + (k + 1) = o + 1 + k by omega, h2 k hk]; simp

theorem CRel.of_list {n : Nat} {ι : Inj} {H : Imm} {g : Nat → Option Value} : ∀ {vs : List AVal} {ws : List Value} {o : Nat}, LRel n ι H vs ws →
    (∀ k, k < ws.length → g (o + k) = ws[k]?) → CRel n ι H g vs o
  | _, _, _, .nil, _ => .nil _ _
  | _, _, o, .cons v w vs ws h hs, hg => .cons g v w vs o (by simpa using hg 0 (by simp)) h
      (CRel.of_list hs (fun k hk => by rw [show o + 1 + k = o + (k + 1) by omega, hg (k + 1) (by simpa using hk)]; simp))

theorem AVal.cells_one {v : AVal} (h : v.isAgg = false) : v.cells = [v] := by cases v <;> simp_all [AVal.isAgg, AVal.cells]

theorem DRel.get {n : Nat} {ι : Inj} {H : Imm} {g : Nat → Option Value} : ∀ {els : List AVal} {sz o i : Nat} {e : AVal}, DRel n ι H g sz els o → els[i]? = some e →
    CRel n ι H g e.cells (o + i * sz) ∧ e.cells.length = sz
  | _, _, _, 0, _, .agg _ sz cs es o hsz h _, hv => by simp at hv; subst hv; simpa [AVal.cells, hsz] using h
  | _, _, _, 0, _, .one _ v w es o hn ho h _, hv => by
      simp at hv; subst hv; rw [AVal.cells_one hn]; simpa using .cons g v w [] o ho h (.nil _ _)
  | _, _, _, i + 1, _, .agg _ sz cs es o hsz h hs, hv => by
      simp at hv
      have := hs.get hv
      rw [show o + (i + 1) * sz = o + sz + i * sz by rw [Nat.add_mul]; omega]
      exact this
  | _, _, _, i + 1, _, .one _ v w es o hn ho h hs, hv => by
      simp at hv
      have := hs.get hv
      rw [show o + (i + 1) * 1 = o + 1 + i * 1 by omega]
      exact this

/-- The elements one by one. -/
theorem DRel.of_get {n : Nat} {ι : Inj} {H : Imm} {g : Nat → Option Value} : ∀ {els : List AVal} {sz o : Nat},
    (∀ i e, els[i]? = some e → CRel n ι H g e.cells (o + i * sz) ∧ e.cells.length = sz) → DRel n ι H g sz els o
  | [], _, _, _ => .nil _ _ _
  | e :: es, sz, o, h => by
      have hs : ∀ i e, es[i]? = some e → CRel n ι H g e.cells (o + sz + i * sz) ∧ e.cells.length = sz := by
        intro i e he
        have := h (i + 1) e (by simpa using he)
        rwa [show o + (i + 1) * sz = o + sz + i * sz by rw [Nat.add_mul]; omega] at this
      have h0 := h 0 e (by simp)
      simp only [Nat.zero_mul, Nat.add_zero] at h0
      by_cases he : e.isAgg = true
      · cases e with
        | agg cs => exact .agg _ sz cs es o (by simpa [AVal.cells] using h0.2) (by simpa [AVal.cells] using h0.1) (DRel.of_get hs)
        | _ => simp [AVal.isAgg] at he
      · have he : e.isAgg = false := by simpa using he
        rw [AVal.cells_one he] at h0
        obtain ⟨h1, h2⟩ := h0
        obtain rfl : sz = 1 := by simpa using h2.symm
        cases h1 with
        | cons _ _ w _ _ ho hv _ => exact .one _ e w es o he ho hv (DRel.of_get hs)

/-- 'a.add'. -/
theorem add_mk (b o n : Nat) : (⟨b, o, none⟩ : Addr).add n = ⟨b, o + n, none⟩ := by
  unfold Addr.add; split <;> simp_all

theorem run_loadCellsFrom (P : Program) (w : World) (b o : Nat) : ∀ (m i : Nat) (ws acc : List Value),
    ws.length = m → (∀ k, k < m → rd w b (o + i + k) = ws[k]?) →
    (loadCellsFrom ⟨b, o, none⟩ i m acc.toArray).run P w = .ok (acc ++ ws).toArray w := by
  intro m
  induction m with
  | zero => intro i ws acc hl _; obtain rfl := List.length_eq_zero_iff.1 hl; simp [loadCellsFrom, pure]
  | succ m ih =>
    intro i ws acc hl hg
    cases ws with
    | nil => simp at hl
    | cons v ws =>
      simp at hl
      have h0 := hg 0 (by omega)
      simp [rd] at h0
      have := ih (i + 1) ws (acc ++ [v]) hl (fun k hk => by
        have := hg (k + 1) (by omega)
        rw [show o + (i + 1) + k = o + i + (k + 1) by omega, this]; simp)
      simp only [loadCellsFrom, add_mk, load, bind, Sem.bind, Sem.run, h0]
      simpa using this

theorem run_loadCells (P : Program) (w : World) (b o m : Nat) (ws : List Value) (hl : ws.length = m) (hg : ∀ k, k < m → rd w b (o + k) = ws[k]?) :
    (loadCells ⟨b, o, none⟩ m).run P w = .ok ws.toArray w := by
  have := run_loadCellsFrom P w b o m 0 ws [] hl (by simpa using hg)
  simpa [loadCells] using this

/-- The cells of a block behind stores. -/
def splice (c : Array Value) (o : Nat) : List Value → Array Value
  | [] => c
  | v :: vs => splice (c.setIfInBounds o v) (o + 1) vs

theorem splice_size : ∀ (vs : List Value) (c : Array Value) (o : Nat), (splice c o vs).size = c.size
  | [], _, _ => rfl
  | v :: vs, c, o => by rw [splice, splice_size vs]; simp

theorem splice_get : ∀ (vs : List Value) (c : Array Value) (o i : Nat), o + vs.length ≤ c.size →
    (splice c o vs)[i]? = if o ≤ i ∧ i < o + vs.length then vs[i - o]? else c[i]?
  | [], c, o, i, _ => by simp [splice]; intro h1 h2; omega
  | v :: vs, c, o, i, h => by
      simp at h
      rw [splice, splice_get vs _ _ _ (by simp; omega)]
      by_cases h1 : o + 1 ≤ i ∧ i < o + 1 + vs.length
      · rw [if_pos h1, if_pos (by simp; omega)]
        rw [show i - o = (i - (o + 1)) + 1 by omega]; simp
      · rw [if_neg h1]
        by_cases h2 : o = i
        · subst h2
          rw [if_pos (by simp)]
          simp [Array.getElem?_setIfInBounds]; omega
        · rw [if_neg (by simp; omega)]
          simp [h2]

def isCellV : Value → Bool
  | .agg _ | .tuple _ => false
  | _ => true

theorem run_storeCells (P : Program) (b : Nat) (o : Nat) (e : TypeId) (fr : Nat × Nat) : ∀ (vs : List Value) (w : World) (c : Array Value) (i : Nat),
    w.heap[b]? = some (.cells c e fr) → FrOk c.size fr → (∀ v ∈ vs, isCellV v = true) → o + i + vs.length ≤ c.size →
    ∃ w', (storeCells ⟨b, o, none⟩ vs i).run P w = .ok () w' ∧ w'.heap = w.heap.setIfInBounds b (.cells (splice c (o + i) vs) e fr) ∧ Same w w'
  | [], w, c, i, hb, _, _, _ => by
      refine ⟨w, by simp [storeCells, pure], ?_, ⟨rfl, rfl⟩⟩
      have hlt : b < w.heap.size := by
        rcases Nat.lt_or_ge b w.heap.size with h | h
        · exact h
        · simp [Array.getElem?_eq_none h] at hb
      apply Array.ext_getElem?
      intro j
      simp only [Array.getElem?_setIfInBounds, splice]
      split
      · rename_i hj; subst hj; rw [hb]
      · rfl
  | v :: vs, w, c, i, hb, hf, hv, hl => by
      simp at hl
      have hlt : b < w.heap.size := by
        rcases Nat.lt_or_ge b w.heap.size with h | h
        · exact h
        · simp [Array.getElem?_eq_none h] at hb
      have hv0 : isCellV v = true := hv v (by simp)
      have hcell : w.cell? ⟨b, o + i, none⟩ = some c[o + i] := by
        simp [World.cell?, hb]
      have hfz : w.frozen? ⟨b, o + i, none⟩ = false := by
        have := hf (o + i) (by omega)
        simp [World.frozen?, hb]; omega
      have hset : (w.setCell ⟨b, o + i, none⟩ v).heap = w.heap.setIfInBounds b (.cells (c.setIfInBounds (o + i) v) e fr) := by
        simp only [World.setCell]
        apply Array.ext_getElem?
        intro j
        simp only [Array.getElem?_setIfInBounds, Array.getElem?_modify]
        split
        · rename_i hj; subst hj; rw [hb]; simp
        · rfl
      have hb' : (w.setCell ⟨b, o + i, none⟩ v).heap[b]? = some (.cells (c.setIfInBounds (o + i) v) e fr) := by
        rw [hset]; simp [hlt]
      obtain ⟨w', h1, h2, h3⟩ := run_storeCells P b o e fr vs (w.setCell ⟨b, o + i, none⟩ v) (c.setIfInBounds (o + i) v) (i + 1) hb' (by simpa using hf) (fun x hx => hv x (by simp [hx])) (by simp; omega)
      refine ⟨w', ?_, ?_, h3⟩
      · rw [← h1]
        simp only [storeCells, add_mk, store, bind, Sem.bind]
        cases v <;> simp [isCellV] at hv0 <;> simp [Sem.run, hcell, hfz]
      · rw [h2, hset, show o + (i + 1) = o + i + 1 by omega]
        simp [splice]
end Abs
end
noncomputable section
namespace Abs
set_option linter.unusedVariables false
set_option linter.unusedSimpArgs false
set_option linter.unusedSectionVars false
open Go


section inv
variable {n : Nat} {ι : Inj} {H : Imm} {w : Value}
theorem VRel.sc_inv {v : Value} (h : VRel n ι H (.sc v) w) : w = v := by cases h; rfl
theorem VRel.iptr_inv {cs : List AVal} (h : VRel n ι H (.iptr cs) w) : ∃ b o, w = .pointer (some ⟨b, o, none⟩) ∧ CRel n ι H (H.cell? b) cs o := by
  cases h; exact ⟨_, _, rfl, by assumption⟩
theorem VRel.ptr_inv {b i k : Nat} (h : VRel n ι H (.ptr b i k) w) : b < n ∧ w = .pointer (some ⟨(ι b).blk, (ι b).base + i * (ι b).sz + k, none⟩) := by
  cases h; exact ⟨by assumption, rfl⟩
theorem VRel.slice_inv {b off len : Nat} (h : VRel n ι H (.slice b off len) w) : ∃ cap, w = .slice (some ⟨(ι b).blk, (ι b).base + off * (ι b).sz, none⟩) len cap ∧
    b < n ∧ len ≤ cap ∧ off + cap = (ι b).cap := by cases h; exact ⟨_, rfl, by assumption, by assumption, by assumption⟩
theorem VRel.view_inv {b off len : Nat} (h : VRel n ι H (.view b off len) w) : w = .slice (some ⟨(ι b).blk, (ι b).base + off * (ι b).sz, none⟩) len len ∧
    b < n ∧ off + len ≤ (ι b).cap := by cases h; exact ⟨rfl, by assumption, by assumption⟩
theorem VRel.endS_inv {b off : Nat} (h : VRel n ι H (.endS b off) w) : ∃ o cap, w = .slice (some ⟨(ι b).blk, o, none⟩) 0 cap ∧
    b < n ∧ off + cap = (ι b).cap ∧ (cap ≠ 0 → o = (ι b).base + off * (ι b).sz) := by cases h; exact ⟨_, _, rfl, by assumption, by assumption, by assumption⟩
theorem VRel.data_inv {sz : Nat} {t : Bool} {els : List AVal} (h : VRel n ι H (.data sz t els) w) : ∃ b o cap, w = .slice (some ⟨b, o, none⟩) els.length cap ∧ els.length ≤ cap ∧
    DRel n ι H (H.cell? b) sz els o ∧ (t = true → cap = els.length) := by cases h; subst_vars; exact ⟨_, _, _, rfl, by assumption, by assumption, by assumption⟩
theorem VRel.map_inv {b : Nat} (h : VRel n ι H (.map b) w) : b < n ∧ w = .map (some (ι b).blk) := by cases h; exact ⟨by assumption, rfl⟩
theorem VRel.yld_inv {b : Nat} (h : VRel n ι H (.yld b) w) : w = .func (.yield (ι b).blk) #[] #[] ∧ b < n := by cases h; exact ⟨rfl, by assumption⟩
theorem VRel.func_inv {fn : Fn} {fs cs : List AVal} (h : VRel n ι H (.func fn fs cs) w) : ∃ fs' cs' : List Value, w = .func fn fs'.toArray cs'.toArray ∧ LRel n ι H fs fs' ∧ LRel n ι H cs cs' := by
  cases h; exact ⟨_, _, rfl, by assumption, by assumption⟩
theorem VRel.iface_inv {t : TypeId} {v : AVal} (h : VRel n ι H (.iface t v) w) : ∃ v', w = .iface t v' ∧ VRel n ι H v v' := by cases h; exact ⟨_, rfl, by assumption⟩
theorem VRel.agg_inv {cs : List AVal} (h : VRel n ι H (.agg cs) w) : ∃ cs' : List Value, w = .agg cs'.toArray ∧ LRel n ι H cs cs' := by cases h; exact ⟨_, rfl, by assumption⟩
theorem VRel.tuple_inv {cs : List AVal} (h : VRel n ι H (.tuple cs) w) : ∃ cs' : List Value, w = .tuple cs'.toArray ∧ LRel n ι H cs cs' := by cases h; exact ⟨_, rfl, by assumption⟩
end inv

section types
variable {P : Program} {ty : Nat → Option TyI} (hty : TyOk P ty) {t : TypeId} {i : TyI} (h : ty t = some i) (w : World)
include hty h
theorem run_underlying : (underlying t).run P w = .ok i.desc w := by
  simp [underlying, (hty t i h).1]
theorem run_isAgg : (isAgg t).run P w = .ok i.isA w := by
  simp only [isAgg, Sem.run_bind, run_underlying hty h, Result.andThen_ok]
  unfold TyI.isA
  split <;> simp_all
theorem run_typeInfo : ∃ info, (typeInfo t).run P w = .ok info w ∧ info.size = i.size ∧ info.bytes = i.bytes ∧ info.zero = some i.zero := by
  obtain ⟨_, info, h1, h2, h3, h4⟩ := hty t i h
  exact ⟨info, by simp [typeInfo, h1], h2, h3, h4⟩
theorem run_sizeOf : (Go.sizeOf t).run P w = .ok i.size w := by
  obtain ⟨info, h1, h2, _⟩ := run_typeInfo hty h w
  simp [Go.sizeOf, h1, h2]
theorem run_zeroValue : (zeroValue t).run P w = .ok i.zero w := by
  obtain ⟨info, h1, h2, h3, h4⟩ := run_typeInfo hty h w
  simp [zeroValue, h1, h4]
theorem run_loadVar (b o : Nat) (hr : i.isA = true) (ws : List Value) (hl : ws.length = i.size) (hg : ∀ k, k < i.size → rd w b (o + k) = ws[k]?) :
    (loadVar t ⟨b, o, none⟩).run P w = .ok (.agg ws.toArray) w := by
  simp only [loadVar, Sem.run_bind, run_isAgg hty h, Result.andThen_ok, hr, if_true, run_sizeOf hty h, run_loadCells P w b o i.size ws hl hg, Sem.run_pure]
theorem run_loadVar_one (b o : Nat) (hr : i.isA = false) (v : Value) (hg : rd w b o = some v) :
    (loadVar t ⟨b, o, none⟩).run P w = .ok v w := by
  have : w.cell? ⟨b, o, none⟩ = some v := hg
  simp only [loadVar, Sem.run_bind, run_isAgg hty h, Result.andThen_ok, hr, Bool.false_eq_true, if_false, run_load, this]
end types

/-- A constant. -/
def absV : Value → AVal
  | .agg cs => .agg (cs.toList.map .sc)
  | v => .sc v

theorem absV_rel (n : Nat) (ι : Inj) (H : Imm) (v : Value) : VRel n ι H (absV v) v := by
  cases v with
  | agg cs => exact .agg _ cs.toList (LRel.sc _)
  | _ => exact .sc _

/-- Not an aggregate as a bare scalar. -/
def AVal.fit : AVal → Bool
  | .sc (.agg _) => false
  | _ => true

theorem VRel.cells' {n : Nat} {ι : Inj} {H : Imm} {v : AVal} {w : Value} (h : VRel n ι H v w) (hs : v.fit = true) : LRel n ι H v.cells w.cells.toList := by
  have one : ∀ {v : AVal} {w : Value}, VRel n ι H v w → v.cells = [v] → w.cells = #[w] → LRel n ι H v.cells w.cells.toList := by
    intro v w h h1 h2
    rw [h1, h2]; exact .cons _ _ _ _ h .nil
  cases v with
  | agg cs => obtain ⟨cs', rfl, h'⟩ := h.agg_inv; simpa [AVal.cells, Value.cells] using h'
  | sc v => obtain rfl := h.sc_inv; cases w <;> first | exact one h rfl rfl | simp [AVal.fit] at hs
  | ptr b i k => obtain ⟨_, rfl⟩ := h.ptr_inv; exact one h rfl rfl
  | iptr cs => obtain ⟨_, _, rfl, _⟩ := h.iptr_inv; exact one h rfl rfl
  | slice b o l => obtain ⟨_, rfl, _⟩ := h.slice_inv; exact one h rfl rfl
  | view b o l => obtain ⟨rfl, _⟩ := h.view_inv; exact one h rfl rfl
  | endS b o => obtain ⟨_, _, rfl, _⟩ := h.endS_inv; exact one h rfl rfl
  | data sz t els => obtain ⟨_, _, _, rfl, _⟩ := h.data_inv; exact one h rfl rfl
  | map b => obtain ⟨_, rfl⟩ := h.map_inv; exact one h rfl rfl
  | yld b => obtain ⟨rfl, _⟩ := h.yld_inv; exact one h rfl rfl
  | func fn fs cs => obtain ⟨_, _, rfl, _⟩ := h.func_inv; exact one h rfl rfl
  | iface t v => obtain ⟨_, rfl, _⟩ := h.iface_inv; exact one h rfl rfl
  | tuple cs => obtain ⟨_, rfl, _⟩ := h.tuple_inv; exact one h rfl rfl

def AVal.isCell : AVal → Bool
  | .agg _ | .tuple _ => false
  | .sc v => isCellV v
  | _ => true

theorem VRel.isCell {n : Nat} {ι : Inj} {H : Imm} {v : AVal} {w : Value} (h : VRel n ι H v w) (hs : v.isCell = true) : isCellV w = true := by
  cases h <;> simp_all [AVal.isCell, isCellV]

theorem LRel.isCell {n : Nat} {ι : Inj} {H : Imm} : ∀ {vs : List AVal} {ws : List Value}, LRel n ι H vs ws → vs.all AVal.isCell = true → ∀ w ∈ ws, isCellV w = true
  | _, _, .nil, _, _, h => by simp at h
  | _, _, .cons v w vs ws h hs, ha, x, hx => by
      simp at ha hx
      rcases hx with rfl | hx
      · exact h.isCell ha.1
      · exact hs.isCell (by simpa using ha.2) x hx

/-! ### Loads and stores -/

def loadCs (isA : Bool) (m k : Nat) (cs : List AVal) : Option AVal :=
  if isA then (if k + m ≤ cs.length then some (.agg ((cs.drop k).take m)) else none) else cs[k]?

def aLoad (isA : Bool) (m : Nat) (p : AVal) (σ : AStore) : Option AVal :=
  match p with
  | .iptr cs => loadCs isA m 0 cs
  | .ptr b i k =>
    match σ.get b with
    | some (.cells _ els) =>
      match els[i]? with
      | some e => loadCs isA m k e.cells
      | none => none
    | _ => none
  | _ => none

theorem loadCs_sound {P : Program} {ty : Nat → Option TyI} (hty : TyOk P ty) {t : TypeId} {i : TyI} (h : ty t = some i) {n : Nat} {ι : Inj} {H : Imm} {w : World} {b o k : Nat}
    {cs : List AVal} {v : AVal} (hc : CRel n ι H (rd w b) cs o) (hl : loadCs i.isA i.size k cs = some v) :
    ∃ v', (loadVar t ⟨b, o + k, none⟩).run P w = .ok v' w ∧ VRel n ι H v v' := by
  unfold loadCs at hl
  by_cases hA : i.isA = true
  · rw [if_pos hA] at hl
    split at hl
    · rename_i hk
      cases hl
      obtain ⟨ws, h1, h2⟩ := ((hc.drop k).take i.size).list
      have hlen : ((cs.drop k).take i.size).length = i.size := by simp; omega
      rw [hlen] at h2
      exact ⟨_, run_loadVar hty h w b (o + k) hA ws (by rw [← h1.length, hlen]) h2, .agg _ _ h1⟩
    · cases hl
  · rw [if_neg hA] at hl
    obtain ⟨v', h1, h2⟩ := hc.get hl
    exact ⟨v', run_loadVar_one hty h w b (o + k) (by simpa using hA) v' h1, h2⟩

theorem BlkRel.cells_rd {n : Nat} {ι : Inj} {H : Imm} {w : World} {p : Place} {sz : Nat} {els : List AVal} (h : BlkRel n ι H w p (.cells sz els)) :
    p.sz = sz ∧ DRel n ι H (rd w p.blk) sz els p.base := by
  obtain ⟨h1, _, c, e, fr, h2, _, _, h3, _⟩ := h
  exact ⟨h1, by rw [rd_cells h2]; exact h3⟩

theorem aLoad_sound {E : Env} {t : TypeId} {i : TyI} (h : E.ty t = some i) {ι : Inj} {H : Imm} {σ : AStore} {w : World} (hR : Rel E ι H σ w)
    {p : AVal} {p' : Value} (hp : VRel σ.next ι H p p') {v : AVal} (hl : aLoad i.isA i.size p σ = some v) :
    ∃ v', (Instr.loadAt t p').run E.P w = .ok v' w ∧ VRel σ.next ι H v v' := by
  unfold aLoad at hl
  split at hl
  · obtain ⟨b, o, rfl, hc⟩ := hp.iptr_inv
    have hc' : CRel σ.next ι H (rd w b) _ o := hc.ext (Ext.refl _ _ _) (rd_imm hR.imm b)
    obtain ⟨v', h1, h2⟩ := loadCs_sound E.ok h hc' hl
    exact ⟨v', by simpa [Instr.loadAt, Instr.sureAddr] using h1, h2⟩
  · rename_i b j k
    obtain ⟨hb, rfl⟩ := hp.ptr_inv
    split at hl
    · rename_i sz els hg
      split at hl
      · rename_i e he
        obtain ⟨hs, hd⟩ := (hR.live b _ hg).1.cells_rd
        obtain ⟨h1, h2⟩ := hd.get he
        obtain ⟨v', h3, h4⟩ := loadCs_sound E.ok h h1 hl
        refine ⟨v', ?_, h4⟩
        rw [hs]
        simpa [Instr.loadAt, Instr.sureAddr] using h3
      · cases hl
    · cases hl
  · cases hl

def spliceL (cs : List AVal) (k : Nat) : List AVal → List AVal
  | [] => cs
  | v :: vs => spliceL (cs.set k v) (k + 1) vs

theorem spliceL_length : ∀ (vs cs : List AVal) (k : Nat), (spliceL cs k vs).length = cs.length
  | [], _, _ => rfl
  | v :: vs, cs, k => by rw [spliceL, spliceL_length vs]; simp

theorem spliceL_get : ∀ (vs cs : List AVal) (o i : Nat), o + vs.length ≤ cs.length →
    (spliceL cs o vs)[i]? = if o ≤ i ∧ i < o + vs.length then vs[i - o]? else cs[i]?
  | [], cs, o, i, _ => by simp [spliceL]; intro h1 h2; omega
  | v :: vs, cs, o, i, h => by
      simp at h
      rw [spliceL, spliceL_get vs _ _ _ (by simp; omega)]
      by_cases h1 : o + 1 ≤ i ∧ i < o + 1 + vs.length
      · rw [if_pos h1, if_pos (by simp; omega)]
        rw [show i - o = (i - (o + 1)) + 1 by omega]; simp
      · rw [if_neg h1]
        by_cases h2 : o = i
        · subst h2
          rw [if_pos (by simp)]
          simp [show o < cs.length by omega]
        · rw [if_neg (by simp; omega)]
          simp [h2]

/-- The element behind a store of cells. -/
def storeEl (e : AVal) (k : Nat) (vs : List AVal) : AVal :=
  match e with
  | .agg cs => .agg (spliceL cs k vs)
  | e => (vs[0]?).getD e

theorem storeEl_cells {e : AVal} {k : Nat} {vs : List AVal} (hk : k + vs.length ≤ e.cells.length) (h0 : 0 < vs.length) (hc : vs.all AVal.isCell = true) :
    (storeEl e k vs).cells = spliceL e.cells k vs := by
  by_cases he : e.isAgg = true
  · cases e with
    | agg cs => rfl
    | _ => simp [AVal.isAgg] at he
  · have he' : e.isAgg = false := by simpa using he
    rw [AVal.cells_one he'] at hk ⊢
    simp at hk
    obtain rfl : k = 0 := by omega
    match vs, h0, hk, hc with
    | [x], _, _, hc =>
      have : storeEl e 0 [x] = x := by cases e <;> first | rfl | simp [AVal.isAgg] at he
      rw [this]
      simp at hc
      cases x <;> simp_all [AVal.isCell, AVal.cells, spliceL]
    | x :: y :: zs, _, hk, _ => simp at hk

def aStore (m : Nat) (p v : AVal) (σ : AStore) : Option AStore :=
  match p with
  | .ptr b i k =>
    match σ.get b with
    | some (.cells sz els) =>
      match els[i]? with
      | some e =>
        if v.cells.length = m ∧ 0 < m ∧ k + m ≤ e.cells.length ∧ v.cells.all AVal.isCell = true then some (σ.set b (.cells sz (els.set i (storeEl e k v.cells)))) else none
      | none => none
    | _ => none
  | _ => none

theorem CRel.congr {n : Nat} {ι : Inj} {H : Imm} {g g' : Nat → Option Value} : ∀ {vs : List AVal} {o : Nat}, CRel n ι H g vs o →
    (∀ k, o ≤ k → k < o + vs.length → g' k = g k) → CRel n ι H g' vs o
  | _, _, .nil _ o, _ => .nil _ o
  | _, _, .cons _ v w vs o ho h hs, hg => .cons g' v w vs o (by rw [hg o (Nat.le_refl _) (by simp), ho]) h
      (hs.congr (fun k h1 h2 => hg k (by omega) (by simp; omega)))

/-- One element is turned. -/
theorem DRel.upd {n : Nat} {ι : Inj} {H : Imm} {g g' : Nat → Option Value} {els : List AVal} {sz o i : Nat} {e' : AVal} (h : DRel n ι H g sz els o)
    (hg : ∀ j, (j < o + i * sz ∨ o + i * sz + sz ≤ j) → g' j = g j) (he : CRel n ι H g' e'.cells (o + i * sz)) (hl : e'.cells.length = sz) :
    DRel n ι H g' sz (els.set i e') o := by
  apply DRel.of_get
  intro j x hx
  rw [List.getElem?_set] at hx
  split at hx
  · rename_i hij
    split at hx
    · cases hx; subst hij; exact ⟨he, hl⟩
    · cases hx
  · rename_i hij
    obtain ⟨h1, h2⟩ := h.get hx
    refine ⟨h1.congr ?_, h2⟩
    intro k hk1 hk2
    apply hg
    rcases Nat.lt_or_gt_of_ne hij with hlt | hlt
    · right
      have : (i + 1) * sz ≤ j * sz := Nat.mul_le_mul_right _ hlt
      rw [Nat.add_mul] at this; omega
    · left
      have : (j + 1) * sz ≤ i * sz := Nat.mul_le_mul_right _ hlt
      rw [Nat.add_mul] at this; omega

theorem CRel.of_getElem {n : Nat} {ι : Inj} {H : Imm} {g : Nat → Option Value} : ∀ {vs : List AVal} {o : Nat},
    (∀ k v, vs[k]? = some v → ∃ w, g (o + k) = some w ∧ VRel n ι H v w) → CRel n ι H g vs o
  | [], _, _ => .nil _ _
  | v :: vs, o, h => by
      obtain ⟨w, h1, h2⟩ := h 0 v (by simp)
      refine .cons g v w vs o (by simpa using h1) h2 (CRel.of_getElem ?_)
      intro k x hx
      obtain ⟨w', h3, h4⟩ := h (k + 1) x (by simpa using hx)
      exact ⟨w', by rw [show o + 1 + k = o + (k + 1) by omega]; exact h3, h4⟩

theorem aStore_sound {E : Env} {t : TypeId} {i : TyI} (h : E.ty t = some i) {ι : Inj} {H : Imm} {σ σ' : AStore} {w : World} (hR : Rel E ι H σ w)
    {p v : AVal} {p' v' : Value} (hp : VRel σ.next ι H p p') (hv : VRel σ.next ι H v v') (hs : aStore i.size p v σ = some σ') :
    ∃ w', (Instr.storeAt t p' v').run E.P w = .ok () w' ∧ Rel E ι H σ' w' ∧ σ'.next = σ.next := by
  unfold aStore at hs
  split at hs
  · rename_i b j k
    obtain ⟨hb, rfl⟩ := hp.ptr_inv
    split at hs
    · rename_i sz els hg
      split at hs
      · rename_i e he
        split at hs
        · rename_i hc
          obtain ⟨hc1, hc2, hc3, hc4⟩ := hc
          cases hs
          obtain ⟨hb1, hb2, hb3⟩ := hR.live b _ hg
          obtain ⟨g1, g2, c, el, fr, g3, gf, g4, g5, g6⟩ := hb1
          have hfit : v.fit = true := by
            cases v with
            | sc x => cases x <;> simp_all [AVal.fit, AVal.cells, AVal.isCell, isCellV]
            | _ => rfl
          have hcs := hv.cells' hfit
          have hws := hcs.isCell hc4
          have hlen : v'.cells.toList.length = i.size := by rw [← hcs.length, hc1]
          have hjl : j < els.length := by
            rcases Nat.lt_or_ge j els.length with h' | h'
            · exact h'
            · simp [List.getElem?_eq_none h'] at he
          obtain ⟨q1, q2⟩ := g5.get he
          have hin : (ι b).base + j * sz + k + v'.cells.toList.length ≤ c.size := by
            have : (j + 1) * sz ≤ (ι b).cap * sz := Nat.mul_le_mul_right _ (by omega)
            rw [Nat.add_mul] at this
            omega
          obtain ⟨w', r1, r2, r3⟩ := run_storeCells E.P (ι b).blk ((ι b).base + j * (ι b).sz + k) el fr v'.cells.toList w c 0 g3 gf hws (by rw [g1]; omega)
          refine ⟨w', ?_, ?_, rfl⟩
          · have hsz : v'.cells.size = i.size := by simpa using hlen
            simp [Instr.storeAt, Instr.sureAddr, storeVar, run_sizeOf E.ok h, hsz, r1]
          · have hheap : w'.heap[(ι b).blk]? = some (.cells (splice c ((ι b).base + j * (ι b).sz + k) v'.cells.toList) el fr) := by
              rw [r2]; simp [hb3]
            refine hR.set_cells hg (by rw [r2]; simp) ?_ r3 hheap ?_
            · intro c' hne
              rw [r2]; simp [Ne.symm hne]
            · refine ⟨g1, by simpa using g2, _, _, fr, hheap, by rw [splice_size]; exact gf, by rw [splice_size]; exact g4, ?_, g6⟩
              rw [g1]
              have hspl := splice_get v'.cells.toList c ((ι b).base + j * sz + k)
              have hse : (storeEl e k v.cells).cells = spliceL e.cells k v.cells := storeEl_cells (by omega) (by omega) hc4
              refine DRel.upd g5 ?_ ?_ ?_
              · intro x hx
                show (splice c ((ι b).base + j * sz + k) v'.cells.toList)[x]? = c[x]?
                rw [hspl x (by omega), if_neg (by omega)]
              · rw [hse]
                apply CRel.of_getElem
                intro x y hy
                show ∃ w_1, (splice c ((ι b).base + j * sz + k) v'.cells.toList)[(ι b).base + j * sz + x]? = some w_1 ∧ VRel σ.next ι H y w_1
                rw [hspl _ (by omega)]
                rw [spliceL_get _ _ _ _ (by omega)] at hy
                by_cases hx : k ≤ x ∧ x < k + v.cells.length
                · rw [if_pos hx] at hy
                  rw [if_pos (by omega)]
                  obtain ⟨u, u1, u2⟩ := hcs.get hy
                  exact ⟨u, by rw [show (ι b).base + j * sz + x - ((ι b).base + j * sz + k) = x - k by omega]; exact u1, u2⟩
                · rw [if_neg hx] at hy
                  rw [if_neg (by omega)]
                  exact q1.get hy
              · rw [hse, spliceL_length]; exact q2
        · cases hs
      · cases hs
    · cases hs
  · cases hs
end Abs
end
noncomputable section
namespace Abs
set_option linter.unusedVariables false
set_option linter.unusedSimpArgs false
set_option linter.unusedSectionVars false
open Go

/-- What an operation that gives a value comes to. -/
def SndV (E : Env) (ι : Inj) (H : Imm) (σ : AStore) (r : Result Value) (v : AVal) (σ' : AStore) : Prop :=
  ∃ v' w' ι' H', r = .ok v' w' ∧ VRel σ'.next ι' H' v v' ∧ Rel E ι' H' σ' w' ∧ Ext σ.next ι H σ'.next ι' H'

/-- .. and what is told of a new block's type. -/
def SndT (tg : Bool) (el : Nat) (E : Env) (ι : Inj) (H : Imm) (σ : AStore) (r : Result Value) (v : AVal) (σ' : AStore) : Prop :=
  ∃ v' w' ι' H', r = .ok v' w' ∧ VRel σ'.next ι' H' v v' ∧ Rel E ι' H' σ' w' ∧ Ext σ.next ι H σ'.next ι' H' ∧ (tg = true → σ'.next = σ.next + 1 → (ι' σ.next).el = el ∧ (ι' σ.next).base = 0)

theorem SndT.snd {tg : Bool} {el : Nat} {E : Env} {ι : Inj} {H : Imm} {σ σ' : AStore} {r : Result Value} {v : AVal} (h : SndT tg el E ι H σ r v σ') : SndV E ι H σ r v σ' := by
  obtain ⟨v', w', ι', H', h1, h2, h3, h4, _⟩ := h
  exact ⟨v', w', ι', H', h1, h2, h3, h4⟩

/-- The result with its tag. -/
def tagNew (tg : Bool) (t : Nat) (σ : AStore) : Option (AVal × AStore) → Option (AVal × AStore)
  | some (p, σ') => match tg && Nat.beq σ'.next (Nat.succ σ.next) with
    | true => some (p, σ'.tag σ.next t)
    | false => some (p, σ')
  | none => none

theorem SndT.tag {tg : Bool} {el : Nat} {E : Env} {ι : Inj} {H : Imm} {σ σ' : AStore} {r : Result Value} {v : AVal} {o : Option (AVal × AStore)} (h : ∀ v σ', o = some (v, σ') → SndT tg el E ι H σ r v σ') (ho : tagNew tg el σ o = some (v, σ')) :
    SndV E ι H σ r v σ' := by
  unfold tagNew at ho
  split at ho
  · rename_i p σ1
    split at ho
    · rename_i hc
      cases ho
      rw [Bool.and_eq_true] at hc
      have hn : σ1.next = σ.next + 1 := Nat.eq_of_beq_eq_true hc.2
      obtain ⟨v', w', ι', H', h1, h2, h3, h4, h5⟩ := h _ _ rfl
      obtain ⟨g1, g2⟩ := h5 hc.1 hn
      exact ⟨v', w', ι', H', h1, h2, h3.tag (by omega) g1 g2, h4⟩
    · cases ho
      exact (h _ _ rfl).snd
  · cases ho

theorem tagNew_false {t : Nat} {σ : AStore} : ∀ {o : Option (AVal × AStore)}, tagNew false t σ o = o
  | some _ => rfl
  | none => rfl

theorem SndT.weak {tg : Bool} {el : Nat} {E : Env} {ι : Inj} {H : Imm} {σ σ' : AStore} {r : Result Value} {v : AVal} (h : SndT tg el E ι H σ r v σ') : SndT false el E ι H σ r v σ' := by
  obtain ⟨v', w', ι', H', h1, h2, h3, h4, _⟩ := h
  exact ⟨v', w', ι', H', h1, h2, h3, h4, fun hh => by cases hh⟩

theorem SndT.same {tg : Bool} {el : Nat} {E : Env} {ι : Inj} {H : Imm} {σ : AStore} {w : World} (hR : Rel E ι H σ w) {r : Result Value} {v : AVal} {v' : Value} (hr : r = .ok v' w)
    (hv : VRel σ.next ι H v v') : SndT tg el E ι H σ r v σ := ⟨v', w, ι, H, hr, hv, hR, Ext.refl _ _ _, fun _ hh => by omega⟩

theorem SndV.same {E : Env} {ι : Inj} {H : Imm} {σ : AStore} {w : World} (hR : Rel E ι H σ w) {r : Result Value} {v : AVal} {v' : Value} (hr : r = .ok v' w)
    (hv : VRel σ.next ι H v v') : SndV E ι H σ r v σ := ⟨v', w, ι, H, hr, hv, hR, Ext.refl _ _ _⟩

/-- Is the type of the new row known? -/
def hasTy (l : List (Nat × Nat)) (b t : Nat) : Bool := l.any fun p => Nat.beq p.1 b && Nat.beq p.2 t
theorem hasTy_mem {l : List (Nat × Nat)} {b t : Nat} (h : hasTy l b t = true) : (b, t) ∈ l := by
  unfold hasTy at h
  rw [List.any_eq_true] at h
  obtain ⟨⟨x, y⟩, h1, h2⟩ := h
  rw [Bool.and_eq_true] at h2
  obtain rfl := Nat.eq_of_beq_eq_true h2.1
  obtain rfl := Nat.eq_of_beq_eq_true h2.2
  exact h1
def tagS (σ : AStore) (s : AVal) (el : Nat) : Bool :=
  match s with
  | .sc (.slice none 0 0) => true
  | .slice b 0 _ => hasTy σ.tys b el
  | _ => false

/-- A block is given up, and its place is written. -/
theorem Rel.give {E : Env} {ι : Inj} {H : Imm} {σ : AStore} {w : World} (h : Rel E ι H σ w) {b : Nat} {x : ABlk} (hb : σ.get b = some x) {o : Obj} (ho : ∀ es clock, o ≠ .map es clock) :
    Rel E ι H (σ.del b) { w with heap := w.heap.setIfInBounds (ι b).blk o } := by
  obtain ⟨l1, l2, l3⟩ := h.live b _ hb
  have hget : ∀ b' y, (σ.del b).get b' = some y → b' ≠ b ∧ σ.get b' = some y := by
    intro b' y hy
    rw [AStore.get_del] at hy
    split at hy
    · cases hy
    · rename_i hne; exact ⟨hne, hy⟩
  refine ⟨?_, ?_, ?_, h.glob, ⟨h.keep.1, h.keep.2⟩, h.tys⟩
  · intro c o' hc
    have hne : (ι b).blk ≠ c := by intro e; subst e; rw [l2] at hc; cases hc
    simp [hne, h.imm c o' hc]
  · intro b' y hy
    obtain ⟨hne, hy⟩ := hget b' y hy
    obtain ⟨h1, h2, h3⟩ := h.live b' _ hy
    have hne' : (ι b).blk ≠ (ι b').blk := fun hc => hne (h.inj b b' _ _ hb hy hc).symm
    refine ⟨?_, h2, by simpa using h3⟩
    cases y with
    | miter m since seen =>
      obtain ⟨⟨g0, g0', g0''⟩, s', se', st2, q1, q2, q3, q4⟩ := h1
      refine ⟨⟨g0, by simpa using g0', g0''⟩, s', se', st2, by simp [hne']; exact q1, q2, q3, ?_⟩
      intro es clock hh
      by_cases hm : (ι b).blk = (ι m).blk
      · rw [← hm] at hh
        simp [l3] at hh
        exact absurd hh (ho es clock)
      · simp [hm] at hh
        exact q4 es clock hh
    | _ => exact BlkRel.ext (Ext.refl _ _ _) h1 (by simp [hne']) (by simp) (by simp)
  · intro b1 b2 x1 x2 h1 h2 hh
    exact h.inj b1 b2 x1 x2 (hget _ _ h1).2 (hget _ _ h2).2 hh

section
variable {E : Env} {ι : Inj} {H : Imm} {σ σ' : AStore} {w : World}

/-! ### New variables -/

def aNew (v : AVal) (σ : AStore) : Option (AVal × AStore) :=
  if v.fit then some (.ptr σ.next 0 0, σ.alloc (.cells v.cells.length [v])) else none

theorem World.heap_push_get (w : World) (o : Obj) : (w.heap.push o)[w.heap.size]? = some o := by simp

theorem CRel.of_LRel {n : Nat} {ι : Inj} {H : Imm} {vs : List AVal} {c : Array Value} (h : LRel n ι H vs c.toList) : CRel n ι H (c[·]?) vs 0 :=
  CRel.of_list h (fun k _ => by simp)

theorem DRel.single {n : Nat} {ι : Inj} {H : Imm} {g : Nat → Option Value} {v : AVal} {o sz : Nat} (h : CRel n ι H g v.cells o) (hs : v.cells.length = sz) : DRel n ι H g sz [v] o := by
  apply DRel.of_get
  intro i e he
  match i, he with
  | 0, he => simp at he; subst he; simpa using ⟨h, hs⟩
  | i + 1, he => simp at he

theorem aNew_sound (hR : Rel E ι H σ w) (t : TypeId) {v p : AVal} {v' : Value} (hv : VRel σ.next ι H v v') (h : aNew v σ = some (p, σ')) :
    SndT true t E ι H σ ((do pure (.pointer (some (← newVar t v'))) : Sem Value).run E.P w) p σ' := by
  unfold aNew at h
  split at h
  · rename_i hf
    cases h
    have hc := hv.cells' hf
    refine ⟨.pointer (some ⟨w.heap.size, 0, none⟩), { w with heap := w.heap.push (.cells v'.cells t) }, upd ι σ.next ⟨w.heap.size, 0, v.cells.length, 1, t⟩, H, rfl, ?_, ?_, Ext.upd _ _ _ _, fun _ _ => by simp [upd_self]⟩
    · have := VRel.ptr (n := (σ.alloc (.cells v.cells.length [v])).next) (ι := upd ι σ.next ⟨w.heap.size, 0, v.cells.length, 1, t⟩) (H := H) σ.next 0 0 (by simp [AStore.alloc])
      simpa [upd_self] using this
    · refine hR.alloc rfl ?_
      refine ⟨rfl, by simp, v'.cells, t, (0, 0), by simp, ?_, ?_, ?_, rfl⟩
      · intro o _; simp
      · have := hc.length; simp at this; simp [this]
      · exact DRel.single (CRel.of_LRel hc) rfl
  · cases h

/-! ### Addresses -/

def aField (off : Nat) (p : AVal) : Option AVal :=
  match p with
  | .ptr b i k => some (.ptr b i (k + off))
  | .iptr cs => some (.iptr (cs.drop off))
  | _ => none

theorem aField_sound (hR : Rel E ι H σ w) {s : TypeId} {i : TyI} (hs : E.ty s = some i) {fs : Array Field} (hd : i.desc = .struct fs) {f : Nat} {fd : Field} (hf : fs[f]? = some fd)
    {j : TyI} (ht : E.ty fd.type = some j) (hj : j.size ≠ 0) {p q : AVal} {p' : Value} (hp : VRel σ.next ι H p p') (h : aField fd.offset p = some q) :
    SndV E ι H σ ((Instr.fieldAt s p' f).run E.P w) q σ := by
  unfold aField at h
  split at h
  · rename_i b i k
    obtain ⟨hb, rfl⟩ := hp.ptr_inv
    cases h
    refine SndV.same hR (v' := .pointer (some ⟨(ι b).blk, (ι b).base + i * (ι b).sz + (k + fd.offset), none⟩)) ?_ (.ptr _ _ _ hb)
    simp [Instr.fieldAt, run_underlying E.ok hs, hd, hf, Instr.sureAddr, fieldPlace, run_sizeOf E.ok ht, hj, add_mk, Nat.add_assoc]
  · rename_i cs
    obtain ⟨b, o, rfl, hc⟩ := hp.iptr_inv
    cases h
    refine SndV.same hR (v' := .pointer (some ⟨b, o + fd.offset, none⟩)) ?_ (.iptr _ _ _ (hc.drop _))
    simp [Instr.fieldAt, run_underlying E.ok hs, hd, hf, Instr.sureAddr, fieldPlace, run_sizeOf E.ok ht, hj, add_mk]
  · cases h

/-- An index is in range. -/
def aIdx (ix : AVal) (len : Nat) : Option Nat :=
  match ix with
  | .sc (.int _ i) => if 0 ≤ i ∧ i < len then some i.toNat else none
  | _ => none

theorem aIdx_some {ix : AVal} {len j : Nat} (h : aIdx ix len = some j) : ∃ k i, ix = .sc (.int k i) ∧ 0 ≤ i ∧ i < len ∧ j = i.toNat := by
  unfold aIdx at h
  split at h
  · rename_i k i
    split at h
    · rename_i hc; cases h; exact ⟨k, i, rfl, hc.1, hc.2, rfl⟩
    · cases h
  · cases h

def aIndexS (sz : Nat) (x ix : AVal) (σ : AStore) : Option AVal :=
  match x with
  | .slice b off len =>
    match σ.get b with
    | some (.cells sz' _) => if sz' = sz then (aIdx ix len).map fun j => .ptr b (off + j) 0 else none
    | _ => none
  | .view b off len =>
    match σ.get b with
    | some (.cells sz' _) => if sz' = sz then (aIdx ix len).map fun j => .ptr b (off + j) 0 else none
    | _ => none
  | .data sz' _ els => if sz' = sz then
      match aIdx ix els.length with
      | some j => (els[j]?).map fun e => .iptr e.cells
      | none => none
    else none
  | _ => none

theorem aIndexS_sound (hR : Rel E ι H σ w) {t : TypeId} {i : TyI} (hs : E.ty t = some i) {el : TypeId} (hd : i.desc = .slice el) {j : TyI} (ht : E.ty el = some j)
    {x ix q : AVal} {x' ix' : Value} (hx : VRel σ.next ι H x x') (hix : VRel σ.next ι H ix ix') (h : aIndexS j.size x ix σ = some q) :
    SndV E ι H σ ((Instr.indexAt t x' ix').run E.P w) q σ := by
  unfold aIndexS at h
  split at h
  · rename_i b off len
    obtain ⟨cap, rfl, hb, hl, hcap⟩ := hx.slice_inv
    split at h
    · rename_i sz' els hg
      split at h
      · rename_i hsz
        subst hsz
        cases hm : aIdx ix len with
        | none => simp [hm] at h
        | some m =>
          simp [hm] at h
          subst h
          obtain ⟨k, z, rfl, h0, h1, rfl⟩ := aIdx_some hm
          obtain rfl := hix.sc_inv
          have hsz := ((hR.live b _ hg).1).1
          refine SndV.same hR (v' := .pointer (some ⟨(ι b).blk, (ι b).base + (off + z.toNat) * (ι b).sz + 0, none⟩)) ?_ (.ptr _ _ _ hb)
          simp [Instr.indexAt, asIntOf, run_underlying E.ok hs, hd, h0, h1, run_sizeOf E.ok ht, add_mk, hsz, Nat.add_mul, Nat.add_assoc]
      · cases h
    · cases h
  · rename_i b off len
    obtain ⟨rfl, hb, hcap⟩ := hx.view_inv
    split at h
    · rename_i sz' els hg
      split at h
      · rename_i hsz
        subst hsz
        cases hm : aIdx ix len with
        | none => simp [hm] at h
        | some m =>
          simp [hm] at h
          subst h
          obtain ⟨k, z, rfl, h0, h1, rfl⟩ := aIdx_some hm
          obtain rfl := hix.sc_inv
          have hsz := ((hR.live b _ hg).1).1
          refine SndV.same hR (v' := .pointer (some ⟨(ι b).blk, (ι b).base + (off + z.toNat) * (ι b).sz + 0, none⟩)) ?_ (.ptr _ _ _ hb)
          simp [Instr.indexAt, asIntOf, run_underlying E.ok hs, hd, h0, h1, run_sizeOf E.ok ht, add_mk, hsz, Nat.add_mul, Nat.add_assoc]
      · cases h
    · cases h
  · rename_i sz' tt els
    obtain ⟨b, o, cap, rfl, hl, hD, _⟩ := hx.data_inv
    split at h
    · rename_i hsz
      subst hsz
      split at h
      · rename_i m hm
        obtain ⟨k, z, rfl, h0, h1, rfl⟩ := aIdx_some hm
        obtain rfl := hix.sc_inv
        cases he : els[z.toNat]? with
        | none => simp [he] at h
        | some e =>
          simp [he] at h
          subst h
          obtain ⟨q1, q2⟩ := hD.get he
          refine SndV.same hR (v' := .pointer (some ⟨b, o + z.toNat * j.size, none⟩)) ?_ (.iptr _ _ _ q1)
          simp [Instr.indexAt, asIntOf, run_underlying E.ok hs, hd, h0, h1, run_sizeOf E.ok ht, add_mk]
      · cases h
    · cases h
  · cases h

def aIndexA (len sz : Nat) (x ix : AVal) : Option AVal :=
  match aIdx ix len with
  | some j => aField (j * sz) x
  | none => none

theorem aIndexA_sound (hR : Rel E ι H σ w) {t : TypeId} {i : TyI} (hs : E.ty t = some i) {len : Nat} {el : TypeId} (hd : i.desc = .array len el) {j : TyI} (ht : E.ty el = some j)
    {x ix q : AVal} {x' ix' : Value} (hx : VRel σ.next ι H x x') (hix : VRel σ.next ι H ix ix') (h : aIndexA len j.size x ix = some q) :
    SndV E ι H σ ((Instr.indexAt t x' ix').run E.P w) q σ := by
  unfold aIndexA at h
  split at h
  · rename_i m hm
    obtain ⟨k, z, rfl, h0, h1, rfl⟩ := aIdx_some hm
    obtain rfl := hix.sc_inv
    unfold aField at h
    split at h
    · rename_i b i k
      obtain ⟨hb, rfl⟩ := hx.ptr_inv
      cases h
      refine SndV.same hR (v' := .pointer (some ⟨(ι b).blk, (ι b).base + i * (ι b).sz + (k + z.toNat * j.size), none⟩)) ?_ (.ptr _ _ _ hb)
      simp [Instr.indexAt, asIntOf, Instr.sureAddr, run_underlying E.ok hs, hd, h0, h1, run_sizeOf E.ok ht, add_mk, Nat.add_assoc]
    · rename_i cs
      obtain ⟨b, o, rfl, hc⟩ := hx.iptr_inv
      cases h
      refine SndV.same hR (v' := .pointer (some ⟨b, o + z.toNat * j.size, none⟩)) ?_ (.iptr _ _ _ (hc.drop _))
      simp [Instr.indexAt, asIntOf, Instr.sureAddr, run_underlying E.ok hs, hd, h0, h1, run_sizeOf E.ok ht, add_mk]
    · cases h
  · cases h

/-! ### Parts of aggregates -/

def aPart (isA : Bool) (m k : Nat) (x : AVal) : Option AVal :=
  match x with
  | .agg cs => loadCs isA m k cs
  | _ => none

theorem run_part {t : TypeId} {i : TyI} (ht : E.ty t = some i) {n : Nat} {cs : List AVal} {cs' : List Value} (h : LRel n ι H cs cs') {k : Nat} {v : AVal} (hl : loadCs i.isA i.size k cs = some v) :
    ∃ v', (part t cs'.toArray k).run E.P w = .ok v' w ∧ VRel n ι H v v' := by
  unfold loadCs at hl
  by_cases hA : i.isA = true
  · rw [if_pos hA] at hl
    split at hl
    · rename_i hk
      cases hl
      refine ⟨.agg ((cs'.drop k).take i.size).toArray, ?_, .agg _ _ ((h.drop k).take i.size)⟩
      simp [part, run_isAgg E.ok ht, hA, run_sizeOf E.ok ht, List.extract_toArray]
    · cases hl
  · rw [if_neg hA] at hl
    obtain ⟨v', h1, h2⟩ := h.get hl
    refine ⟨v', ?_, h2⟩
    simp [part, run_isAgg E.ok ht, hA, h1]

theorem aPart_field_sound (hR : Rel E ι H σ w) {s : TypeId} {i : TyI} (hs : E.ty s = some i) {fs : Array Field} (hd : i.desc = .struct fs) {f : Nat} {fd : Field} (hf : fs[f]? = some fd)
    {j : TyI} (ht : E.ty fd.type = some j) {x q : AVal} {x' : Value} (hx : VRel σ.next ι H x x') (h : aPart j.isA j.size fd.offset x = some q) :
    SndV E ι H σ ((Instr.field s x' f).run E.P w) q σ := by
  unfold aPart at h
  split at h
  · obtain ⟨cs', rfl, hc⟩ := hx.agg_inv
    obtain ⟨v', h1, h2⟩ := run_part (E := E) (w := w) ht hc h
    refine SndV.same hR (v' := v') ?_ h2
    simp [Instr.field, run_underlying E.ok hs, hd, hf, asAgg, h1]
  · cases h

def aIndexV (len : Nat) (isA : Bool) (m : Nat) (x ix : AVal) : Option AVal :=
  match aIdx ix len with
  | some j => aPart isA m (j * m) x
  | none => none

theorem aIndexV_sound (hR : Rel E ι H σ w) {t : TypeId} {i : TyI} (hs : E.ty t = some i) {len : Nat} {el : TypeId} (hd : i.desc = .array len el) {j : TyI} (ht : E.ty el = some j)
    {x ix q : AVal} {x' ix' : Value} (hx : VRel σ.next ι H x x') (hix : VRel σ.next ι H ix ix') (h : aIndexV len j.isA j.size x ix = some q) :
    SndV E ι H σ ((Instr.index t x' ix').run E.P w) q σ := by
  unfold aIndexV at h
  split at h
  · rename_i m hm
    obtain ⟨k, z, rfl, h0, h1, rfl⟩ := aIdx_some hm
    obtain rfl := hix.sc_inv
    unfold aPart at h
    split at h
    · obtain ⟨cs', rfl, hc⟩ := hx.agg_inv
      obtain ⟨v', g1, g2⟩ := run_part (E := E) (w := w) ht hc h
      refine SndV.same hR (v' := v') ?_ g2
      simp [Instr.index, asIntOf, run_underlying E.ok hs, hd, h0, h1, run_sizeOf E.ok ht, g1]
    · cases h
  · cases h

def aIndexStr (x ix : AVal) : Option AVal :=
  match x, ix with
  | .sc (.string s), .sc (.int _ i) => if 0 ≤ i then (s[i.toNat]?).map fun b => .sc (.int .u8 b.toNat) else none
  | _, _ => none

theorem aIndexStr_sound (hR : Rel E ι H σ w) {t : TypeId} {i : TyI} (hs : E.ty t = some i) (hd : i.desc = .string)
    {x ix q : AVal} {x' ix' : Value} (hx : VRel σ.next ι H x x') (hix : VRel σ.next ι H ix ix') (h : aIndexStr x ix = some q) :
    SndV E ι H σ ((Instr.index t x' ix').run E.P w) q σ := by
  unfold aIndexStr at h
  split at h
  · rename_i s k z
    obtain rfl := hx.sc_inv
    obtain rfl := hix.sc_inv
    split at h
    · rename_i h0
      cases hz : s[z.toNat]? with
      | none => simp [hz] at h
      | some b =>
        simp [hz] at h
        subst h
        refine SndV.same hR (v' := .int .u8 b.toNat) ?_ (.sc _)
        simp [Instr.index, asIntOf, run_underlying E.ok hs, hd, h0, hz]
    · cases h
  · cases h
end
end Abs
end
