/-
  Part of the abstract layer (A): values, stores and steps that stand for those of the model, and the proof that they do. It proves no statement by itself.
-/
import Derived.Calls
import Derived.Orders
import Derived.Defers
import Derived.Laws.Sem
import Derived.Laws.World
noncomputable section
namespace Abs
set_option linter.unusedVariables false
set_option linter.unusedSimpArgs false
set_option linter.unusedSectionVars false
open Go

/-- Abstract values. 'sc': a scalar as it is. 'ptr', 'slice', 'view' (a slice that has no more room), 'endS' (what lies behind the last element), 'map': blocks of the call's own, by abstract number. 'iptr', 'data': memory that no one writes, by its contents. -/
inductive AVal where
  | sc (v : Value)
  | ptr (b i k : Nat)
  | iptr (cells : List AVal)
  | slice (b off len : Nat)
  | view (b off len : Nat)
  | endS (b off : Nat)
  | data (sz : Nat) (t : Bool) (els : List AVal)
  | map (b : Nat)
  | yld (b : Nat)
  | func (fn : Fn) (first captured : List AVal)
  | iface (t : TypeId) (v : AVal)
  | agg (cells : List AVal)
  | tuple (vs : List AVal)

def AVal.isAgg : AVal → Bool
  | .agg _ => true
  | _ => false

def AVal.cells : AVal → List AVal
  | .agg cs => cs
  | v => [v]

structure Place where
  blk : Nat
  base : Nat
  sz : Nat
  cap : Nat
  el : Nat

abbrev Inj := Nat → Place
/-- What lies fixed. 'true': abstract values may tell of it. -/
abbrev Imm := Nat → Option (Bool × Obj)

def Imm.cell? (H : Imm) (b : Nat) (o : Nat) : Option Value :=
  match H b with
  | some (true, .cells c _ _) => c[o]?
  | _ => none

def Imm.Le (H H' : Imm) : Prop := ∀ c o, H c = some o → H' c = some o

theorem Imm.Le.refl (H : Imm) : Imm.Le H H := fun _ _ h => h
theorem Imm.Le.trans {H H' H'' : Imm} (h : Imm.Le H H') (h' : Imm.Le H' H'') : Imm.Le H H'' := fun c o hc => h' c o (h c o hc)

theorem Imm.Le.cell {H H' : Imm} (h : Imm.Le H H') {b o : Nat} {v : Value} (hc : H.cell? b o = some v) : H'.cell? b o = some v := by
  unfold Imm.cell? at *
  cases hb : H b with
  | none => simp [hb] at hc
  | some x => rw [h b x hb]; rw [hb] at hc; exact hc

/-- What is told of the one is told of the other. -/
def Imm.CLe (H H' : Imm) : Prop := ∀ b o v, H.cell? b o = some v → H'.cell? b o = some v
theorem Imm.CLe.cell {H H' : Imm} (h : Imm.CLe H H') {b o : Nat} {v : Value} (hc : H.cell? b o = some v) : H'.cell? b o = some v := h b o v hc
theorem Imm.Le.cle {H H' : Imm} (h : Imm.Le H H') : Imm.CLe H H' := fun _ _ _ hc => h.cell hc

mutual
/-- The value 'w' is the abstract value 'v' (all abstract numbers in it are below 'n'). -/
inductive VRel (n : Nat) (ι : Inj) (H : Imm) : AVal → Value → Prop
  | sc (v : Value) : VRel n ι H (.sc v) v
  | ptr (b i k : Nat) (h : b < n) : VRel n ι H (.ptr b i k) (.pointer (some ⟨(ι b).blk, (ι b).base + i * (ι b).sz + k, none⟩))
  | iptr (cs : List AVal) (b o : Nat) (h : CRel n ι H (H.cell? b) cs o) : VRel n ι H (.iptr cs) (.pointer (some ⟨b, o, none⟩))
  | slice (b off len cap : Nat) (h : b < n) (hl : len ≤ cap) (hc : off + cap = (ι b).cap) :
      VRel n ι H (.slice b off len) (.slice (some ⟨(ι b).blk, (ι b).base + off * (ι b).sz, none⟩) len cap)
  | view (b off len : Nat) (h : b < n) (hc : off + len ≤ (ι b).cap) :
      VRel n ι H (.view b off len) (.slice (some ⟨(ι b).blk, (ι b).base + off * (ι b).sz, none⟩) len len)
  | endS (b off o cap : Nat) (h : b < n) (hc : off + cap = (ι b).cap) (ho : cap ≠ 0 → o = (ι b).base + off * (ι b).sz) :
      VRel n ι H (.endS b off) (.slice (some ⟨(ι b).blk, o, none⟩) 0 cap)
  | data (sz : Nat) (t : Bool) (els : List AVal) (b o len cap : Nat) (hlen : len = els.length) (hl : len ≤ cap) (ht : t = true → cap = len) (h : DRel n ι H (H.cell? b) sz els o) :
      VRel n ι H (.data sz t els) (.slice (some ⟨b, o, none⟩) len cap)
  | map (b : Nat) (h : b < n) : VRel n ι H (.map b) (.map (some (ι b).blk))
  | yld (b : Nat) (h : b < n) : VRel n ι H (.yld b) (.func (.yield (ι b).blk) #[] #[])
  | func (fn : Fn) (fs cs : List AVal) (fs' cs' : List Value) (hf : LRel n ι H fs fs') (hc : LRel n ι H cs cs') :
      VRel n ι H (.func fn fs cs) (.func fn fs'.toArray cs'.toArray)
  | iface (t : TypeId) (v : AVal) (v' : Value) (h : VRel n ι H v v') : VRel n ι H (.iface t v) (.iface t v')
  | agg (cs : List AVal) (cs' : List Value) (h : LRel n ι H cs cs') : VRel n ι H (.agg cs) (.agg cs'.toArray)
  | tuple (cs : List AVal) (cs' : List Value) (h : LRel n ι H cs cs') : VRel n ι H (.tuple cs) (.tuple cs'.toArray)
inductive LRel (n : Nat) (ι : Inj) (H : Imm) : List AVal → List Value → Prop
  | nil : LRel n ι H [] []
  | cons (v : AVal) (w : Value) (vs : List AVal) (ws : List Value) (h : VRel n ι H v w) (hs : LRel n ι H vs ws) : LRel n ι H (v :: vs) (w :: ws)
/-- From offset 'o' on the cells are these. -/
inductive CRel (n : Nat) (ι : Inj) (H : Imm) : (Nat → Option Value) → List AVal → Nat → Prop
  | nil (g : Nat → Option Value) (o : Nat) : CRel n ι H g [] o
  | cons (g : Nat → Option Value) (v : AVal) (w : Value) (vs : List AVal) (o : Nat) (hg : g o = some w) (h : VRel n ι H v w) (hs : CRel n ι H g vs (o + 1)) :
      CRel n ι H g (v :: vs) o
/-- From offset 'o' on the elements, of 'sz' cells each, are these. -/
inductive DRel (n : Nat) (ι : Inj) (H : Imm) : (Nat → Option Value) → Nat → List AVal → Nat → Prop
  | nil (g : Nat → Option Value) (sz o : Nat) : DRel n ι H g sz [] o
  | agg (g : Nat → Option Value) (sz : Nat) (cs es : List AVal) (o : Nat) (hsz : cs.length = sz) (h : CRel n ι H g cs o) (hs : DRel n ι H g sz es (o + sz)) :
      DRel n ι H g sz (.agg cs :: es) o
  | one (g : Nat → Option Value) (v : AVal) (w : Value) (es : List AVal) (o : Nat) (hv : v.isAgg = false) (hg : g o = some w) (h : VRel n ι H v w)
      (hs : DRel n ι H g 1 es (o + 1)) : DRel n ι H g 1 (v :: es) o
end

mutual
/-- All abstract numbers are below 'n'. -/
inductive WF (n : Nat) : AVal → Prop
  | sc (v : Value) : WF n (.sc v)
  | ptr (b i k : Nat) (h : b < n) : WF n (.ptr b i k)
  | iptr (cs : List AVal) (h : WFs n cs) : WF n (.iptr cs)
  | slice (b off len : Nat) (h : b < n) : WF n (.slice b off len)
  | view (b off len : Nat) (h : b < n) : WF n (.view b off len)
  | endS (b off : Nat) (h : b < n) : WF n (.endS b off)
  | data (sz : Nat) (t : Bool) (els : List AVal) (h : WFs n els) : WF n (.data sz t els)
  | map (b : Nat) (h : b < n) : WF n (.map b)
  | yld (b : Nat) (h : b < n) : WF n (.yld b)
  | func (fn : Fn) (fs cs : List AVal) (hf : WFs n fs) (hc : WFs n cs) : WF n (.func fn fs cs)
  | iface (t : TypeId) (v : AVal) (h : WF n v) : WF n (.iface t v)
  | agg (cs : List AVal) (h : WFs n cs) : WF n (.agg cs)
  | tuple (cs : List AVal) (h : WFs n cs) : WF n (.tuple cs)
inductive WFs (n : Nat) : List AVal → Prop
  | nil : WFs n []
  | cons (v : AVal) (vs : List AVal) (h : WF n v) (hs : WFs n vs) : WFs n (v :: vs)
end

/-- 'ι'' and 'H'' go on from 'ι' and 'H'. -/
structure Ext (n : Nat) (ι : Inj) (H : Imm) (n' : Nat) (ι' : Inj) (H' : Imm) : Prop where
  next : n ≤ n'
  inj : ∀ b, b < n → ι' b = ι b
  imm : H.Le H'

theorem Ext.refl (n : Nat) (ι : Inj) (H : Imm) : Ext n ι H n ι H := ⟨Nat.le_refl _, fun _ _ => rfl, Imm.Le.refl _⟩
theorem Ext.trans {n n' n'' : Nat} {ι ι' ι'' : Inj} {H H' H'' : Imm} (h : Ext n ι H n' ι' H') (h' : Ext n' ι' H' n'' ι'' H'') : Ext n ι H n'' ι'' H'' :=
  ⟨Nat.le_trans h.next h'.next, fun b hb => (h'.inj b (Nat.lt_of_lt_of_le hb h.next)).trans (h.inj b hb), h.imm.trans h'.imm⟩

/-- The second reading has what the first has. -/
def RLe (g g' : Nat → Option Value) : Prop := ∀ o v, g o = some v → g' o = some v

mutual
theorem VRel.wf {n : Nat} {ι : Inj} {H : Imm} : ∀ {v : AVal} {w : Value}, VRel n ι H v w → WF n v
  | _, _, .sc v => .sc v
  | _, _, .ptr b i k h => .ptr b i k h
  | _, _, .iptr cs _ _ h => .iptr cs h.wf
  | _, _, .slice b off len _ h _ _ => .slice b off len h
  | _, _, .view b off len h _ => .view b off len h
  | _, _, .endS b off _ _ h _ _ => .endS b off h
  | _, _, .data sz t els _ _ _ _ _ _ _ h => .data sz t els h.wf
  | _, _, .map b h => .map b h
  | _, _, .yld b h => .yld b h
  | _, _, .func fn fs cs _ _ hf hc => .func fn fs cs hf.wf hc.wf
  | _, _, .iface t v _ h => .iface t v h.wf
  | _, _, .agg cs _ h => .agg cs h.wf
  | _, _, .tuple cs _ h => .tuple cs h.wf
theorem LRel.wf {n : Nat} {ι : Inj} {H : Imm} : ∀ {vs : List AVal} {ws : List Value}, LRel n ι H vs ws → WFs n vs
  | _, _, .nil => .nil
  | _, _, .cons v _ vs _ h hs => .cons v vs h.wf hs.wf
theorem CRel.wf {n : Nat} {ι : Inj} {H : Imm} : ∀ {g : Nat → Option Value} {vs : List AVal} {o : Nat}, CRel n ι H g vs o → WFs n vs
  | _, _, _, .nil _ _ => .nil
  | _, _, _, .cons _ v _ vs _ _ h hs => .cons v vs h.wf hs.wf
theorem DRel.wf {n : Nat} {ι : Inj} {H : Imm} : ∀ {g : Nat → Option Value} {sz : Nat} {vs : List AVal} {o : Nat}, DRel n ι H g sz vs o → WFs n vs
  | _, _, _, _, .nil _ _ _ => .nil
  | _, _, _, _, .agg _ _ cs es _ _ h hs => .cons _ es (.agg cs h.wf) hs.wf
  | _, _, _, _, .one _ v _ es _ _ _ h hs => .cons v es h.wf hs.wf
end

mutual
theorem VRel.mono {n n' m : Nat} {ι ι' : Inj} {H H' : Imm} (hi : ∀ b, b < m → ι' b = ι b) (hm : m ≤ n') (hH : H.CLe H') :
    ∀ {v : AVal} {w : Value}, VRel n ι H v w → WF m v → VRel n' ι' H' v w
  | _, _, .sc v, _ => .sc v
  | _, _, .ptr b i k _, .ptr _ _ _ h => by have := hi b h; rw [← this]; exact .ptr b i k (Nat.lt_of_lt_of_le h hm)
  | _, _, .iptr cs b o h, .iptr _ hw => .iptr cs b o (CRel.mono hi hm hH (fun _ _ hc => hH.cell hc) h hw)
  | _, _, .slice b off len cap _ hl hc, .slice _ _ _ h => by
      have := hi b h; rw [← this]; exact .slice b off len cap (Nat.lt_of_lt_of_le h hm) hl (by rw [this]; exact hc)
  | _, _, .view b off len _ hc, .view _ _ _ h => by
      have := hi b h; rw [← this]; exact .view b off len (Nat.lt_of_lt_of_le h hm) (by rw [this]; exact hc)
  | _, _, .endS b off o cap _ hc ho, .endS _ _ h => by
      have := hi b h; rw [← this]; exact .endS b off o cap (Nat.lt_of_lt_of_le h hm) (by rw [this]; exact hc) (by rw [this]; exact ho)
  | _, _, .data sz t els b o len cap hlen hl ht h, .data _ _ _ hw => .data sz t els b o len cap hlen hl ht (DRel.mono hi hm hH (fun _ _ hc => hH.cell hc) h hw)
  | _, _, .map b _, .map _ h => by have := hi b h; rw [← this]; exact .map b (Nat.lt_of_lt_of_le h hm)
  | _, _, .yld b _, .yld _ h => by have := hi b h; rw [← this]; exact .yld b (Nat.lt_of_lt_of_le h hm)
  | _, _, .func fn fs cs fs' cs' hf hc, .func _ _ _ wf wc => .func fn fs cs fs' cs' (LRel.mono hi hm hH hf wf) (LRel.mono hi hm hH hc wc)
  | _, _, .iface t v v' h, .iface _ _ hw => .iface t v v' (VRel.mono hi hm hH h hw)
  | _, _, .agg cs cs' h, .agg _ hw => .agg cs cs' (LRel.mono hi hm hH h hw)
  | _, _, .tuple cs cs' h, .tuple _ hw => .tuple cs cs' (LRel.mono hi hm hH h hw)
theorem LRel.mono {n n' m : Nat} {ι ι' : Inj} {H H' : Imm} (hi : ∀ b, b < m → ι' b = ι b) (hm : m ≤ n') (hH : H.CLe H') :
    ∀ {vs : List AVal} {ws : List Value}, LRel n ι H vs ws → WFs m vs → LRel n' ι' H' vs ws
  | _, _, .nil, _ => .nil
  | _, _, .cons v w vs ws h hs, .cons _ _ hw hws => .cons v w vs ws (VRel.mono hi hm hH h hw) (LRel.mono hi hm hH hs hws)
theorem CRel.mono {n n' m : Nat} {ι ι' : Inj} {H H' : Imm} (hi : ∀ b, b < m → ι' b = ι b) (hm : m ≤ n') (hH : H.CLe H') :
    ∀ {g g' : Nat → Option Value} {vs : List AVal} {o : Nat}, RLe g g' → CRel n ι H g vs o → WFs m vs → CRel n' ι' H' g' vs o
  | _, g', _, _, _, .nil _ o, _ => .nil g' o
  | _, g', _, _, hg, .cons _ v w vs o ho h hs, .cons _ _ hw hws =>
      .cons g' v w vs o (hg _ _ ho) (VRel.mono hi hm hH h hw) (CRel.mono hi hm hH hg hs hws)
theorem DRel.mono {n n' m : Nat} {ι ι' : Inj} {H H' : Imm} (hi : ∀ b, b < m → ι' b = ι b) (hm : m ≤ n') (hH : H.CLe H') :
    ∀ {g g' : Nat → Option Value} {sz : Nat} {vs : List AVal} {o : Nat}, RLe g g' → DRel n ι H g sz vs o → WFs m vs → DRel n' ι' H' g' sz vs o
  | _, g', _, _, _, _, .nil _ sz o, _ => .nil g' sz o
  | _, g', _, _, _, hg, .agg _ sz cs es o hsz h hs, .cons _ _ (.agg _ hw) hws =>
      .agg g' sz cs es o hsz (CRel.mono hi hm hH hg h hw) (DRel.mono hi hm hH hg hs hws)
  | _, g', _, _, _, hg, .one _ v w es o hv ho h hs, .cons _ _ hw hws =>
      .one g' v w es o hv (hg _ _ ho) (VRel.mono hi hm hH h hw) (DRel.mono hi hm hH hg hs hws)
end

theorem VRel.ext {n n' : Nat} {ι ι' : Inj} {H H' : Imm} (he : Ext n ι H n' ι' H') {v : AVal} {w : Value} (h : VRel n ι H v w) : VRel n' ι' H' v w :=
  h.mono he.inj he.next he.imm.cle h.wf
theorem LRel.ext {n n' : Nat} {ι ι' : Inj} {H H' : Imm} (he : Ext n ι H n' ι' H') {v : List AVal} {w : List Value} (h : LRel n ι H v w) : LRel n' ι' H' v w :=
  h.mono he.inj he.next he.imm.cle h.wf
end Abs
