/- Part of the abstract layer; it proves no statement by itself. -/
import Derived.Calls
import Derived.Orders
import Derived.Defers
import Derived.Laws.Sem
import Derived.Laws.World
import Derived.Laws.Append
import Derived.LaidEqlPtr
import Derived.Lib.Builder
import Derived.Lib.UnsafeStr
import Derived.Laws.IdiomStrings
import Derived.Laws.BytesString
set_option linter.unusedVariables false
set_option linter.unusedSimpArgs false
set_option linter.unusedSectionVars false
set_option maxHeartbeats 1000000
noncomputable section
namespace Abs
open Go
inductive AVal where
 | sc (v:Value)
 | ptr (b i k:Nat)
 | iptr (cells:List AVal)
 | slice (b off len:Nat)
 | view (b off len:Nat)
 | endS (b off:Nat)
 | data (sz:Nat) (t:Bool) (els:List AVal)
 | map (b:Nat)
 | yld (b:Nat)
 | func (fn:Fn) (first captured:List AVal)
 | iface (t:TypeId) (v:AVal)
 | agg (cells:List AVal)
 | tuple (vs:List AVal)
def AVal.isAgg:AVal->Bool
 | .agg _=>true
 | _=>false
def AVal.cells:AVal->List AVal
 | .agg cs=>cs
 | v=>[v]
structure Place where
 blk:Nat
 base:Nat
 sz:Nat
 cap:Nat
 el:Nat
abbrev Inj:=Nat->Place
abbrev Imm:=Nat->Option (Bool×Obj)
def Imm.cell? (H:Imm) (b:Nat) (o:Nat):Option Value:=
 match H b with
 | some (true,.cells c _ _)=>c[o]?
 | _=>none
def Imm.Le (H H':Imm):Prop:=∀ c o,H c=some o->H' c=some o
theorem Imm.Le.refl (H:Imm):Imm.Le H H:=fun _ _ h=>h
theorem Imm.Le.trans {H H' H'':Imm} (h:Imm.Le H H') (h':Imm.Le H' H''):Imm.Le H H'':=fun c o hc=>h' c o (h c o hc)
theorem Imm.Le.cell {H H':Imm} (h:Imm.Le H H') {b o:Nat} {v:Value} (hc:H.cell? b o=some v):H'.cell? b o=some v:=by
 unfold Imm.cell? at*
 cases hb:H b with
 | none=>simp [hb] at hc
 | some x=>rw [h b x hb]; rw [hb] at hc; exact hc
def Imm.CLe (H H':Imm):Prop:=∀ b o v,H.cell? b o=some v->H'.cell? b o=some v
theorem Imm.CLe.cell {H H':Imm} (h:Imm.CLe H H') {b o:Nat} {v:Value} (hc:H.cell? b o=some v):H'.cell? b o=some v:=h b o v hc
theorem Imm.Le.cle {H H':Imm} (h:Imm.Le H H'):Imm.CLe H H':=fun _ _ _ hc=>h.cell hc
mutual
inductive VRel (n:Nat) (ι:Inj) (H:Imm):AVal->Value->Prop
  | sc (v:Value):VRel n ι H (.sc v) v
  | ptr (b i k:Nat) (h:b < n):VRel n ι H (.ptr b i k) (.pointer (some ⟨(ι b).blk,(ι b).base+i*(ι b).sz+k,none⟩))
  | iptr (cs:List AVal) (b o:Nat) (h:CRel n ι H (H.cell? b) cs o):VRel n ι H (.iptr cs) (.pointer (some ⟨b,o,none⟩))
  | slice (b off len cap : Nat) (h : b < n) (hl : len ≤ cap) (hc : off + cap = (ι b).cap) :
      VRel n ι H (.slice b off len) (.slice (some ⟨(ι b).blk,(ι b).base+off*(ι b).sz,none⟩) len cap)
  | view (b off len : Nat) (h : b < n) (hc : off + len ≤ (ι b).cap) :
      VRel n ι H (.view b off len) (.slice (some ⟨(ι b).blk,(ι b).base+off*(ι b).sz,none⟩) len len)
  | endS (b off o cap : Nat) (h : b < n) (hc : off + cap = (ι b).cap) (ho : cap ≠ 0 → o = (ι b).base + off * (ι b).sz) :
      VRel n ι H (.endS b off) (.slice (some ⟨(ι b).blk,o,none⟩) 0 cap)
  | data (sz : Nat) (t : Bool) (els : List AVal) (b o len cap : Nat) (hlen : len = els.length) (hl : len ≤ cap) (ht : t = true → cap = len) (h : DRel n ι H (H.cell? b) sz els o) :
      VRel n ι H (.data sz t els) (.slice (some ⟨b,o,none⟩) len cap)
  | map (b:Nat) (h:b < n):VRel n ι H (.map b) (.map (some (ι b).blk))
  | yld (b:Nat) (h:b < n):VRel n ι H (.yld b) (.func (.yield (ι b).blk) #[] #[])
  | func (fn : Fn) (fs cs : List AVal) (fs' cs' : List Value) (hf : LRel n ι H fs fs') (hc : LRel n ι H cs cs') :
      VRel n ι H (.func fn fs cs) (.func fn fs'.toArray cs'.toArray)
  | iface (t:TypeId) (v:AVal) (v':Value) (h:VRel n ι H v v'):VRel n ι H (.iface t v) (.iface t v')
  | agg (cs:List AVal) (cs':List Value) (h:LRel n ι H cs cs'):VRel n ι H (.agg cs) (.agg cs'.toArray)
  | tuple (cs:List AVal) (cs':List Value) (h:LRel n ι H cs cs'):VRel n ι H (.tuple cs) (.tuple cs'.toArray)
inductive LRel (n:Nat) (ι:Inj) (H:Imm):List AVal->List Value->Prop
  | nil:LRel n ι H [] []
  | cons (v:AVal) (w:Value) (vs:List AVal) (ws:List Value) (h:VRel n ι H v w) (hs:LRel n ι H vs ws):LRel n ι H (v::vs) (w::ws)
inductive CRel (n:Nat) (ι:Inj) (H:Imm):(Nat->Option Value)->List AVal->Nat->Prop
  | nil (g:Nat->Option Value) (o:Nat):CRel n ι H g [] o
  | cons (g : Nat → Option Value) (v : AVal) (w : Value) (vs : List AVal) (o : Nat) (hg : g o = some w) (h : VRel n ι H v w) (hs : CRel n ι H g vs (o + 1)) :
      CRel n ι H g (v::vs) o
inductive DRel (n:Nat) (ι:Inj) (H:Imm):(Nat->Option Value)->Nat->List AVal->Nat->Prop
  | nil (g:Nat->Option Value) (sz o:Nat):DRel n ι H g sz [] o
  | agg (g : Nat → Option Value) (sz : Nat) (cs es : List AVal) (o : Nat) (hsz : cs.length = sz) (h : CRel n ι H g cs o) (hs : DRel n ι H g sz es (o + sz)) :
      DRel n ι H g sz (.agg cs::es) o
  | one (g : Nat → Option Value) (v : AVal) (w : Value) (es : List AVal) (o : Nat) (hv : v.isAgg = false) (hg : g o = some w) (h : VRel n ι H v w)
      (hs:DRel n ι H g 1 es (o+1)):DRel n ι H g 1 (v::es) o
end
mutual
inductive WF (n:Nat):AVal->Prop
 | sc (v:Value):WF n (.sc v)
 | ptr (b i k:Nat) (h:b < n):WF n (.ptr b i k)
 | iptr (cs:List AVal) (h:WFs n cs):WF n (.iptr cs)
 | slice (b off len:Nat) (h:b < n):WF n (.slice b off len)
 | view (b off len:Nat) (h:b < n):WF n (.view b off len)
 | endS (b off:Nat) (h:b < n):WF n (.endS b off)
 | data (sz:Nat) (t:Bool) (els:List AVal) (h:WFs n els):WF n (.data sz t els)
 | map (b:Nat) (h:b < n):WF n (.map b)
 | yld (b:Nat) (h:b < n):WF n (.yld b)
 | func (fn:Fn) (fs cs:List AVal) (hf:WFs n fs) (hc:WFs n cs):WF n (.func fn fs cs)
 | iface (t:TypeId) (v:AVal) (h:WF n v):WF n (.iface t v)
 | agg (cs:List AVal) (h:WFs n cs):WF n (.agg cs)
 | tuple (cs:List AVal) (h:WFs n cs):WF n (.tuple cs)
inductive WFs (n:Nat):List AVal->Prop
 | nil:WFs n []
 | cons (v:AVal) (vs:List AVal) (h:WF n v) (hs:WFs n vs):WFs n (v::vs)
end
structure Ext (n:Nat) (ι:Inj) (H:Imm) (n':Nat) (ι':Inj) (H':Imm):Prop where
 next:n<=n'
 inj:∀ b,b < n->ι' b=ι b
 imm:H.Le H'
theorem Ext.refl (n:Nat) (ι:Inj) (H:Imm):Ext n ι H n ι H:=⟨Nat.le_refl _,fun _ _=>rfl,Imm.Le.refl _⟩
theorem Ext.trans {n n' n'':Nat} {ι ι' ι'':Inj} {H H' H'':Imm} (h:Ext n ι H n' ι' H') (h':Ext n' ι' H' n'' ι'' H''):Ext n ι H n'' ι'' H'':=
 ⟨Nat.le_trans h.next h'.next,fun b hb=>(h'.inj b (Nat.lt_of_lt_of_le hb h.next)).trans (h.inj b hb),h.imm.trans h'.imm⟩
def RLe (g g':Nat->Option Value):Prop:=∀ o v,g o=some v->g' o=some v
mutual
theorem VRel.wf {n:Nat} {ι:Inj} {H:Imm}:∀ {v:AVal} {w:Value},VRel n ι H v w->WF n v
 | _,_,.sc v=>.sc v
 | _,_,.ptr b i k h=>.ptr b i k h
 | _,_,.iptr cs _ _ h=>.iptr cs h.wf
 | _,_,.slice b off len _ h _ _=>.slice b off len h
 | _,_,.view b off len h _=>.view b off len h
 | _,_,.endS b off _ _ h _ _=>.endS b off h
 | _,_,.data sz t els _ _ _ _ _ _ _ h=>.data sz t els h.wf
 | _,_,.map b h=>.map b h
 | _,_,.yld b h=>.yld b h
 | _,_,.func fn fs cs _ _ hf hc=>.func fn fs cs hf.wf hc.wf
 | _,_,.iface t v _ h=>.iface t v h.wf
 | _,_,.agg cs _ h=>.agg cs h.wf
 | _,_,.tuple cs _ h=>.tuple cs h.wf
theorem LRel.wf {n:Nat} {ι:Inj} {H:Imm}:∀ {vs:List AVal} {ws:List Value},LRel n ι H vs ws->WFs n vs
 | _,_,.nil=>.nil
 | _,_,.cons v _ vs _ h hs=>.cons v vs h.wf hs.wf
theorem CRel.wf {n:Nat} {ι:Inj} {H:Imm}:∀ {g:Nat->Option Value} {vs:List AVal} {o:Nat},CRel n ι H g vs o->WFs n vs
 | _,_,_,.nil _ _=>.nil
 | _,_,_,.cons _ v _ vs _ _ h hs=>.cons v vs h.wf hs.wf
theorem DRel.wf {n:Nat} {ι:Inj} {H:Imm}:∀ {g:Nat->Option Value} {sz:Nat} {vs:List AVal} {o:Nat},DRel n ι H g sz vs o->WFs n vs
 | _,_,_,_,.nil _ _ _=>.nil
 | _,_,_,_,.agg _ _ cs es _ _ h hs=>.cons _ es (.agg cs h.wf) hs.wf
 | _,_,_,_,.one _ v _ es _ _ _ h hs=>.cons v es h.wf hs.wf
end
mutual
theorem VRel.mono {n n' m : Nat} {ι ι' : Inj} {H H' : Imm} (hi : ∀ b, b < m → ι' b = ι b) (hm : m ≤ n') (hH : H.CLe H') :
    ∀ {v:AVal} {w:Value},VRel n ι H v w->WF m v->VRel n' ι' H' v w
  | _,_,.sc v,_=>.sc v
  | _,_,.ptr b i k _,.ptr _ _ _ h=>by have:=hi b h; rw [<-this]; exact .ptr b i k (Nat.lt_of_lt_of_le h hm)
  | _,_,.iptr cs b o h,.iptr _ hw=>.iptr cs b o (CRel.mono hi hm hH (fun _ _ hc=>hH.cell hc) h hw)
  | _, _, .slice b off len cap _ hl hc, .slice _ _ _ h => by
      have:=hi b h; rw [<-this]; exact .slice b off len cap (Nat.lt_of_lt_of_le h hm) hl (by rw [this]; exact hc)
  | _, _, .view b off len _ hc, .view _ _ _ h => by
      have:=hi b h; rw [<-this]; exact .view b off len (Nat.lt_of_lt_of_le h hm) (by rw [this]; exact hc)
  | _, _, .endS b off o cap _ hc ho, .endS _ _ h => by
      have:=hi b h; rw [<-this]; exact .endS b off o cap (Nat.lt_of_lt_of_le h hm) (by rw [this]; exact hc) (by rw [this]; exact ho)
  | _,_,.data sz t els b o len cap hlen hl ht h,.data _ _ _ hw=>.data sz t els b o len cap hlen hl ht (DRel.mono hi hm hH (fun _ _ hc=>hH.cell hc) h hw)
  | _,_,.map b _,.map _ h=>by have:=hi b h; rw [<-this]; exact .map b (Nat.lt_of_lt_of_le h hm)
  | _,_,.yld b _,.yld _ h=>by have:=hi b h; rw [<-this]; exact .yld b (Nat.lt_of_lt_of_le h hm)
  | _,_,.func fn fs cs fs' cs' hf hc,.func _ _ _ wf wc=>.func fn fs cs fs' cs' (LRel.mono hi hm hH hf wf) (LRel.mono hi hm hH hc wc)
  | _,_,.iface t v v' h,.iface _ _ hw=>.iface t v v' (VRel.mono hi hm hH h hw)
  | _,_,.agg cs cs' h,.agg _ hw=>.agg cs cs' (LRel.mono hi hm hH h hw)
  | _,_,.tuple cs cs' h,.tuple _ hw=>.tuple cs cs' (LRel.mono hi hm hH h hw)
theorem LRel.mono {n n' m : Nat} {ι ι' : Inj} {H H' : Imm} (hi : ∀ b, b < m → ι' b = ι b) (hm : m ≤ n') (hH : H.CLe H') :
    ∀ {vs:List AVal} {ws:List Value},LRel n ι H vs ws->WFs m vs->LRel n' ι' H' vs ws
  | _,_,.nil,_=>.nil
  | _,_,.cons v w vs ws h hs,.cons _ _ hw hws=>.cons v w vs ws (VRel.mono hi hm hH h hw) (LRel.mono hi hm hH hs hws)
theorem CRel.mono {n n' m : Nat} {ι ι' : Inj} {H H' : Imm} (hi : ∀ b, b < m → ι' b = ι b) (hm : m ≤ n') (hH : H.CLe H') :
    ∀ {g g':Nat->Option Value} {vs:List AVal} {o:Nat},RLe g g'->CRel n ι H g vs o->WFs m vs->CRel n' ι' H' g' vs o
  | _,g',_,_,_,.nil _ o,_=>.nil g' o
  | _, g', _, _, hg, .cons _ v w vs o ho h hs, .cons _ _ hw hws =>
      .cons g' v w vs o (hg _ _ ho) (VRel.mono hi hm hH h hw) (CRel.mono hi hm hH hg hs hws)
theorem DRel.mono {n n' m : Nat} {ι ι' : Inj} {H H' : Imm} (hi : ∀ b, b < m → ι' b = ι b) (hm : m ≤ n') (hH : H.CLe H') :
    ∀ {g g':Nat->Option Value} {sz:Nat} {vs:List AVal} {o:Nat},RLe g g'->DRel n ι H g sz vs o->WFs m vs->DRel n' ι' H' g' sz vs o
  | _,g',_,_,_,_,.nil _ sz o,_=>.nil g' sz o
  | _, g', _, _, _, hg, .agg _ sz cs es o hsz h hs, .cons _ _ (.agg _ hw) hws =>
      .agg g' sz cs es o hsz (CRel.mono hi hm hH hg h hw) (DRel.mono hi hm hH hg hs hws)
  | _, g', _, _, _, hg, .one _ v w es o hv ho h hs, .cons _ _ hw hws =>
      .one g' v w es o hv (hg _ _ ho) (VRel.mono hi hm hH h hw) (DRel.mono hi hm hH hg hs hws)
end
theorem VRel.ext {n n':Nat} {ι ι':Inj} {H H':Imm} (he:Ext n ι H n' ι' H') {v:AVal} {w:Value} (h:VRel n ι H v w):VRel n' ι' H' v w:=
 h.mono he.inj he.next he.imm.cle h.wf
theorem LRel.ext {n n':Nat} {ι ι':Inj} {H H':Imm} (he:Ext n ι H n' ι' H') {v:List AVal} {w:List Value} (h:LRel n ι H v w):LRel n' ι' H' v w:=
 h.mono he.inj he.next he.imm.cle h.wf
end Abs
end
noncomputable section
namespace Abs
open Go
inductive T (α:Type) where
 | leaf
 | node (l:T α) (v:Option α) (r:T α)
def T.getS {α:Type}:T α->Nat->Option α
 | .leaf,_=>none
 | .node l v r,k=>
  match Nat.beq k 0 with
  | true=>v
  | false=>match Nat.beq (k % 2) 1 with
   | true=>l.getS (k / 2)
   | false=>r.getS (k / 2 - 1)
def T.putS {α:Type}:Nat->T α->Nat->Option α->T α
 | 0,t,_,_=>t
 | f+1,.leaf,k,x=>
  match Nat.beq k 0 with
  | true=>.node .leaf x .leaf
  | false=>match Nat.beq (k % 2) 1 with
   | true=>.node (T.putS f .leaf (k / 2) x) none .leaf
   | false=>.node .leaf none (T.putS f .leaf (k / 2 - 1) x)
 | f+1,.node l v r,k,x=>
  match Nat.beq k 0 with
  | true=>.node l x r
  | false=>match Nat.beq (k % 2) 1 with
   | true=>.node (T.putS f l (k / 2) x) v r
   | false=>.node l v (T.putS f r (k / 2 - 1) x)
theorem nbeq_false {a b:Nat} (h:a≠b):Nat.beq a b=false:=by
 cases hh:Nat.beq a b with
 | false=>rfl
 | true=>exact absurd (Nat.eq_of_beq_eq_true hh) h
theorem T.getS_put {α:Type}:∀ (f:Nat) (t:T α) (k k':Nat) (x:Option α),k < 2 ^ f - 1->(T.putS f t k x).getS k'=if k'=k then x else t.getS k':=by
  intro f
  induction f with
  | zero=>intro t k k' x h; simp at h
  | succ f ih=>
    intro t k k' x h
    have hk:k / 2 < 2 ^ f - 1\/k=2 ^ (f+1) - 2\/k=0:=by rw [Nat.pow_succ] at h ⊢; omega
    have key : ∀ (l : T α) (v : Option α) (r : T α), T.getS (match Nat.beq k 0 with
        | true=>T.node l x r
        | false=>match Nat.beq (k % 2) 1 with
          | true=>.node (T.putS f l (k / 2) x) v r
          | false=>.node l v (T.putS f r (k / 2 - 1) x)) k'=if k'=k then x else T.getS (.node l v r) k':=by
      intro l v r
      by_cases h0:k=0
      · subst h0
        simp only [T.getS]
        by_cases h1:k'=0
        · subst h1; simp
        · have:Nat.beq k' 0=false:=nbeq_false h1
          simp [this,h1]
      · have e0:Nat.beq k 0=false:=nbeq_false h0
        simp only [e0]
        by_cases h2:k % 2=1
        · have e1:Nat.beq (k % 2) 1=true:=by rw [h2]; rfl
          simp only [e1,T.getS]
          by_cases h1:k'=0
          · subst h1; simp; intro hc; omega
          · have e2:Nat.beq k' 0=false:=nbeq_false h1
            simp only [e2]
            by_cases h3:k' % 2=1
            · have e3:Nat.beq (k' % 2) 1=true:=by rw [h3]; rfl
              simp only [e3]
              rw [ih _ _ _ _ (by rw [Nat.pow_succ] at h; omega)]
              by_cases h4:k'=k
              · subst h4; simp
              · have:k' / 2≠k / 2:=by omega
                simp [h4,this]
            · have e3:Nat.beq (k' % 2) 1=false:=nbeq_false h3
              simp only [e3]
              have:k'≠k:=by intro hc; subst hc; exact h3 h2
              simp [this]
        · have e1:Nat.beq (k % 2) 1=false:=nbeq_false h2
          simp only [e1,T.getS]
          by_cases h1:k'=0
          · subst h1; simp; intro hc; omega
          · have e2:Nat.beq k' 0=false:=nbeq_false h1
            simp only [e2]
            by_cases h3:k' % 2=1
            · have e3:Nat.beq (k' % 2) 1=true:=by rw [h3]; rfl
              simp only [e3]
              have:k'≠k:=by intro hc; subst hc; exact h2 h3
              simp [this]
            · have e3:Nat.beq (k' % 2) 1=false:=nbeq_false h3
              simp only [e3]
              rw [ih _ _ _ _ (by rw [Nat.pow_succ] at h; omega)]
              by_cases h4:k'=k
              · subst h4; simp
              · have:k' / 2 - 1≠k / 2 - 1:=by omega
                simp [h4,this]
    cases t with
    | leaf=>
      have:=key .leaf none .leaf
      have e:T.getS (.node .leaf none .leaf:T α) k'=T.getS .leaf k':=by
        simp only [T.getS]
        split
        · rfl
        · split<;>rfl
      rw [e] at this
      exact this
    | node l v r=>exact key l v r
def T.get {α:Type} (t:T α):Nat->Option α:=
 @T.rec α (fun _=>Nat->Option α) (fun _=>none)
  (fun _ v _ l r k=>@Bool.rec (fun _=>Option α) (@Bool.rec (fun _=>Option α) (r (Nat.sub (Nat.div k 2) 1)) (l (Nat.div k 2)) (Nat.beq (Nat.mod k 2) 1)) v (Nat.beq k 0)) t
theorem T.get_eq {α:Type}:∀ (t:T α) (k:Nat),t.get k=t.getS k
  | .leaf,k=>rfl
  | .node l v r, k => by
      show @Bool.rec (fun _=>Option α) (@Bool.rec (fun _=>Option α) (r.get (Nat.sub (Nat.div k 2) 1)) (l.get (Nat.div k 2)) (Nat.beq (Nat.mod k 2) 1)) v (Nat.beq k 0)=_
      rw [T.get_eq l,T.get_eq r]
      conv=>rhs; unfold T.getS
      show @Bool.rec (fun _=>Option α) (@Bool.rec (fun _=>Option α) (r.getS (k / 2 - 1)) (l.getS (k / 2)) (Nat.beq (k % 2) 1)) v (Nat.beq k 0)=_
      cases Nat.beq k 0<;>cases Nat.beq (k % 2) 1<;>rfl
def T.put {α:Type} (f:Nat):T α->Nat->Option α->T α:=
 @Nat.rec (fun _=>T α->Nat->Option α->T α) (fun t _ _=>t)
  (fun _ ih t=>@T.rec α (fun _=>Nat->Option α->T α)
   (fun k x=>@Bool.rec (fun _=>T α) (@Bool.rec (fun _=>T α) (.node .leaf none (ih .leaf (Nat.sub (Nat.div k 2) 1) x)) (.node (ih .leaf (Nat.div k 2) x) none .leaf) (Nat.beq (Nat.mod k 2) 1)) (.node .leaf x .leaf) (Nat.beq k 0))
   (fun l v r _ _ k x=>@Bool.rec (fun _=>T α) (@Bool.rec (fun _=>T α) (.node l v (ih r (Nat.sub (Nat.div k 2) 1) x)) (.node (ih l (Nat.div k 2) x) v r) (Nat.beq (Nat.mod k 2) 1)) (.node l x r) (Nat.beq k 0)) t) f
theorem T.put_eq {α:Type}:∀ (f:Nat) (t:T α) (k:Nat) (x:Option α),T.put f t k x=T.putS f t k x
  | 0,t,k,x=>by cases t<;>rfl
  | f + 1, .leaf, k, x => by
      show @Bool.rec (fun _=>T α) (@Bool.rec (fun _=>T α) (.node .leaf none (T.put f .leaf (k / 2 - 1) x)) (.node (T.put f .leaf (k / 2) x) none .leaf) (Nat.beq (k % 2) 1)) (.node .leaf x .leaf) (Nat.beq k 0)=_
      rw [T.put_eq f,T.put_eq f]
      conv=>rhs; unfold T.putS
      cases Nat.beq k 0<;>cases Nat.beq (k % 2) 1<;>rfl
  | f + 1, .node l v r, k, x => by
      show @Bool.rec (fun _=>T α) (@Bool.rec (fun _=>T α) (.node l v (T.put f r (k / 2 - 1) x)) (.node (T.put f l (k / 2) x) v r) (Nat.beq (k % 2) 1)) (.node l x r) (Nat.beq k 0)=_
      rw [T.put_eq f,T.put_eq f]
      conv=>rhs; unfold T.putS
      cases Nat.beq k 0<;>cases Nat.beq (k % 2) 1<;>rfl
theorem T.get_leaf {α:Type} (k:Nat):T.get (.leaf:T α) k=none:=rfl
theorem T.get_put {α:Type} (f:Nat) (t:T α) (k k':Nat) (x:Option α) (h:k < 2 ^ f - 1):(T.put f t k x).get k'=if k'=k then x else t.get k':=by
 rw [T.put_eq,T.get_eq,T.get_eq]
 exact T.getS_put f t k k' x h
inductive ABlk where
 | cells (sz:Nat) (els:List AVal)
 | map (kvs:List (AVal×AVal)) (clock:Nat)
 | miter (m:Nat) (since:Nat) (seen:List Value)
 | mitern
 | siter (s:ByteArray) (pos:Nat)
 | loop (st:LoopState) (pend:Option Code) (ps:Array Tmp) (as bd:Code) (tm:T AVal) (nt d:Nat)
 | dfd
structure AStore where
 t:T ABlk
 next:Nat
 tys:List (Nat×Nat)
def AStore.get (σ:AStore) (b:Nat):Option ABlk:=
 match Nat.blt b σ.next with
 | true=>σ.t.get b
 | false=>none
theorem AStore.fin (σ:AStore) (b:Nat) (h:σ.next<=b):σ.get b=none:=by
 have:Nat.blt b σ.next=false:=by
  cases hh:Nat.blt b σ.next with
  | false=>rfl
  | true=>rw [Nat.blt_eq] at hh; omega
 simp [AStore.get,this]
def AStore.alloc (σ:AStore) (x:ABlk):AStore:=⟨T.put (σ.next+1) σ.t σ.next (some x),σ.next+1,σ.tys⟩
def AStore.set (σ:AStore) (b:Nat) (x:ABlk):AStore:=⟨T.put (b+1) σ.t b (some x),σ.next,σ.tys⟩
def AStore.del (σ:AStore) (b:Nat):AStore:=⟨T.put (b+1) σ.t b none,σ.next,σ.tys⟩
def AStore.tag (σ:AStore) (b t:Nat):AStore:=⟨σ.t,σ.next,(b,t)::σ.tys⟩
theorem lt_two_pow_sub (k:Nat):k < 2 ^ (k+1) - 1:=by
 have:k < 2 ^ k:=Nat.lt_two_pow_self
 rw [Nat.pow_succ]; omega
theorem AStore.get_of_lt {σ:AStore} {b:Nat} (h:b < σ.next):σ.get b=σ.t.get b:=by
 have:Nat.blt b σ.next=true:=by rw [Nat.blt_eq]; exact h
 simp [AStore.get,this]
theorem AStore.get_alloc (σ:AStore) (x:ABlk) (b:Nat):(σ.alloc x).get b=if b=σ.next then some x else σ.get b:=by
 by_cases hb:b < σ.next+1
 ·rw [AStore.get_of_lt (σ:=σ.alloc x) hb,AStore.alloc,T.get_put _ _ _ _ _ (lt_two_pow_sub _)]
  by_cases h:b=σ.next
  ·simp [h]
  ·rw [if_neg h,if_neg h,AStore.get_of_lt (by omega)]
 ·rw [AStore.fin _ _ (show (σ.alloc x).next<=b by simp [AStore.alloc]; omega),if_neg (by omega),AStore.fin _ _ (by omega)]
theorem AStore.get_set (σ:AStore) (b:Nat) (x:ABlk) (b':Nat):(σ.set b x).get b'=if b'=b/\b < σ.next then some x else σ.get b':=by
 by_cases hb:b' < σ.next
 ·rw [AStore.get_of_lt (σ:=σ.set b x) hb,AStore.set,T.get_put _ _ _ _ _ (lt_two_pow_sub _)]
  by_cases h:b'=b
  ·subst h; simp [hb]
  ·rw [if_neg h,if_neg (fun hh=>h hh.1),AStore.get_of_lt hb]
 ·rw [AStore.fin _ _ (show (σ.set b x).next<=b' by simp [AStore.set]; omega),if_neg (by omega),AStore.fin _ _ (by omega)]
theorem AStore.get_del (σ:AStore) (b b':Nat):(σ.del b).get b'=if b'=b then none else σ.get b':=by
 by_cases hb:b' < σ.next
 ·rw [AStore.get_of_lt (σ:=σ.del b) hb,AStore.del,T.get_put _ _ _ _ _ (lt_two_pow_sub _)]
  by_cases h:b'=b
  ·simp [h]
  ·rw [if_neg h,if_neg h,AStore.get_of_lt hb]
 ·rw [AStore.fin _ _ (show (σ.del b).next<=b' by simp [AStore.del]; omega),AStore.fin _ _ (by omega)]; split<;>rfl
theorem AStore.lt_of_get {σ:AStore} {b:Nat} {x:ABlk} (h:σ.get b=some x):b < σ.next:=by
 rcases Nat.lt_or_ge b σ.next with h'|h'
 ·exact h'
 ·simp [σ.fin b h'] at h
inductive KRel (n:Nat) (ι:Inj) (H:Imm):List (AVal×AVal)->List MapEntry->Prop
  | nil:KRel n ι H [] []
  | cons (k v : AVal) (e : MapEntry) (kvs : List (AVal × AVal)) (es : List MapEntry) (hk : VRel n ι H k e.key) (hv : VRel n ι H v e.val)
      (hs:KRel n ι H kvs es):KRel n ι H ((k,v)::kvs) (e::es)
def FrOk (m:Nat) (fr:Nat×Nat):Prop:=∀ o,o < m->¬ (fr.1<=o/\o < fr.2)
def BlkRel (n:Nat) (ι:Inj) (H:Imm) (w:World) (p:Place):ABlk->Prop
  | .cells sz els => p.sz = sz ∧ els.length ≤ p.cap ∧ ∃ c elem fr, w.heap[p.blk]? = some (.cells c elem fr) ∧ FrOk c.size fr ∧ p.base + p.cap * sz ≤ c.size ∧
      DRel n ι H (c[·]?) sz els p.base/\elem=p.el
  | .map kvs clock=>∃ es,w.heap[p.blk]?=some (.map es clock)/\KRel n ι H kvs es.toList/\(es.toList.map (·.born)).Nodup/\(∀ e∈es.toList,e.born < clock)/\(es.toList.map (·.key)).Nodup
  | .miter m since seen => (m < n ∧ (ι m).blk < w.heap.size ∧ p.base = 0) ∧ ∃ since' seen' stepped, w.heap[p.blk]? = some (.mapIter (some (ι m).blk) since' seen' stepped) ∧ since' = since ∧ stepped = since ∧
      ∀ es clock,w.heap[(ι m).blk]?=some (.map es clock)->since<=clock/\(clock=since->∀ e∈es.toList,(e.born∈seen' ↔ e.key∈seen)/\(seen'.back?=some e.born ↔ seen.getLast?=some e.key))
  | .mitern=>p.base=0/\∃ since seen stepped,w.heap[p.blk]?=some (.mapIter none since seen stepped)
  | .siter s pos=>p.base=0/\w.heap[p.blk]?=some (.stringIter s pos)
  | .loop st pend ps as bd tm nt d => p.base = 0 ∧ d < n ∧ ∃ fn tmps, w.heap[p.blk]? = some (.loop ⟨st, pend, fn, tmps, ps, as, bd, (ι d).blk⟩) ∧ tmps.size = nt ∧
      ∀ t v,tm.get t=some v->t < nt/\VRel n ι H v (tmps.getD t undef)
  | .dfd=>p.base=0/\w.heap[p.blk]?=some (.deferred (some []))
structure TyI where
 desc:TypeDesc
 size:Nat
 bytes:Nat
 zero:Value
def TyI.isA (i:TyI):Bool:=
 match i.desc with
 | .struct _|.array _ _=>true
 | _=>false
def TyOk (P:Program) (ty:Nat->Option TyI):Prop:=
 ∀ t i,ty t=some i->P.underlying t=some i.desc/\∃ info,P.info? t=some info/\info.size=i.size/\info.bytes=i.bytes/\info.zero=some i.zero
structure ADef where
 fn:Fn
 cap:List AVal
 args:List AVal
structure Env where
 P:Program
 G:Nat->AVal
 ty:Nat->Option TyI
 ok:TyOk P ty
 fns:Nat->Bool
 fok:∀ f,fns f=true->∃ fn,P.funcs[f]?=some fn/\fn.body.isNone=false/\(fn.name== "runtime.NumGoroutine")=false
 /-- Functions that give back what they are given. -/
 nes:Nat->Bool
 nok:∀ f,nes f=true->∃ fn,P.funcs[f]?=some fn/\fn.body.isNone=true/\(fn.name== "runtime.NumGoroutine")=false/\Extern.findNext fn=none/\Extern.find fn=some Extern.AbiNoEscape.same
 /-- The world at the start. -/
 w0:World
 /-- The loop over a function, by its record's number, of which the code is a round's. -/
 rd:Option Nat
 /-- What the code at hand has deferred, where it is walked by hand. -/
 ds:List ADef
def Same (w0 w:World):Prop:=w.os=w0.os/\w.output=w0.output
structure Rel (E:Env) (ι:Inj) (H:Imm) (σ:AStore) (w:World):Prop where
 imm:∀ c o,H c=some o->w.heap[c]?=some o.2
 live:∀ b x,σ.get b=some x->BlkRel σ.next ι H w (ι b) x/\H (ι b).blk=none/\(ι b).blk < w.heap.size
 inj:∀ b b' x x',σ.get b=some x->σ.get b'=some x'->(ι b).blk=(ι b').blk->b=b'
 glob:∀ g,VRel σ.next ι H (E.G g) (.pointer (some ⟨g,0,none⟩))
 keep:Same E.w0 w
 tys:∀ b t,(b,t)∈σ.tys->b < σ.next/\(ι b).el=t/\(ι b).base=0
theorem Same.refl (w:World):Same w w:=⟨rfl,rfl⟩
theorem Same.trans_keep {a b c:World} (h2:Same b c) (h:Same a b):Same a c:=⟨h2.1.trans h.1,h2.2.trans h.2⟩
theorem Rel.rd {E:Env} {ι:Inj} {H:Imm} {σ:AStore} {w:World} (h:Rel E ι H σ w) (r:Option Nat):Rel {E with rd:=r} ι H σ w:=⟨h.imm,h.live,h.inj,h.glob,h.keep,h.tys⟩
theorem Rel.unrd {E:Env} {r:Option Nat} {ι:Inj} {H:Imm} {σ:AStore} {w:World} (h:Rel {E with rd:=r} ι H σ w):Rel E ι H σ w:=⟨h.imm,h.live,h.inj,h.glob,h.keep,h.tys⟩
theorem KRel.ext {n n':Nat} {ι ι':Inj} {H H':Imm} (he:Ext n ι H n' ι' H'):∀ {kvs:List (AVal×AVal)} {es:List MapEntry},KRel n ι H kvs es->KRel n' ι' H' kvs es
 | _,_,.nil=>.nil
 | _,_,.cons k v e kvs es hk hv hs=>.cons k v e kvs es (hk.ext he) (hv.ext he) (hs.ext he)
theorem DRel.ext {n n':Nat} {ι ι':Inj} {H H':Imm} (he:Ext n ι H n' ι' H') {g g':Nat->Option Value} (hg:RLe g g') {sz:Nat} {els:List AVal} {o:Nat}
  (h:DRel n ι H g sz els o):DRel n' ι' H' g' sz els o:=h.mono he.inj he.next he.imm.cle hg h.wf
theorem CRel.ext {n n':Nat} {ι ι':Inj} {H H':Imm} (he:Ext n ι H n' ι' H') {g g':Nat->Option Value} (hg:RLe g g') {els:List AVal} {o:Nat}
  (h:CRel n ι H g els o):CRel n' ι' H' g' els o:=h.mono he.inj he.next he.imm.cle hg h.wf
theorem BlkRel.ext {n n':Nat} {ι ι':Inj} {H H':Imm} (he:Ext n ι H n' ι' H') {w w':World} {p:Place} {x:ABlk} (h:BlkRel n ι H w p x)
  (hb:w'.heap[p.blk]?=w.heap[p.blk]?) (hs:w.heap.size<=w'.heap.size)
  (hm:∀ m since seen,x=.miter m since seen->w'.heap[(ι m).blk]?=w.heap[(ι m).blk]?):BlkRel n' ι' H' w' p x:=by
 cases x with
 | cells sz els=>
  obtain ⟨h1,h2,c,elem,fr,h3,hf,h4,h5,h6⟩:=h
  exact ⟨h1,h2,c,elem,fr,by rw [hb]; exact h3,hf,h4,h5.ext he (fun _ _ h=>h),h6⟩
 | map kvs clock=>
  obtain ⟨es,h1,h2,h3⟩:=h
  exact ⟨es,by rw [hb]; exact h1,h2.ext he,h3⟩
 | miter m since seen=>
  obtain ⟨⟨h0,h0',h0''⟩,s',se',st,h1,h2,h3,h4⟩:=h
  refine ⟨⟨Nat.lt_of_lt_of_le h0 he.next,by rw [he.inj m h0]; omega,h0''⟩,s',se',st,?_,h2,h3,?_⟩
  ·rw [hb,he.inj m h0]; exact h1
  ·intro es clock hh
   rw [he.inj m h0,hm m since seen rfl] at hh
   exact h4 es clock hh
 | mitern=>
  obtain ⟨z,a,b,c,h⟩:=h
  exact ⟨z,a,b,c,by rw [hb]; exact h⟩
 | siter s pos=>exact ⟨h.1,hb.trans h.2⟩
 | loop st pend ps as bd tm nt d=>
  obtain ⟨z,hd,fn,tmps,h1,h2,h3⟩:=h
  refine ⟨z,Nat.lt_of_lt_of_le hd he.next,fn,tmps,?_,h2,fun t v ht=>⟨(h3 t v ht).1,(h3 t v ht).2.ext he⟩⟩
  rw [hb,he.inj d hd]; exact h1
 | dfd=>exact ⟨h.1,hb.trans h.2⟩
theorem Rel.congr {E:Env} {ι:Inj} {H:Imm} {σ:AStore} {w w':World} (h:Rel E ι H σ w) (hw:w'.heap=w.heap) (hk:Same w w'):Rel E ι H σ w' where
 imm c o hc:=by rw [hw]; exact h.imm c o hc
 live b x hb:=by
  obtain ⟨h1,h2,h3⟩:=h.live b x hb
  exact ⟨h1.ext (Ext.refl _ _ _) (by rw [hw]) (by rw [hw]; exact Nat.le_refl _) (fun _ _ _ _=>by rw [hw]),h2,by rw [hw]; exact h3⟩
 inj:=h.inj
 glob:=h.glob
 keep:=⟨hk.1.trans h.keep.1,hk.2.trans h.keep.2⟩
 tys:=h.tys
theorem Rel.restrict {E:Env} {ι:Inj} {H:Imm} {σ τ:AStore} {w:World} (h:Rel E ι H σ w) (hn:τ.next=σ.next) (hs:∀ b x,τ.get b=some x->σ.get b=some x) (ht:∀ p∈τ.tys,p∈σ.tys):
  Rel E ι H τ w where
 imm:=h.imm
 live b x hb:=by rw [hn]; exact h.live b x (hs b x hb)
 inj b b' x x' hb hb':=h.inj b b' x x' (hs b x hb) (hs b' x' hb')
 glob:=by rw [hn]; exact h.glob
 keep:=h.keep
 tys b t hb:=by rw [hn]; exact h.tys b t (ht _ hb)
def upd (ι:Inj) (b:Nat) (p:Place):Inj:=fun b'=>if b'=b then p else ι b'
theorem upd_self (ι:Inj) (b:Nat) (p:Place):upd ι b p b=p:=by simp [upd]
theorem upd_ne (ι:Inj) {b b':Nat} (p:Place) (h:b'≠b):upd ι b p b'=ι b':=by simp [upd,h]
theorem Ext.upd (n:Nat) (ι:Inj) (H:Imm) (p:Place):Ext n ι H (n+1) (upd ι n p) H:=
 ⟨by omega,fun b hb=>upd_ne ι p (by omega),Imm.Le.refl _⟩
theorem Rel.blk_lt {E:Env} {ι:Inj} {H:Imm} {σ:AStore} {w:World} (h:Rel E ι H σ w) {b:Nat} {x:ABlk} (hb:σ.get b=some x):(ι b).blk < w.heap.size:=
 (h.live b x hb).2.2
theorem Rel.alloc {E:Env} {ι:Inj} {H:Imm} {σ:AStore} {w:World} (h:Rel E ι H σ w) {o:Obj} {p:Place} {x:ABlk} (hp:p.blk=w.heap.size)
  (hx:BlkRel σ.next ι H {w with heap:=w.heap.push o} p x):
  Rel E (upd ι σ.next p) H (σ.alloc x) {w with heap:=w.heap.push o}:=by
 have hold:∀ (c:Nat) (o':Obj),w.heap[c]?=some o'->(w.heap.push o)[c]?=some o':=by
  intro c o' hc
  have:c < w.heap.size:=by
   rcases Nat.lt_or_ge c w.heap.size with h'|h'
   ·exact h'
   ·simp [Array.getElem?_eq_none h'] at hc
  simp [Array.getElem?_push,Nat.ne_of_lt this,hc]
 have hlt:∀ (c:Nat),c < w.heap.size->(w.heap.push o)[c]?=w.heap[c]?:=by
  intro c hc
  simp [Array.getElem?_push,Nat.ne_of_lt hc]
 have he:Ext σ.next ι H (σ.next+1) (upd ι σ.next p) H:=Ext.upd _ _ _ _
 have hH:∀ c o',H c=some o'->c < w.heap.size:=by
  intro c o' hc
  have:=h.imm c o' hc
  rcases Nat.lt_or_ge c w.heap.size with h'|h'
  ·exact h'
  ·simp [Array.getElem?_eq_none h'] at this
 refine ⟨fun c o' hc=>hold c _ (h.imm c o' hc),?_,?_,fun g=>(h.glob g).ext he,h.keep,?_⟩
 rotate_left 2
 ·intro b t hb
  obtain ⟨h1,h2,h3⟩:=h.tys b t hb
  have h4:upd ι σ.next p b=ι b:=upd_ne _ _ (by omega)
  rw [h4]
  exact ⟨Nat.lt_succ_of_lt h1,h2,h3⟩
 ·intro b y hb
  rw [AStore.get_alloc] at hb
  split at hb
  ·rename_i hbn
   cases hb
   subst hbn
   rw [upd_self]
   refine ⟨hx.ext he rfl (Nat.le_refl _) (fun _ _ _ _=>rfl),?_,?_⟩
   ·cases hc:H p.blk with
    | none=>rfl
    | some o'=>have:=hH _ _ hc; omega
   ·simp [hp]
  ·rename_i hbn
   obtain ⟨h1,h2,h3⟩:=h.live b y hb
   rw [upd_ne _ _ hbn]
   refine ⟨h1.ext he (hlt _ h3) (by simp) ?_,h2,by simp; omega⟩
   intro m since seen hy
   subst hy
   exact hlt _ h1.1.2.1
 ·intro b b' y y' hb hb' hbb
  rw [AStore.get_alloc] at hb hb'
  by_cases h1:b=σ.next<;>by_cases h2:b'=σ.next
  ·omega
  ·simp only [h1,upd_self,upd_ne _ _ h2] at hbb
   simp only [h2,if_false] at hb'
   have:=h.blk_lt hb'; omega
  ·simp only [h2,upd_self,upd_ne _ _ h1] at hbb
   simp only [h1,if_false] at hb
   have:=h.blk_lt hb; omega
  ·simp only [h1,h2,if_false] at hb hb'
   rw [upd_ne _ _ h1,upd_ne _ _ h2] at hbb
   exact h.inj b b' y y' hb hb' hbb
theorem Rel.set {E:Env} {ι:Inj} {H:Imm} {σ:AStore} {w w':World} (h:Rel E ι H σ w) {b:Nat} {y x:ABlk} (hb:σ.get b=some y)
  (hsz:w'.heap.size=w.heap.size) (ho:∀ c,c≠(ι b).blk->w'.heap[c]?=w.heap[c]?) (hk:Same w w')
  (hx:BlkRel σ.next ι H w' (ι b) x)
  (hm:∀ b' m since seen,b'≠b->σ.get b'=some (.miter m since seen)->(ι m).blk=(ι b).blk->BlkRel σ.next ι H w' (ι b') (.miter m since seen)):
  Rel E ι H (σ.set b x) w':=by
 have hlt:=AStore.lt_of_get hb
 refine ⟨?_,?_,?_,h.glob,⟨hk.1.trans h.keep.1,hk.2.trans h.keep.2⟩,h.tys⟩
 ·intro c o hc
  rw [ho c]
  ·exact h.imm c o hc
  ·intro hcb
   subst hcb
   rw [(h.live b y hb).2.1] at hc
   cases hc
 ·intro b' z hz
  rw [AStore.get_set] at hz
  simp only [hlt,and_true] at hz
  split at hz
  ·rename_i hbb
   cases hz
   subst hbb
   exact ⟨hx,(h.live b' y hb).2.1,by rw [hsz]; exact (h.live b' y hb).2.2⟩
  ·rename_i hbb
   obtain ⟨h1,h2,h3⟩:=h.live b' z hz
   have hne:(ι b').blk≠(ι b).blk:=fun hc=>hbb (h.inj b' b z y hz hb hc)
   refine ⟨?_,h2,by rw [hsz]; exact h3⟩
   by_cases hmm:∃ m since seen,z=.miter m since seen/\(ι m).blk=(ι b).blk
   ·obtain ⟨m,since,seen,rfl,hmb⟩:=hmm
    exact hm b' m since seen hbb hz hmb
   ·refine h1.ext (Ext.refl _ _ _) (ho _ hne) (by omega) ?_
    intro m since seen hz'
    exact ho _ (fun hc=>hmm ⟨m,since,seen,hz',hc⟩)
 ·intro b1 b2 x1 x2 h1 h2
  rw [AStore.get_set] at h1 h2
  simp only [hlt,and_true] at h1 h2
  split at h1<;>split at h2
  ·rename_i e1 e2; intro _; omega
  ·rename_i e1 e2; subst e1; exact h.inj b1 b2 _ _ hb h2
  ·rename_i e1 e2; subst e2; exact h.inj b1 b2 _ _ h1 hb
  ·exact h.inj b1 b2 _ _ h1 h2
theorem Rel.set_cells {E:Env} {ι:Inj} {H:Imm} {σ:AStore} {w w':World} (h:Rel E ι H σ w) {b:Nat} {sz:Nat} {els:List AVal} {x:ABlk} (hb:σ.get b=some (.cells sz els))
  (hsz:w'.heap.size=w.heap.size) (ho:∀ c,c≠(ι b).blk->w'.heap[c]?=w.heap[c]?) (hk:Same w w')
  {c':Array Value} {elem':TypeId} {fr':Nat×Nat} (hc':w'.heap[(ι b).blk]?=some (.cells c' elem' fr'))
  (hx:BlkRel σ.next ι H w' (ι b) x):Rel E ι H (σ.set b x) w':=by
 refine h.set hb hsz ho hk hx ?_
 intro b' m since seen hne hz hmb
 obtain ⟨h1,h2,h3⟩:=h.live b' _ hz
 have hne':(ι b').blk≠(ι b).blk:=fun hc=>hne (h.inj b' b _ _ hz hb hc)
 obtain ⟨⟨g0,g0',g0''⟩,s',se',st,g1,g2,g3,g4⟩:=h1
 refine ⟨⟨g0,by omega,g0''⟩,s',se',st,by rw [ho _ hne']; exact g1,g2,g3,?_⟩
 intro es clock hh
 rw [hmb,hc'] at hh
 cases hh
theorem Rel.tag {E:Env} {ι:Inj} {H:Imm} {σ:AStore} {w:World} (h:Rel E ι H σ w) {b t:Nat} (h1:b < σ.next) (h2:(ι b).el=t) (h3:(ι b).base=0):Rel E ι H (σ.tag b t) w:=
 ⟨h.imm,h.live,h.inj,h.glob,h.keep,fun b' t' hb=>by
  simp only [AStore.tag,List.mem_cons,Prod.mk.injEq] at hb
  rcases hb with ⟨rfl,rfl⟩|hb
  ·exact ⟨h1,h2,h3⟩
  ·exact h.tys b' t' hb⟩
end Abs
end
noncomputable section
namespace Abs
open Go
def rd (w:World) (b:Nat):Nat->Option Value:=fun o=>w.cell? ⟨b,o,none⟩
theorem rd_cells {w:World} {b:Nat} {c:Array Value} {e:TypeId} {f:Nat×Nat} (h:w.heap[b]?=some (.cells c e f)):rd w b=(c[·]?):=by
 funext o; simp [rd,World.cell?,h]
theorem rd_imm {H:Imm} {w:World} (h:∀ c o,H c=some o->w.heap[c]?=some o.2) (b:Nat):RLe (H.cell? b) (rd w b):=by
 intro o v hc
 unfold Imm.cell? at hc
 cases hb:H b with
 | none=>simp [hb] at hc
 | some x=>
  rw [hb] at hc
  have:=h b x hb
  obtain ⟨t,x⟩:=x
  cases t with
  | false=>simp at hc
  | true=>
   cases x with
   | cells c e f=>simp at hc; simp [rd,World.cell?,this,hc]
   | _=>simp at hc
theorem LRel.length {n:Nat} {ι:Inj} {H:Imm}:∀ {vs:List AVal} {ws:List Value},LRel n ι H vs ws->vs.length=ws.length
 | _,_,.nil=>rfl
 | _,_,.cons _ _ _ _ _ hs=>by simp [hs.length]
theorem LRel.get {n:Nat} {ι:Inj} {H:Imm}:∀ {vs:List AVal} {ws:List Value} {k:Nat} {v:AVal},LRel n ι H vs ws->vs[k]?=some v->
  ∃ w,ws[k]?=some w/\VRel n ι H v w
 | _,_,0,_,.cons _ w _ _ h _,hv=>by simp at hv; subst hv; exact ⟨w,by simp,h⟩
 | _,_,k+1,_,.cons _ _ _ _ _ hs,hv=>by simp at hv; obtain ⟨w,h1,h2⟩:=hs.get hv; exact ⟨w,by simpa using h1,h2⟩
theorem LRel.append {n:Nat} {ι:Inj} {H:Imm}:∀ {vs vs':List AVal} {ws ws':List Value},LRel n ι H vs ws->LRel n ι H vs' ws'->LRel n ι H (vs++vs') (ws++ws')
 | _,_,_,_,.nil,h=>h
 | _,_,_,_,.cons v w vs ws h hs,h'=>.cons v w _ _ h (hs.append h')
theorem LRel.drop {n:Nat} {ι:Inj} {H:Imm}:∀ {vs:List AVal} {ws:List Value} (k:Nat),LRel n ι H vs ws->LRel n ι H (vs.drop k) (ws.drop k)
 | _,_,0,h=>by simpa using h
 | _,_,_+1,.nil=>by simpa using LRel.nil
 | _,_,k+1,.cons _ _ _ _ _ hs=>by simpa using hs.drop k
theorem LRel.take {n:Nat} {ι:Inj} {H:Imm}:∀ {vs:List AVal} {ws:List Value} (k:Nat),LRel n ι H vs ws->LRel n ι H (vs.take k) (ws.take k)
 | _,_,0,_=>by simpa using LRel.nil
 | _,_,_+1,.nil=>by simpa using LRel.nil
 | _,_,k+1,.cons v w vs ws h hs=>by simpa using .cons v w _ _ h (hs.take k)
theorem LRel.set {n:Nat} {ι:Inj} {H:Imm}:∀ {vs:List AVal} {ws:List Value} (k:Nat) {v:AVal} {w:Value},LRel n ι H vs ws->VRel n ι H v w->
  LRel n ι H (vs.set k v) (ws.set k w)
 | _,_,_,_,_,.nil,_=>by simpa using LRel.nil
 | _,_,0,v,w,.cons _ _ vs ws _ hs,h'=>by simpa using .cons v w vs ws h' hs
 | _,_,k+1,_,_,.cons v w vs ws h hs,h'=>by simpa using .cons v w _ _ h (hs.set k h')
theorem LRel.sc {n:Nat} {ι:Inj} {H:Imm}:∀ (ws:List Value),LRel n ι H (ws.map .sc) ws
 | []=>.nil
 | w::ws=>.cons _ w _ ws (.sc w) (LRel.sc ws)
theorem CRel.get {n : Nat} {ι : Inj} {H : Imm} {g : Nat → Option Value} : ∀ {vs : List AVal} {o k : Nat} {v : AVal}, CRel n ι H g vs o → vs[k]? = some v →
    ∃ w,g (o+k)=some w/\VRel n ι H v w
  | _,_,0,_,.cons _ _ w _ o ho h _,hv=>by simp at hv; subst hv; exact ⟨w,ho,h⟩
  | _, o, k + 1, _, .cons _ _ _ _ _ _ _ hs, hv => by
      simp at hv
      obtain ⟨w,h1,h2⟩:=hs.get hv
      exact ⟨w,by rw [<-h1]; congr 1; omega,h2⟩
theorem CRel.drop {n:Nat} {ι:Inj} {H:Imm} {g:Nat->Option Value}:∀ {vs:List AVal} {o:Nat} (k:Nat),CRel n ι H g vs o->CRel n ι H g (vs.drop k) (o+k)
  | _,_,0,h=>by simpa using h
  | _,o,_+1,.nil _ _=>by simpa using CRel.nil _ _
  | _, o, k + 1, .cons _ _ _ _ _ _ _ hs => by
      have:=hs.drop k
      simpa [show o+(k+1)=o+1+k by omega] using this
theorem CRel.take {n:Nat} {ι:Inj} {H:Imm} {g:Nat->Option Value}:∀ {vs:List AVal} {o:Nat} (k:Nat),CRel n ι H g vs o->CRel n ι H g (vs.take k) o
 | _,_,0,_=>by simpa using CRel.nil _ _
 | _,_,_+1,.nil _ _=>by simpa using CRel.nil _ _
 | _,_,k+1,.cons _ v w _ o ho h hs=>by simpa using .cons g v w _ o ho h (hs.take k)
theorem CRel.list {n : Nat} {ι : Inj} {H : Imm} {g : Nat → Option Value} : ∀ {vs : List AVal} {o : Nat}, CRel n ι H g vs o →
    ∃ ws,LRel n ι H vs ws/\∀ k,k < vs.length->g (o+k)=ws[k]?
  | _,_,.nil _ _=>⟨[],.nil,by simp⟩
  | _, _, .cons _ v w vs o ho h hs => by
      obtain ⟨ws,h1,h2⟩:=hs.list
      refine ⟨w::ws,.cons v w vs ws h h1,?_⟩
      intro k hk
      cases k with
      | zero=>simpa using ho
      | succ k=>simp at hk; rw [show o+(k+1)=o+1+k by omega,h2 k hk]; simp
theorem CRel.of_list {n : Nat} {ι : Inj} {H : Imm} {g : Nat → Option Value} : ∀ {vs : List AVal} {ws : List Value} {o : Nat}, LRel n ι H vs ws →
    (∀ k,k < ws.length->g (o+k)=ws[k]?)->CRel n ι H g vs o
  | _,_,_,.nil,_=>.nil _ _
  | _, _, o, .cons v w vs ws h hs, hg => .cons g v w vs o (by simpa using hg 0 (by simp)) h
      (CRel.of_list hs (fun k hk=>by rw [show o+1+k=o+(k+1) by omega,hg (k+1) (by simpa using hk)]; simp))
theorem AVal.cells_one {v:AVal} (h:v.isAgg=false):v.cells=[v]:=by cases v<;>simp_all [AVal.isAgg,AVal.cells]
theorem DRel.get {n : Nat} {ι : Inj} {H : Imm} {g : Nat → Option Value} : ∀ {els : List AVal} {sz o i : Nat} {e : AVal}, DRel n ι H g sz els o → els[i]? = some e →
    CRel n ι H g e.cells (o+i*sz)/\e.cells.length=sz
  | _,_,_,0,_,.agg _ sz cs es o hsz h _,hv=>by simp at hv; subst hv; simpa [AVal.cells,hsz] using h
  | _, _, _, 0, _, .one _ v w es o hn ho h _, hv => by
      simp at hv; subst hv; rw [AVal.cells_one hn]; simpa using .cons g v w [] o ho h (.nil _ _)
  | _, _, _, i + 1, _, .agg _ sz cs es o hsz h hs, hv => by
      simp at hv
      have:=hs.get hv
      rw [show o+(i+1)*sz=o+sz+i*sz by rw [Nat.add_mul]; omega]
      exact this
  | _, _, _, i + 1, _, .one _ v w es o hn ho h hs, hv => by
      simp at hv
      have:=hs.get hv
      rw [show o+(i+1)*1=o+1+i*1 by omega]
      exact this
theorem DRel.of_get {n : Nat} {ι : Inj} {H : Imm} {g : Nat → Option Value} : ∀ {els : List AVal} {sz o : Nat},
    (∀ i e,els[i]?=some e->CRel n ι H g e.cells (o+i*sz)/\e.cells.length=sz)->DRel n ι H g sz els o
  | [],_,_,_=>.nil _ _ _
  | e :: es, sz, o, h => by
      have hs:∀ i e,es[i]?=some e->CRel n ι H g e.cells (o+sz+i*sz)/\e.cells.length=sz:=by
        intro i e he
        have:=h (i+1) e (by simpa using he)
        rwa [show o+(i+1)*sz=o+sz+i*sz by rw [Nat.add_mul]; omega] at this
      have h0:=h 0 e (by simp)
      simp only [Nat.zero_mul,Nat.add_zero] at h0
      by_cases he:e.isAgg=true
      · cases e with
        | agg cs=>exact .agg _ sz cs es o (by simpa [AVal.cells] using h0.2) (by simpa [AVal.cells] using h0.1) (DRel.of_get hs)
        | _=>simp [AVal.isAgg] at he
      · have he:e.isAgg=false:=by simpa using he
        rw [AVal.cells_one he] at h0
        obtain ⟨h1,h2⟩:=h0
        obtain rfl:sz=1:=by simpa using h2.symm
        cases h1 with
        | cons _ _ w _ _ ho hv _=>exact .one _ e w es o he ho hv (DRel.of_get hs)
theorem add_mk (b o n:Nat):(⟨b,o,none⟩:Addr).add n=⟨b,o+n,none⟩:=by
 unfold Addr.add; split<;>simp_all
theorem run_loadCellsFrom (P:Program) (w:World) (b o:Nat):∀ (m i:Nat) (ws acc:List Value),
  ws.length=m->(∀ k,k < m->rd w b (o+i+k)=ws[k]?)->
  (loadCellsFrom ⟨b,o,none⟩ i m acc.toArray).run P w=.ok (acc++ws).toArray w:=by
 intro m
 induction m with
 | zero=>intro i ws acc hl _; obtain rfl:=List.length_eq_zero_iff.1 hl; simp [loadCellsFrom,pure]
 | succ m ih=>
  intro i ws acc hl hg
  cases ws with
  | nil=>simp at hl
  | cons v ws=>
   simp at hl
   have h0:=hg 0 (by omega)
   simp [rd] at h0
   have:=ih (i+1) ws (acc++[v]) hl (fun k hk=>by
    have:=hg (k+1) (by omega)
    rw [show o+(i+1)+k=o+i+(k+1) by omega,this]; simp)
   simp only [loadCellsFrom,add_mk,load,bind,Sem.bind,Sem.run,h0]
   simpa using this
theorem run_loadCells (P:Program) (w:World) (b o m:Nat) (ws:List Value) (hl:ws.length=m) (hg:∀ k,k < m->rd w b (o+k)=ws[k]?):
  (loadCells ⟨b,o,none⟩ m).run P w=.ok ws.toArray w:=by
 have:=run_loadCellsFrom P w b o m 0 ws [] hl (by simpa using hg)
 simpa [loadCells] using this
def splice (c:Array Value) (o:Nat):List Value->Array Value
 | []=>c
 | v::vs=>splice (c.setIfInBounds o v) (o+1) vs
theorem splice_size:∀ (vs:List Value) (c:Array Value) (o:Nat),(splice c o vs).size=c.size
 | [],_,_=>rfl
 | v::vs,c,o=>by rw [splice,splice_size vs]; simp
theorem splice_get : ∀ (vs : List Value) (c : Array Value) (o i : Nat), o + vs.length ≤ c.size →
    (splice c o vs)[i]?=if o<=i/\i < o+vs.length then vs[i - o]? else c[i]?
  | [],c,o,i,_=>by simp [splice]; intro h1 h2; omega
  | v :: vs, c, o, i, h => by
      simp at h
      rw [splice,splice_get vs _ _ _ (by simp; omega)]
      by_cases h1:o+1<=i/\i < o+1+vs.length
      · rw [if_pos h1,if_pos (by simp; omega)]
        rw [show i - o=(i - (o+1))+1 by omega]; simp
      · rw [if_neg h1]
        by_cases h2:o=i
        · subst h2
          rw [if_pos (by simp)]
          simp [Array.getElem?_setIfInBounds]; omega
        · rw [if_neg (by simp; omega)]
          simp [h2]
def isCellV:Value->Bool
 | .agg _|.tuple _=>false
 | _=>true
theorem run_storeCells (P : Program) (b : Nat) (o : Nat) (e : TypeId) (fr : Nat × Nat) : ∀ (vs : List Value) (w : World) (c : Array Value) (i : Nat),
    w.heap[b]?=some (.cells c e fr)->FrOk c.size fr->(∀ v∈vs,isCellV v=true)->o+i+vs.length<=c.size->
    ∃ w',(storeCells ⟨b,o,none⟩ vs i).run P w=.ok () w'/\w'.heap=w.heap.setIfInBounds b (.cells (splice c (o+i) vs) e fr)/\Same w w'
  | [], w, c, i, hb, _, _, _ => by
      refine ⟨w,by simp [storeCells,pure],?_,⟨rfl,rfl⟩⟩
      have hlt:b < w.heap.size:=by
        rcases Nat.lt_or_ge b w.heap.size with h|h
        · exact h
        · simp [Array.getElem?_eq_none h] at hb
      apply Array.ext_getElem?
      intro j
      simp only [Array.getElem?_setIfInBounds,splice]
      split
      · rename_i hj; subst hj; rw [hb]
      · rfl
  | v :: vs, w, c, i, hb, hf, hv, hl => by
      simp at hl
      have hlt:b < w.heap.size:=by
        rcases Nat.lt_or_ge b w.heap.size with h|h
        · exact h
        · simp [Array.getElem?_eq_none h] at hb
      have hv0:isCellV v=true:=hv v (by simp)
      have hcell:w.cell? ⟨b,o+i,none⟩=some c[o+i]:=by
        simp [World.cell?,hb]
      have hfz:w.frozen? ⟨b,o+i,none⟩=false:=by
        have:=hf (o+i) (by omega)
        simp [World.frozen?,hb]; omega
      have hset:(w.setCell ⟨b,o+i,none⟩ v).heap=w.heap.setIfInBounds b (.cells (c.setIfInBounds (o+i) v) e fr):=by
        simp only [World.setCell]
        apply Array.ext_getElem?
        intro j
        simp only [Array.getElem?_setIfInBounds,Array.getElem?_modify]
        split
        · rename_i hj; subst hj; rw [hb]; simp
        · rfl
      have hb':(w.setCell ⟨b,o+i,none⟩ v).heap[b]?=some (.cells (c.setIfInBounds (o+i) v) e fr):=by
        rw [hset]; simp [hlt]
      obtain ⟨w',h1,h2,h3⟩:=run_storeCells P b o e fr vs (w.setCell ⟨b,o+i,none⟩ v) (c.setIfInBounds (o+i) v) (i+1) hb' (by simpa using hf) (fun x hx=>hv x (by simp [hx])) (by simp; omega)
      refine ⟨w',?_,?_,h3⟩
      · rw [<-h1]
        simp only [storeCells,add_mk,store,bind,Sem.bind]
        cases v<;>simp [isCellV] at hv0<;>simp [Sem.run,hcell,hfz]
      · rw [h2,hset,show o+(i+1)=o+i+1 by omega]
        simp [splice]
end Abs
end
noncomputable section
namespace Abs
open Go
section inv
variable {n:Nat} {ι:Inj} {H:Imm} {w:Value}
theorem VRel.sc_inv {v:Value} (h:VRel n ι H (.sc v) w):w=v:=by cases h; rfl
theorem VRel.iptr_inv {cs:List AVal} (h:VRel n ι H (.iptr cs) w):∃ b o,w=.pointer (some ⟨b,o,none⟩)/\CRel n ι H (H.cell? b) cs o:=by
 cases h; exact ⟨_,_,rfl,by assumption⟩
theorem VRel.ptr_inv {b i k:Nat} (h:VRel n ι H (.ptr b i k) w):b < n/\w=.pointer (some ⟨(ι b).blk,(ι b).base+i*(ι b).sz+k,none⟩):=by
 cases h; exact ⟨by assumption,rfl⟩
theorem VRel.slice_inv {b off len:Nat} (h:VRel n ι H (.slice b off len) w):∃ cap,w=.slice (some ⟨(ι b).blk,(ι b).base+off*(ι b).sz,none⟩) len cap/\
  b < n/\len<=cap/\off+cap=(ι b).cap:=by cases h; exact ⟨_,rfl,by assumption,by assumption,by assumption⟩
theorem VRel.view_inv {b off len:Nat} (h:VRel n ι H (.view b off len) w):w=.slice (some ⟨(ι b).blk,(ι b).base+off*(ι b).sz,none⟩) len len/\
  b < n/\off+len<=(ι b).cap:=by cases h; exact ⟨rfl,by assumption,by assumption⟩
theorem VRel.endS_inv {b off:Nat} (h:VRel n ι H (.endS b off) w):∃ o cap,w=.slice (some ⟨(ι b).blk,o,none⟩) 0 cap/\
  b < n/\off+cap=(ι b).cap/\(cap≠0->o=(ι b).base+off*(ι b).sz):=by cases h; exact ⟨_,_,rfl,by assumption,by assumption,by assumption⟩
theorem VRel.data_inv {sz:Nat} {t:Bool} {els:List AVal} (h:VRel n ι H (.data sz t els) w):∃ b o cap,w=.slice (some ⟨b,o,none⟩) els.length cap/\els.length<=cap/\
  DRel n ι H (H.cell? b) sz els o/\(t=true->cap=els.length):=by cases h; subst_vars; exact ⟨_,_,_,rfl,by assumption,by assumption,by assumption⟩
theorem VRel.map_inv {b:Nat} (h:VRel n ι H (.map b) w):b < n/\w=.map (some (ι b).blk):=by cases h; exact ⟨by assumption,rfl⟩
theorem VRel.yld_inv {b:Nat} (h:VRel n ι H (.yld b) w):w=.func (.yield (ι b).blk) #[] #[]/\b < n:=by cases h; exact ⟨rfl,by assumption⟩
theorem VRel.func_inv {fn:Fn} {fs cs:List AVal} (h:VRel n ι H (.func fn fs cs) w):∃ fs' cs':List Value,w=.func fn fs'.toArray cs'.toArray/\LRel n ι H fs fs'/\LRel n ι H cs cs':=by
 cases h; exact ⟨_,_,rfl,by assumption,by assumption⟩
theorem VRel.iface_inv {t:TypeId} {v:AVal} (h:VRel n ι H (.iface t v) w):∃ v',w=.iface t v'/\VRel n ι H v v':=by cases h; exact ⟨_,rfl,by assumption⟩
theorem VRel.agg_inv {cs:List AVal} (h:VRel n ι H (.agg cs) w):∃ cs':List Value,w=.agg cs'.toArray/\LRel n ι H cs cs':=by cases h; exact ⟨_,rfl,by assumption⟩
theorem VRel.tuple_inv {cs:List AVal} (h:VRel n ι H (.tuple cs) w):∃ cs':List Value,w=.tuple cs'.toArray/\LRel n ι H cs cs':=by cases h; exact ⟨_,rfl,by assumption⟩
end inv
section types
variable {P:Program} {ty:Nat->Option TyI} (hty:TyOk P ty) {t:TypeId} {i:TyI} (h:ty t=some i) (w:World)
include hty h
theorem run_underlying:(underlying t).run P w=.ok i.desc w:=by
 simp [underlying,(hty t i h).1]
theorem run_isAgg:(isAgg t).run P w=.ok i.isA w:=by
 simp only [isAgg,Sem.run_bind,run_underlying hty h,Result.andThen_ok]
 unfold TyI.isA
 split<;>simp_all
theorem run_typeInfo:∃ info,(typeInfo t).run P w=.ok info w/\info.size=i.size/\info.bytes=i.bytes/\info.zero=some i.zero:=by
 obtain ⟨_,info,h1,h2,h3,h4⟩:=hty t i h
 exact ⟨info,by simp [typeInfo,h1],h2,h3,h4⟩
theorem run_sizeOf:(Go.sizeOf t).run P w=.ok i.size w:=by
 obtain ⟨info,h1,h2,_⟩:=run_typeInfo hty h w
 simp [Go.sizeOf,h1,h2]
theorem run_zeroValue:(zeroValue t).run P w=.ok i.zero w:=by
 obtain ⟨info,h1,h2,h3,h4⟩:=run_typeInfo hty h w
 simp [zeroValue,h1,h4]
theorem run_loadVar (b o:Nat) (hr:i.isA=true) (ws:List Value) (hl:ws.length=i.size) (hg:∀ k,k < i.size->rd w b (o+k)=ws[k]?):
  (loadVar t ⟨b,o,none⟩).run P w=.ok (.agg ws.toArray) w:=by
 simp only [loadVar,Sem.run_bind,run_isAgg hty h,Result.andThen_ok,hr,if_true,run_sizeOf hty h,run_loadCells P w b o i.size ws hl hg,Sem.run_pure]
theorem run_loadVar_one (b o:Nat) (hr:i.isA=false) (v:Value) (hg:rd w b o=some v):
  (loadVar t ⟨b,o,none⟩).run P w=.ok v w:=by
 have:w.cell? ⟨b,o,none⟩=some v:=hg
 simp only [loadVar,Sem.run_bind,run_isAgg hty h,Result.andThen_ok,hr,Bool.false_eq_true,if_false,run_load,this]
end types
def absV:Value->AVal
 | .agg cs=>.agg (cs.toList.map .sc)
 | v=>.sc v
theorem absV_rel (n:Nat) (ι:Inj) (H:Imm) (v:Value):VRel n ι H (absV v) v:=by
 cases v with
 | agg cs=>exact .agg _ cs.toList (LRel.sc _)
 | _=>exact .sc _
def AVal.fit:AVal->Bool
 | .sc (.agg _)=>false
 | _=>true
theorem VRel.cells' {n:Nat} {ι:Inj} {H:Imm} {v:AVal} {w:Value} (h:VRel n ι H v w) (hs:v.fit=true):LRel n ι H v.cells w.cells.toList:=by
 have one:∀ {v:AVal} {w:Value},VRel n ι H v w->v.cells=[v]->w.cells=#[w]->LRel n ι H v.cells w.cells.toList:=by
  intro v w h h1 h2
  rw [h1,h2]; exact .cons _ _ _ _ h .nil
 cases v with
 | agg cs=>obtain ⟨cs',rfl,h'⟩:=h.agg_inv; simpa [AVal.cells,Value.cells] using h'
 | sc v=>obtain rfl:=h.sc_inv; cases w<;>first|exact one h rfl rfl|simp [AVal.fit] at hs
 | ptr b i k=>obtain ⟨_,rfl⟩:=h.ptr_inv; exact one h rfl rfl
 | iptr cs=>obtain ⟨_,_,rfl,_⟩:=h.iptr_inv; exact one h rfl rfl
 | slice b o l=>obtain ⟨_,rfl,_⟩:=h.slice_inv; exact one h rfl rfl
 | view b o l=>obtain ⟨rfl,_⟩:=h.view_inv; exact one h rfl rfl
 | endS b o=>obtain ⟨_,_,rfl,_⟩:=h.endS_inv; exact one h rfl rfl
 | data sz t els=>obtain ⟨_,_,_,rfl,_⟩:=h.data_inv; exact one h rfl rfl
 | map b=>obtain ⟨_,rfl⟩:=h.map_inv; exact one h rfl rfl
 | yld b=>obtain ⟨rfl,_⟩:=h.yld_inv; exact one h rfl rfl
 | func fn fs cs=>obtain ⟨_,_,rfl,_⟩:=h.func_inv; exact one h rfl rfl
 | iface t v=>obtain ⟨_,rfl,_⟩:=h.iface_inv; exact one h rfl rfl
 | tuple cs=>obtain ⟨_,rfl,_⟩:=h.tuple_inv; exact one h rfl rfl
def AVal.isCell:AVal->Bool
 | .agg _|.tuple _=>false
 | .sc v=>isCellV v
 | _=>true
theorem VRel.isCell {n:Nat} {ι:Inj} {H:Imm} {v:AVal} {w:Value} (h:VRel n ι H v w) (hs:v.isCell=true):isCellV w=true:=by
 cases h<;>simp_all [AVal.isCell,isCellV]
theorem LRel.isCell {n:Nat} {ι:Inj} {H:Imm}:∀ {vs:List AVal} {ws:List Value},LRel n ι H vs ws->vs.all AVal.isCell=true->∀ w∈ws,isCellV w=true
  | _,_,.nil,_,_,h=>by simp at h
  | _, _, .cons v w vs ws h hs, ha, x, hx => by
      simp at ha hx
      rcases hx with rfl|hx
      · exact h.isCell ha.1
      · exact hs.isCell (by simpa using ha.2) x hx
def loadCs (isA:Bool) (m k:Nat) (cs:List AVal):Option AVal:=
 if isA then (if k+m<=cs.length then some (.agg ((cs.drop k).take m)) else none) else cs[k]?
def aLoad (isA:Bool) (m:Nat) (p:AVal) (σ:AStore):Option AVal:=
 match p with
 | .iptr cs=>loadCs isA m 0 cs
 | .ptr b i k=>
  match σ.get b with
  | some (.cells _ els)=>
   match els[i]? with
   | some e=>loadCs isA m k e.cells
   | none=>none
  | _=>none
 | _=>none
theorem loadCs_sound {P:Program} {ty:Nat->Option TyI} (hty:TyOk P ty) {t:TypeId} {i:TyI} (h:ty t=some i) {n:Nat} {ι:Inj} {H:Imm} {w:World} {b o k:Nat}
  {cs:List AVal} {v:AVal} (hc:CRel n ι H (rd w b) cs o) (hl:loadCs i.isA i.size k cs=some v):
  ∃ v',(loadVar t ⟨b,o+k,none⟩).run P w=.ok v' w/\VRel n ι H v v':=by
 unfold loadCs at hl
 by_cases hA:i.isA=true
 ·rw [if_pos hA] at hl
  split at hl
  ·rename_i hk
   cases hl
   obtain ⟨ws,h1,h2⟩:=((hc.drop k).take i.size).list
   have hlen:((cs.drop k).take i.size).length=i.size:=by simp; omega
   rw [hlen] at h2
   exact ⟨_,run_loadVar hty h w b (o+k) hA ws (by rw [<-h1.length,hlen]) h2,.agg _ _ h1⟩
  ·cases hl
 ·rw [if_neg hA] at hl
  obtain ⟨v',h1,h2⟩:=hc.get hl
  exact ⟨v',run_loadVar_one hty h w b (o+k) (by simpa using hA) v' h1,h2⟩
theorem BlkRel.cells_rd {n:Nat} {ι:Inj} {H:Imm} {w:World} {p:Place} {sz:Nat} {els:List AVal} (h:BlkRel n ι H w p (.cells sz els)):
  p.sz=sz/\DRel n ι H (rd w p.blk) sz els p.base:=by
 obtain ⟨h1,_,c,e,fr,h2,_,_,h3,_⟩:=h
 exact ⟨h1,by rw [rd_cells h2]; exact h3⟩
theorem aLoad_sound {E:Env} {t:TypeId} {i:TyI} (h:E.ty t=some i) {ι:Inj} {H:Imm} {σ:AStore} {w:World} (hR:Rel E ι H σ w)
  {p:AVal} {p':Value} (hp:VRel σ.next ι H p p') {v:AVal} (hl:aLoad i.isA i.size p σ=some v):
  ∃ v',(Instr.loadAt t p').run E.P w=.ok v' w/\VRel σ.next ι H v v':=by
 unfold aLoad at hl
 split at hl
 ·obtain ⟨b,o,rfl,hc⟩:=hp.iptr_inv
  have hc':CRel σ.next ι H (rd w b) _ o:=hc.ext (Ext.refl _ _ _) (rd_imm hR.imm b)
  obtain ⟨v',h1,h2⟩:=loadCs_sound E.ok h hc' hl
  exact ⟨v',by simpa [Instr.loadAt,Instr.sureAddr] using h1,h2⟩
 ·rename_i b j k
  obtain ⟨hb,rfl⟩:=hp.ptr_inv
  split at hl
  ·rename_i sz els hg
   split at hl
   ·rename_i e he
    obtain ⟨hs,hd⟩:=(hR.live b _ hg).1.cells_rd
    obtain ⟨h1,h2⟩:=hd.get he
    obtain ⟨v',h3,h4⟩:=loadCs_sound E.ok h h1 hl
    refine ⟨v',?_,h4⟩
    rw [hs]
    simpa [Instr.loadAt,Instr.sureAddr] using h3
   ·cases hl
  ·cases hl
 ·cases hl
def spliceL (cs:List AVal) (k:Nat):List AVal->List AVal
 | []=>cs
 | v::vs=>spliceL (cs.set k v) (k+1) vs
theorem spliceL_length:∀ (vs cs:List AVal) (k:Nat),(spliceL cs k vs).length=cs.length
 | [],_,_=>rfl
 | v::vs,cs,k=>by rw [spliceL,spliceL_length vs]; simp
theorem spliceL_get : ∀ (vs cs : List AVal) (o i : Nat), o + vs.length ≤ cs.length →
    (spliceL cs o vs)[i]?=if o<=i/\i < o+vs.length then vs[i - o]? else cs[i]?
  | [],cs,o,i,_=>by simp [spliceL]; intro h1 h2; omega
  | v :: vs, cs, o, i, h => by
      simp at h
      rw [spliceL,spliceL_get vs _ _ _ (by simp; omega)]
      by_cases h1:o+1<=i/\i < o+1+vs.length
      · rw [if_pos h1,if_pos (by simp; omega)]
        rw [show i - o=(i - (o+1))+1 by omega]; simp
      · rw [if_neg h1]
        by_cases h2:o=i
        · subst h2
          rw [if_pos (by simp)]
          simp [show o < cs.length by omega]
        · rw [if_neg (by simp; omega)]
          simp [h2]
def storeEl (e:AVal) (k:Nat) (vs:List AVal):AVal:=
 match e with
 | .agg cs=>.agg (spliceL cs k vs)
 | e=>(vs[0]?).getD e
theorem storeEl_cells {e:AVal} {k:Nat} {vs:List AVal} (hk:k+vs.length<=e.cells.length) (h0:0 < vs.length) (hc:vs.all AVal.isCell=true):
  (storeEl e k vs).cells=spliceL e.cells k vs:=by
 by_cases he:e.isAgg=true
 ·cases e with
  | agg cs=>rfl
  | _=>simp [AVal.isAgg] at he
 ·have he':e.isAgg=false:=by simpa using he
  rw [AVal.cells_one he'] at hk ⊢
  simp at hk
  obtain rfl:k=0:=by omega
  match vs,h0,hk,hc with
  | [x],_,_,hc=>
   have:storeEl e 0 [x]=x:=by cases e<;>first|rfl|simp [AVal.isAgg] at he
   rw [this]
   simp at hc
   cases x<;>simp_all [AVal.isCell,AVal.cells,spliceL]
  | x::y::zs,_,hk,_=>simp at hk
def aStore (m:Nat) (p v:AVal) (σ:AStore):Option AStore:=
 match p with
 | .ptr b i k=>
  match σ.get b with
  | some (.cells sz els)=>
   match els[i]? with
   | some e=>
    if v.cells.length=m/\0 < m/\k+m<=e.cells.length/\v.cells.all AVal.isCell=true then some (σ.set b (.cells sz (els.set i (storeEl e k v.cells)))) else none
   | none=>none
  | _=>none
 | _=>none
theorem CRel.congr {n : Nat} {ι : Inj} {H : Imm} {g g' : Nat → Option Value} : ∀ {vs : List AVal} {o : Nat}, CRel n ι H g vs o →
    (∀ k,o<=k->k < o+vs.length->g' k=g k)->CRel n ι H g' vs o
  | _,_,.nil _ o,_=>.nil _ o
  | _, _, .cons _ v w vs o ho h hs, hg => .cons g' v w vs o (by rw [hg o (Nat.le_refl _) (by simp), ho]) h
      (hs.congr (fun k h1 h2=>hg k (by omega) (by simp; omega)))
theorem DRel.upd {n:Nat} {ι:Inj} {H:Imm} {g g':Nat->Option Value} {els:List AVal} {sz o i:Nat} {e':AVal} (h:DRel n ι H g sz els o)
  (hg:∀ j,(j < o+i*sz\/o+i*sz+sz<=j)->g' j=g j) (he:CRel n ι H g' e'.cells (o+i*sz)) (hl:e'.cells.length=sz):
  DRel n ι H g' sz (els.set i e') o:=by
 apply DRel.of_get
 intro j x hx
 rw [List.getElem?_set] at hx
 split at hx
 ·rename_i hij
  split at hx
  ·cases hx; subst hij; exact ⟨he,hl⟩
  ·cases hx
 ·rename_i hij
  obtain ⟨h1,h2⟩:=h.get hx
  refine ⟨h1.congr ?_,h2⟩
  intro k hk1 hk2
  apply hg
  rcases Nat.lt_or_gt_of_ne hij with hlt|hlt
  ·right
   have:(i+1)*sz<=j*sz:=Nat.mul_le_mul_right _ hlt
   rw [Nat.add_mul] at this; omega
  ·left
   have:(j+1)*sz<=i*sz:=Nat.mul_le_mul_right _ hlt
   rw [Nat.add_mul] at this; omega
theorem CRel.of_getElem {n : Nat} {ι : Inj} {H : Imm} {g : Nat → Option Value} : ∀ {vs : List AVal} {o : Nat},
    (∀ k v,vs[k]?=some v->∃ w,g (o+k)=some w/\VRel n ι H v w)->CRel n ι H g vs o
  | [],_,_=>.nil _ _
  | v :: vs, o, h => by
      obtain ⟨w,h1,h2⟩:=h 0 v (by simp)
      refine .cons g v w vs o (by simpa using h1) h2 (CRel.of_getElem ?_)
      intro k x hx
      obtain ⟨w',h3,h4⟩:=h (k+1) x (by simpa using hx)
      exact ⟨w',by rw [show o+1+k=o+(k+1) by omega]; exact h3,h4⟩
theorem aStore_sound {E:Env} {t:TypeId} {i:TyI} (h:E.ty t=some i) {ι:Inj} {H:Imm} {σ σ':AStore} {w:World} (hR:Rel E ι H σ w)
  {p v:AVal} {p' v':Value} (hp:VRel σ.next ι H p p') (hv:VRel σ.next ι H v v') (hs:aStore i.size p v σ=some σ'):
  ∃ w',(Instr.storeAt t p' v').run E.P w=.ok () w'/\Rel E ι H σ' w'/\σ'.next=σ.next:=by
 unfold aStore at hs
 split at hs
 ·rename_i b j k
  obtain ⟨hb,rfl⟩:=hp.ptr_inv
  split at hs
  ·rename_i sz els hg
   split at hs
   ·rename_i e he
    split at hs
    ·rename_i hc
     obtain ⟨hc1,hc2,hc3,hc4⟩:=hc
     cases hs
     obtain ⟨hb1,hb2,hb3⟩:=hR.live b _ hg
     obtain ⟨g1,g2,c,el,fr,g3,gf,g4,g5,g6⟩:=hb1
     have hfit:v.fit=true:=by
      cases v with
      | sc x=>cases x<;>simp_all [AVal.fit,AVal.cells,AVal.isCell,isCellV]
      | _=>rfl
     have hcs:=hv.cells' hfit
     have hws:=hcs.isCell hc4
     have hlen:v'.cells.toList.length=i.size:=by rw [<-hcs.length,hc1]
     have hjl:j < els.length:=by
      rcases Nat.lt_or_ge j els.length with h'|h'
      ·exact h'
      ·simp [List.getElem?_eq_none h'] at he
     obtain ⟨q1,q2⟩:=g5.get he
     have hin:(ι b).base+j*sz+k+v'.cells.toList.length<=c.size:=by
      have:(j+1)*sz<=(ι b).cap*sz:=Nat.mul_le_mul_right _ (by omega)
      rw [Nat.add_mul] at this
      omega
     obtain ⟨w',r1,r2,r3⟩:=run_storeCells E.P (ι b).blk ((ι b).base+j*(ι b).sz+k) el fr v'.cells.toList w c 0 g3 gf hws (by rw [g1]; omega)
     refine ⟨w',?_,?_,rfl⟩
     ·have hsz:v'.cells.size=i.size:=by simpa using hlen
      simp [Instr.storeAt,Instr.sureAddr,storeVar,run_sizeOf E.ok h,hsz,r1]
     ·have hheap:w'.heap[(ι b).blk]?=some (.cells (splice c ((ι b).base+j*(ι b).sz+k) v'.cells.toList) el fr):=by
       rw [r2]; simp [hb3]
      refine hR.set_cells hg (by rw [r2]; simp) ?_ r3 hheap ?_
      ·intro c' hne
       rw [r2]; simp [Ne.symm hne]
      ·refine ⟨g1,by simpa using g2,_,_,fr,hheap,by rw [splice_size]; exact gf,by rw [splice_size]; exact g4,?_,g6⟩
       rw [g1]
       have hspl:=splice_get v'.cells.toList c ((ι b).base+j*sz+k)
       have hse:(storeEl e k v.cells).cells=spliceL e.cells k v.cells:=storeEl_cells (by omega) (by omega) hc4
       refine DRel.upd g5 ?_ ?_ ?_
       ·intro x hx
        show (splice c ((ι b).base+j*sz+k) v'.cells.toList)[x]?=c[x]?
        rw [hspl x (by omega),if_neg (by omega)]
       ·rw [hse]
        apply CRel.of_getElem
        intro x y hy
        show ∃ w_1,(splice c ((ι b).base+j*sz+k) v'.cells.toList)[(ι b).base+j*sz+x]?=some w_1/\VRel σ.next ι H y w_1
        rw [hspl _ (by omega)]
        rw [spliceL_get _ _ _ _ (by omega)] at hy
        by_cases hx:k<=x/\x < k+v.cells.length
        ·rw [if_pos hx] at hy
         rw [if_pos (by omega)]
         obtain ⟨u,u1,u2⟩:=hcs.get hy
         exact ⟨u,by rw [show (ι b).base+j*sz+x - ((ι b).base+j*sz+k)=x - k by omega]; exact u1,u2⟩
        ·rw [if_neg hx] at hy
         rw [if_neg (by omega)]
         exact q1.get hy
       ·rw [hse,spliceL_length]; exact q2
    ·cases hs
   ·cases hs
  ·cases hs
 ·cases hs
end Abs
end
noncomputable section
namespace Abs
open Go
def SndV (E:Env) (ι:Inj) (H:Imm) (σ:AStore) (r:Result Value) (v:AVal) (σ':AStore):Prop:=
 ∃ v' w' ι' H',r=.ok v' w'/\VRel σ'.next ι' H' v v'/\Rel E ι' H' σ' w'/\Ext σ.next ι H σ'.next ι' H'
def SndT (tg:Bool) (el:Nat) (E:Env) (ι:Inj) (H:Imm) (σ:AStore) (r:Result Value) (v:AVal) (σ':AStore):Prop:=
 ∃ v' w' ι' H',r=.ok v' w'/\VRel σ'.next ι' H' v v'/\Rel E ι' H' σ' w'/\Ext σ.next ι H σ'.next ι' H'/\(tg=true->σ'.next=σ.next+1->(ι' σ.next).el=el/\(ι' σ.next).base=0)
theorem SndT.snd {tg:Bool} {el:Nat} {E:Env} {ι:Inj} {H:Imm} {σ σ':AStore} {r:Result Value} {v:AVal} (h:SndT tg el E ι H σ r v σ'):SndV E ι H σ r v σ':=by
 obtain ⟨v',w',ι',H',h1,h2,h3,h4,_⟩:=h
 exact ⟨v',w',ι',H',h1,h2,h3,h4⟩
def tagNew (tg:Bool) (t:Nat) (σ:AStore):Option (AVal×AStore)->Option (AVal×AStore)
 | some (p,σ')=>match tg && Nat.beq σ'.next (Nat.succ σ.next) with
  | true=>some (p,σ'.tag σ.next t)
  | false=>some (p,σ')
 | none=>none
theorem SndT.tag {tg:Bool} {el:Nat} {E:Env} {ι:Inj} {H:Imm} {σ σ':AStore} {r:Result Value} {v:AVal} {o:Option (AVal×AStore)} (h:∀ v σ',o=some (v,σ')->SndT tg el E ι H σ r v σ') (ho:tagNew tg el σ o=some (v,σ')):
  SndV E ι H σ r v σ':=by
 unfold tagNew at ho
 split at ho
 ·rename_i p σ1
  split at ho
  ·rename_i hc
   cases ho
   rw [Bool.and_eq_true] at hc
   have hn:σ1.next=σ.next+1:=Nat.eq_of_beq_eq_true hc.2
   obtain ⟨v',w',ι',H',h1,h2,h3,h4,h5⟩:=h _ _ rfl
   obtain ⟨g1,g2⟩:=h5 hc.1 hn
   exact ⟨v',w',ι',H',h1,h2,h3.tag (by omega) g1 g2,h4⟩
  ·cases ho
   exact (h _ _ rfl).snd
 ·cases ho
theorem tagNew_false {t:Nat} {σ:AStore}:∀ {o:Option (AVal×AStore)},tagNew false t σ o=o
 | some _=>rfl
 | none=>rfl
theorem SndT.weak {tg:Bool} {el:Nat} {E:Env} {ι:Inj} {H:Imm} {σ σ':AStore} {r:Result Value} {v:AVal} (h:SndT tg el E ι H σ r v σ'):SndT false el E ι H σ r v σ':=by
 obtain ⟨v',w',ι',H',h1,h2,h3,h4,_⟩:=h
 exact ⟨v',w',ι',H',h1,h2,h3,h4,fun hh=>by cases hh⟩
theorem SndT.same {tg:Bool} {el:Nat} {E:Env} {ι:Inj} {H:Imm} {σ:AStore} {w:World} (hR:Rel E ι H σ w) {r:Result Value} {v:AVal} {v':Value} (hr:r=.ok v' w)
  (hv:VRel σ.next ι H v v'):SndT tg el E ι H σ r v σ:=⟨v',w,ι,H,hr,hv,hR,Ext.refl _ _ _,fun _ hh=>by omega⟩
theorem SndV.same {E:Env} {ι:Inj} {H:Imm} {σ:AStore} {w:World} (hR:Rel E ι H σ w) {r:Result Value} {v:AVal} {v':Value} (hr:r=.ok v' w)
  (hv:VRel σ.next ι H v v'):SndV E ι H σ r v σ:=⟨v',w,ι,H,hr,hv,hR,Ext.refl _ _ _⟩
def hasTy (l:List (Nat×Nat)) (b t:Nat):Bool:=l.any fun p=>Nat.beq p.1 b && Nat.beq p.2 t
theorem hasTy_mem {l:List (Nat×Nat)} {b t:Nat} (h:hasTy l b t=true):(b,t)∈l:=by
 unfold hasTy at h
 rw [List.any_eq_true] at h
 obtain ⟨⟨x,y⟩,h1,h2⟩:=h
 rw [Bool.and_eq_true] at h2
 obtain rfl:=Nat.eq_of_beq_eq_true h2.1
 obtain rfl:=Nat.eq_of_beq_eq_true h2.2
 exact h1
def tagS (σ:AStore) (s:AVal) (el:Nat):Bool:=
 match s with
 | .sc (.slice none 0 0)=>true
 | .slice b 0 _=>hasTy σ.tys b el
 | _=>false
theorem Rel.give {E:Env} {ι:Inj} {H:Imm} {σ:AStore} {w:World} (h:Rel E ι H σ w) {b:Nat} {x:ABlk} (hb:σ.get b=some x) {o:Obj} (ho:∀ es clock,o≠.map es clock):
  Rel E ι H (σ.del b) {w with heap:=w.heap.setIfInBounds (ι b).blk o}:=by
 obtain ⟨l1,l2,l3⟩:=h.live b _ hb
 have hget:∀ b' y,(σ.del b).get b'=some y->b'≠b/\σ.get b'=some y:=by
  intro b' y hy
  rw [AStore.get_del] at hy
  split at hy
  ·cases hy
  ·rename_i hne; exact ⟨hne,hy⟩
 refine ⟨?_,?_,?_,h.glob,⟨h.keep.1,h.keep.2⟩,h.tys⟩
 ·intro c o' hc
  have hne:(ι b).blk≠c:=by intro e; subst e; rw [l2] at hc; cases hc
  simp [hne,h.imm c o' hc]
 ·intro b' y hy
  obtain ⟨hne,hy⟩:=hget b' y hy
  obtain ⟨h1,h2,h3⟩:=h.live b' _ hy
  have hne':(ι b).blk≠(ι b').blk:=fun hc=>hne (h.inj b b' _ _ hb hy hc).symm
  refine ⟨?_,h2,by simpa using h3⟩
  cases y with
  | miter m since seen=>
   obtain ⟨⟨g0,g0',g0''⟩,s',se',st2,q1,q2,q3,q4⟩:=h1
   refine ⟨⟨g0,by simpa using g0',g0''⟩,s',se',st2,by simp [hne']; exact q1,q2,q3,?_⟩
   intro es clock hh
   by_cases hm:(ι b).blk=(ι m).blk
   ·rw [<-hm] at hh
    simp [l3] at hh
    exact absurd hh (ho es clock)
   ·simp [hm] at hh
    exact q4 es clock hh
  | _=>exact BlkRel.ext (Ext.refl _ _ _) h1 (by simp [hne']) (by simp) (by simp)
 ·intro b1 b2 x1 x2 h1 h2 hh
  exact h.inj b1 b2 x1 x2 (hget _ _ h1).2 (hget _ _ h2).2 hh
section
variable {E:Env} {ι:Inj} {H:Imm} {σ σ':AStore} {w:World}
def aNew (v:AVal) (σ:AStore):Option (AVal×AStore):=
 if v.fit then some (.ptr σ.next 0 0,σ.alloc (.cells v.cells.length [v])) else none
theorem CRel.of_LRel {n:Nat} {ι:Inj} {H:Imm} {vs:List AVal} {c:Array Value} (h:LRel n ι H vs c.toList):CRel n ι H (c[·]?) vs 0:=
 CRel.of_list h (fun k _=>by simp)
theorem DRel.single {n:Nat} {ι:Inj} {H:Imm} {g:Nat->Option Value} {v:AVal} {o sz:Nat} (h:CRel n ι H g v.cells o) (hs:v.cells.length=sz):DRel n ι H g sz [v] o:=by
 apply DRel.of_get
 intro i e he
 match i,he with
 | 0,he=>simp at he; subst he; simpa using ⟨h,hs⟩
 | i+1,he=>simp at he
theorem aNew_sound (hR:Rel E ι H σ w) (t:TypeId) {v p:AVal} {v':Value} (hv:VRel σ.next ι H v v') (h:aNew v σ=some (p,σ')):
  SndT true t E ι H σ ((do pure (.pointer (some (<-newVar t v'))):Sem Value).run E.P w) p σ':=by
 unfold aNew at h
 split at h
 ·rename_i hf
  cases h
  have hc:=hv.cells' hf
  refine ⟨.pointer (some ⟨w.heap.size,0,none⟩),{w with heap:=w.heap.push (.cells v'.cells t)},upd ι σ.next ⟨w.heap.size,0,v.cells.length,1,t⟩,H,rfl,?_,?_,Ext.upd _ _ _ _,fun _ _=>by simp [upd_self]⟩
  ·have:=VRel.ptr (n:=(σ.alloc (.cells v.cells.length [v])).next) (ι:=upd ι σ.next ⟨w.heap.size,0,v.cells.length,1,t⟩) (H:=H) σ.next 0 0 (by simp [AStore.alloc])
   simpa [upd_self] using this
  ·refine hR.alloc rfl ?_
   refine ⟨rfl,by simp,v'.cells,t,(0,0),by simp,?_,?_,?_,rfl⟩
   ·intro o _; simp
   ·have:=hc.length; simp at this; simp [this]
   ·exact DRel.single (CRel.of_LRel hc) rfl
 ·cases h
def aField (off:Nat) (p:AVal):Option AVal:=
 match p with
 | .ptr b i k=>some (.ptr b i (k+off))
 | .iptr cs=>some (.iptr (cs.drop off))
 | _=>none
theorem aField_sound (hR:Rel E ι H σ w) {s:TypeId} {i:TyI} (hs:E.ty s=some i) {fs:Array Field} (hd:i.desc=.struct fs) {f:Nat} {fd:Field} (hf:fs[f]?=some fd)
  {j:TyI} (ht:E.ty fd.type=some j) (hj:j.size≠0) {p q:AVal} {p':Value} (hp:VRel σ.next ι H p p') (h:aField fd.offset p=some q):
  SndV E ι H σ ((Instr.fieldAt s p' f).run E.P w) q σ:=by
 unfold aField at h
 split at h
 ·rename_i b i k
  obtain ⟨hb,rfl⟩:=hp.ptr_inv
  cases h
  refine SndV.same hR (v':=.pointer (some ⟨(ι b).blk,(ι b).base+i*(ι b).sz+(k+fd.offset),none⟩)) ?_ (.ptr _ _ _ hb)
  simp [Instr.fieldAt,run_underlying E.ok hs,hd,hf,Instr.sureAddr,fieldPlace,run_sizeOf E.ok ht,hj,add_mk,Nat.add_assoc]
 ·rename_i cs
  obtain ⟨b,o,rfl,hc⟩:=hp.iptr_inv
  cases h
  refine SndV.same hR (v':=.pointer (some ⟨b,o+fd.offset,none⟩)) ?_ (.iptr _ _ _ (hc.drop _))
  simp [Instr.fieldAt,run_underlying E.ok hs,hd,hf,Instr.sureAddr,fieldPlace,run_sizeOf E.ok ht,hj,add_mk]
 ·cases h
def aIdx (ix:AVal) (len:Nat):Option Nat:=
 match ix with
 | .sc (.int _ i)=>if 0<=i/\i < len then some i.toNat else none
 | _=>none
theorem aIdx_some {ix:AVal} {len j:Nat} (h:aIdx ix len=some j):∃ k i,ix=.sc (.int k i)/\0<=i/\i < len/\j=i.toNat:=by
 unfold aIdx at h
 split at h
 ·rename_i k i
  split at h
  ·rename_i hc; cases h; exact ⟨k,i,rfl,hc.1,hc.2,rfl⟩
  ·cases h
 ·cases h
def aIndexS (sz:Nat) (x ix:AVal) (σ:AStore):Option AVal:=
  match x with
  | .slice b off len=>
    match σ.get b with
    | some (.cells sz' _)=>if sz'=sz then (aIdx ix len).map fun j=>.ptr b (off+j) 0 else none
    | _=>none
  | .view b off len=>
    match σ.get b with
    | some (.cells sz' _)=>if sz'=sz then (aIdx ix len).map fun j=>.ptr b (off+j) 0 else none
    | _=>none
  | .data sz' _ els => if sz' = sz then
      match aIdx ix els.length with
      | some j=>(els[j]?).map fun e=>.iptr e.cells
      | none=>none
    else none
  | _=>none
theorem aIndexS_sound (hR:Rel E ι H σ w) {t:TypeId} {i:TyI} (hs:E.ty t=some i) {el:TypeId} (hd:i.desc=.slice el) {j:TyI} (ht:E.ty el=some j)
  {x ix q:AVal} {x' ix':Value} (hx:VRel σ.next ι H x x') (hix:VRel σ.next ι H ix ix') (h:aIndexS j.size x ix σ=some q):
  SndV E ι H σ ((Instr.indexAt t x' ix').run E.P w) q σ:=by
 unfold aIndexS at h
 split at h
 ·rename_i b off len
  obtain ⟨cap,rfl,hb,hl,hcap⟩:=hx.slice_inv
  split at h
  ·rename_i sz' els hg
   split at h
   ·rename_i hsz
    subst hsz
    cases hm:aIdx ix len with
    | none=>simp [hm] at h
    | some m=>
     simp [hm] at h
     subst h
     obtain ⟨k,z,rfl,h0,h1,rfl⟩:=aIdx_some hm
     obtain rfl:=hix.sc_inv
     have hsz:=((hR.live b _ hg).1).1
     refine SndV.same hR (v':=.pointer (some ⟨(ι b).blk,(ι b).base+(off+z.toNat)*(ι b).sz+0,none⟩)) ?_ (.ptr _ _ _ hb)
     simp [Instr.indexAt,asIntOf,run_underlying E.ok hs,hd,h0,h1,run_sizeOf E.ok ht,add_mk,hsz,Nat.add_mul,Nat.add_assoc]
   ·cases h
  ·cases h
 ·rename_i b off len
  obtain ⟨rfl,hb,hcap⟩:=hx.view_inv
  split at h
  ·rename_i sz' els hg
   split at h
   ·rename_i hsz
    subst hsz
    cases hm:aIdx ix len with
    | none=>simp [hm] at h
    | some m=>
     simp [hm] at h
     subst h
     obtain ⟨k,z,rfl,h0,h1,rfl⟩:=aIdx_some hm
     obtain rfl:=hix.sc_inv
     have hsz:=((hR.live b _ hg).1).1
     refine SndV.same hR (v':=.pointer (some ⟨(ι b).blk,(ι b).base+(off+z.toNat)*(ι b).sz+0,none⟩)) ?_ (.ptr _ _ _ hb)
     simp [Instr.indexAt,asIntOf,run_underlying E.ok hs,hd,h0,h1,run_sizeOf E.ok ht,add_mk,hsz,Nat.add_mul,Nat.add_assoc]
   ·cases h
  ·cases h
 ·rename_i sz' tt els
  obtain ⟨b,o,cap,rfl,hl,hD,_⟩:=hx.data_inv
  split at h
  ·rename_i hsz
   subst hsz
   split at h
   ·rename_i m hm
    obtain ⟨k,z,rfl,h0,h1,rfl⟩:=aIdx_some hm
    obtain rfl:=hix.sc_inv
    cases he:els[z.toNat]? with
    | none=>simp [he] at h
    | some e=>
     simp [he] at h
     subst h
     obtain ⟨q1,q2⟩:=hD.get he
     refine SndV.same hR (v':=.pointer (some ⟨b,o+z.toNat*j.size,none⟩)) ?_ (.iptr _ _ _ q1)
     simp [Instr.indexAt,asIntOf,run_underlying E.ok hs,hd,h0,h1,run_sizeOf E.ok ht,add_mk]
   ·cases h
  ·cases h
 ·cases h
def aIndexA (len sz:Nat) (x ix:AVal):Option AVal:=
 match aIdx ix len with
 | some j=>aField (j*sz) x
 | none=>none
theorem aIndexA_sound (hR:Rel E ι H σ w) {t:TypeId} {i:TyI} (hs:E.ty t=some i) {len:Nat} {el:TypeId} (hd:i.desc=.array len el) {j:TyI} (ht:E.ty el=some j)
  {x ix q:AVal} {x' ix':Value} (hx:VRel σ.next ι H x x') (hix:VRel σ.next ι H ix ix') (h:aIndexA len j.size x ix=some q):
  SndV E ι H σ ((Instr.indexAt t x' ix').run E.P w) q σ:=by
 unfold aIndexA at h
 split at h
 ·rename_i m hm
  obtain ⟨k,z,rfl,h0,h1,rfl⟩:=aIdx_some hm
  obtain rfl:=hix.sc_inv
  unfold aField at h
  split at h
  ·rename_i b i k
   obtain ⟨hb,rfl⟩:=hx.ptr_inv
   cases h
   refine SndV.same hR (v':=.pointer (some ⟨(ι b).blk,(ι b).base+i*(ι b).sz+(k+z.toNat*j.size),none⟩)) ?_ (.ptr _ _ _ hb)
   simp [Instr.indexAt,asIntOf,Instr.sureAddr,run_underlying E.ok hs,hd,h0,h1,run_sizeOf E.ok ht,add_mk,Nat.add_assoc]
  ·rename_i cs
   obtain ⟨b,o,rfl,hc⟩:=hx.iptr_inv
   cases h
   refine SndV.same hR (v':=.pointer (some ⟨b,o+z.toNat*j.size,none⟩)) ?_ (.iptr _ _ _ (hc.drop _))
   simp [Instr.indexAt,asIntOf,Instr.sureAddr,run_underlying E.ok hs,hd,h0,h1,run_sizeOf E.ok ht,add_mk]
  ·cases h
 ·cases h
def aPart (isA:Bool) (m k:Nat) (x:AVal):Option AVal:=
 match x with
 | .agg cs=>loadCs isA m k cs
 | _=>none
theorem run_part {t:TypeId} {i:TyI} (ht:E.ty t=some i) {n:Nat} {cs:List AVal} {cs':List Value} (h:LRel n ι H cs cs') {k:Nat} {v:AVal} (hl:loadCs i.isA i.size k cs=some v):
  ∃ v',(part t cs'.toArray k).run E.P w=.ok v' w/\VRel n ι H v v':=by
 unfold loadCs at hl
 by_cases hA:i.isA=true
 ·rw [if_pos hA] at hl
  split at hl
  ·rename_i hk
   cases hl
   refine ⟨.agg ((cs'.drop k).take i.size).toArray,?_,.agg _ _ ((h.drop k).take i.size)⟩
   simp [part,run_isAgg E.ok ht,hA,run_sizeOf E.ok ht,List.extract_toArray]
  ·cases hl
 ·rw [if_neg hA] at hl
  obtain ⟨v',h1,h2⟩:=h.get hl
  refine ⟨v',?_,h2⟩
  simp [part,run_isAgg E.ok ht,hA,h1]
theorem aPart_field_sound (hR:Rel E ι H σ w) {s:TypeId} {i:TyI} (hs:E.ty s=some i) {fs:Array Field} (hd:i.desc=.struct fs) {f:Nat} {fd:Field} (hf:fs[f]?=some fd)
  {j:TyI} (ht:E.ty fd.type=some j) {x q:AVal} {x':Value} (hx:VRel σ.next ι H x x') (h:aPart j.isA j.size fd.offset x=some q):
  SndV E ι H σ ((Instr.field s x' f).run E.P w) q σ:=by
 unfold aPart at h
 split at h
 ·obtain ⟨cs',rfl,hc⟩:=hx.agg_inv
  obtain ⟨v',h1,h2⟩:=run_part (E:=E) (w:=w) ht hc h
  refine SndV.same hR (v':=v') ?_ h2
  simp [Instr.field,run_underlying E.ok hs,hd,hf,asAgg,h1]
 ·cases h
def aIndexV (len:Nat) (isA:Bool) (m:Nat) (x ix:AVal):Option AVal:=
 match aIdx ix len with
 | some j=>aPart isA m (j*m) x
 | none=>none
theorem aIndexV_sound (hR:Rel E ι H σ w) {t:TypeId} {i:TyI} (hs:E.ty t=some i) {len:Nat} {el:TypeId} (hd:i.desc=.array len el) {j:TyI} (ht:E.ty el=some j)
  {x ix q:AVal} {x' ix':Value} (hx:VRel σ.next ι H x x') (hix:VRel σ.next ι H ix ix') (h:aIndexV len j.isA j.size x ix=some q):
  SndV E ι H σ ((Instr.index t x' ix').run E.P w) q σ:=by
 unfold aIndexV at h
 split at h
 ·rename_i m hm
  obtain ⟨k,z,rfl,h0,h1,rfl⟩:=aIdx_some hm
  obtain rfl:=hix.sc_inv
  unfold aPart at h
  split at h
  ·obtain ⟨cs',rfl,hc⟩:=hx.agg_inv
   obtain ⟨v',g1,g2⟩:=run_part (E:=E) (w:=w) ht hc h
   refine SndV.same hR (v':=v') ?_ g2
   simp [Instr.index,asIntOf,run_underlying E.ok hs,hd,h0,h1,run_sizeOf E.ok ht,g1]
  ·cases h
 ·cases h
def aIndexStr (x ix:AVal):Option AVal:=
 match x,ix with
 | .sc (.string s),.sc (.int _ i)=>if 0<=i then (s[i.toNat]?).map fun b=>.sc (.int .u8 b.toNat) else none
 | _,_=>none
theorem aIndexStr_sound (hR:Rel E ι H σ w) {t:TypeId} {i:TyI} (hs:E.ty t=some i) (hd:i.desc=.string)
  {x ix q:AVal} {x' ix':Value} (hx:VRel σ.next ι H x x') (hix:VRel σ.next ι H ix ix') (h:aIndexStr x ix=some q):
  SndV E ι H σ ((Instr.index t x' ix').run E.P w) q σ:=by
 unfold aIndexStr at h
 split at h
 ·rename_i s k z
  obtain rfl:=hx.sc_inv
  obtain rfl:=hix.sc_inv
  split at h
  ·rename_i h0
   cases hz:s[z.toNat]? with
   | none=>simp [hz] at h
   | some b=>
    simp [hz] at h
    subst h
    refine SndV.same hR (v':=.int .u8 b.toNat) ?_ (.sc _)
    simp [Instr.index,asIntOf,run_underlying E.ok hs,hd,h0,hz]
  ·cases h
 ·cases h
end
end Abs
end
noncomputable section
namespace Abs
open Go
section
variable {E:Env} {ι:Inj} {H:Imm} {σ σ':AStore} {w:World}
theorem foldl_splice (off : Nat) : ∀ (vs : List Value) (c : Array Value) (k : Nat),
    (vs.zipIdx k).foldl (fun cs (x:Value×Nat)=>cs.setIfInBounds (off+x.2) x.1) c=splice c (off+k) vs
  | [],c,k=>by simp [splice]
  | v :: vs, c, k => by
      simp only [List.zipIdx_cons,List.foldl_cons]
      rw [foldl_splice off vs _ (k+1),splice]
      rfl
theorem fill_cons (place:Nat->Option (Nat×Nat)) (cells:Array Value) (i:Nat) (v:Value) (rest:List (Nat×Value)) {off size:Nat} (hp:place i=some (off,size))
  (hs:v.cells.size=size) (hl:off+size<=cells.size):
  Instr.fill place cells ((i,v)::rest)=Instr.fill place (splice cells off v.cells.toList) rest:=by
 have h1:¬ (decide (v.cells.size≠size) || decide (off+v.cells.size > cells.size))=true:=by simp; omega
 simp only [Instr.fill,hp]
 rw [if_neg h1]
 congr 1
 rw [<-Array.foldl_toList,Array.toList_zipIdx,foldl_splice off _ _ 0]
 rfl
theorem LRel.splice {n : Nat} : ∀ {vs us : List AVal} {ws : List Value} {c : Array Value} {k : Nat}, LRel n ι H us c.toList → LRel n ι H vs ws →
    LRel n ι H (spliceL us k vs) (splice c k ws).toList
  | _,_,_,_,_,h,.nil=>h
  | _, us, _, c, k, h, .cons v w vs ws hv hs => by
      have:=(h.set k hv)
      rw [show c.toList.set k w=(c.setIfInBounds k w).toList by simp] at this
      exact this.splice hs
def aFill (place:Nat->Option (Nat×Nat)) (cells:List AVal):List (Nat×AVal)->Option (List AVal)
 | []=>some cells
 | (i,v)::rest=>
  match place i with
  | none=>none
  | some (off,size)=>if v.cells.length=size/\off+size<=cells.length/\v.fit=true then aFill place (spliceL cells off v.cells) rest else none
inductive PRel (n:Nat) (ι:Inj) (H:Imm):List (Nat×AVal)->List (Nat×Value)->Prop
 | nil:PRel n ι H [] []
 | cons (i:Nat) (v:AVal) (w:Value) (vs:List (Nat×AVal)) (ws:List (Nat×Value)) (h:VRel n ι H v w) (hs:PRel n ι H vs ws):PRel n ι H ((i,v)::vs) ((i,w)::ws)
theorem aFill_sound {n : Nat} (place : Nat → Option (Nat × Nat)) : ∀ {parts : List (Nat × AVal)} {parts' : List (Nat × Value)} {cells cs : List AVal} {cells' : Array Value},
    PRel n ι H parts parts'->LRel n ι H cells cells'.toList->aFill place cells parts=some cs->
    ∃ cs',Instr.fill place cells' parts'=some cs'/\LRel n ι H cs cs'.toList
  | _,_,_,_,cells',.nil,h,hf=>by simp [aFill] at hf; subst hf; exact ⟨cells',rfl,h⟩
  | _, _, cells, cs, cells', .cons i v w vs ws hv hs, h, hf => by
      unfold aFill at hf
      split at hf
      · cases hf
      · rename_i off size hp
        split at hf
        · rename_i hc
          have hcs:=hv.cells' hc.2.2
          have h1:w.cells.size=size:=by have:=hcs.length; simp at this; omega
          have h2:off+size<=cells'.size:=by have:=h.length; simp at this; omega
          rw [fill_cons place cells' i w ws hp h1 h2]
          exact aFill_sound place hs (h.splice hcs) hf
        · cases hf
def aZero (z:Value):List AVal:=(absV z).cells
theorem aZero_rel (n:Nat) (z:Value):LRel n ι H (aZero z) z.cells.toList:=by
 cases z with
 | agg cs=>simpa [aZero,absV,AVal.cells,Value.cells] using LRel.sc cs.toList
 | _=>exact .cons _ _ _ _ (.sc _) .nil
def fieldPlaces (ty:Nat->Option TyI) (fs:Array Field):Option (List (Nat×Nat)):=
 fs.toList.mapM fun f=>(ty f.type).map fun j=>(f.offset,j.size)
def aBuildS (ty:Nat->Option TyI) (fs:Array Field) (z:Value) (parts:List (Nat×AVal)):Option AVal:=
 match fieldPlaces ty fs with
 | some ps=>(aFill (ps[·]?) (aZero z) parts).map .agg
 | none=>none
theorem run_places : ∀ (fs : List Field) (ps : List (Nat × Nat)), fs.mapM (fun f => (E.ty f.type).map fun j => (f.offset, j.size)) = some ps →
    (fs.mapM (fun f=>do pure (f.offset,<-Go.sizeOf f.type)):Sem (List (Nat×Nat))).run E.P w=.ok ps w
  | [],ps,h=>by simp at h; subst h; simp
  | f :: fs, ps, h => by
      simp only [List.mapM_cons] at h
      cases hf:E.ty f.type with
      | none=>simp [hf] at h
      | some j=>
        cases hr:fs.mapM (fun f=>(E.ty f.type).map fun j=>(f.offset,j.size)) with
        | none=>simp [hf,hr] at h
        | some qs=>
          simp [hf,hr] at h
          subst h
          have:=run_places fs qs hr
          simp only [List.mapM_cons,Sem.run_bind,run_sizeOf E.ok hf,Result.andThen_ok,Sem.run_pure,this]
theorem aBuildS_sound (hR : Rel E ι H σ w) {t : TypeId} {i : TyI} (ht : E.ty t = some i) {fs : Array Field} (hd : i.desc = .struct fs) {parts : List (Nat × AVal)} {parts' : Array (Nat × Value)}
    (hp:PRel σ.next ι H parts parts'.toList) {v:AVal} (h:aBuildS E.ty fs i.zero parts=some v):SndV E ι H σ ((Instr.build t parts').run E.P w) v σ:=by
  unfold aBuildS at h
  split at h
  · rename_i ps hps
    cases hf:aFill (ps[·]?) (aZero i.zero) parts with
    | none=>simp [hf] at h
    | some cs=>
      simp [hf] at h
      subst h
      obtain ⟨cs',h1,h2⟩:=aFill_sound _ hp (aZero_rel σ.next i.zero) hf
      refine SndV.same hR (v':=.agg cs') ?_ (by simpa using VRel.agg cs _ h2)
      have hpl:=run_places (w:=w) fs.toList ps hps
      have hpl':(fs.mapM (fun f=>do pure (f.offset,<-Go.sizeOf f.type)):Sem (Array (Nat×Nat))).run E.P w=.ok ps.toArray w:=by
        have e : (fs.mapM (fun f => do pure (f.offset, ← Go.sizeOf f.type)) : Sem (Array (Nat × Nat))) =
            List.toArray <$> (fs.toList.mapM (fun f=>do pure (f.offset,<-Go.sizeOf f.type)):Sem (List (Nat×Nat))):=by
          obtain ⟨l⟩:=fs
          simp
        rw [e,Sem.run_map,hpl]; rfl
      simp only [Instr.build,Sem.run_bind,run_zeroValue E.ok ht,Result.andThen_ok,run_underlying E.ok ht,hd,hpl']
      have e2:(fun x:Nat=>ps.toArray[x]?)=(fun x=>ps[x]?):=by funext x; simp
      rw [e2,h1]
      rfl
  · cases h
def aBuildA (sz:Nat) (z:Value) (parts:List (Nat×AVal)):Option AVal:=
 (aFill (fun i=>some (i*sz,sz)) (aZero z) parts).map .agg
theorem aBuildA_sound (hR:Rel E ι H σ w) {t:TypeId} {i:TyI} (ht:E.ty t=some i) {len:Nat} {el:TypeId} (hd:i.desc=.array len el) {j:TyI} (hj:E.ty el=some j)
  {parts:List (Nat×AVal)} {parts':Array (Nat×Value)}
  (hp:PRel σ.next ι H parts parts'.toList) {v:AVal} (h:aBuildA j.size i.zero parts=some v):SndV E ι H σ ((Instr.build t parts').run E.P w) v σ:=by
 unfold aBuildA at h
 cases hf:aFill (fun i=>some (i*j.size,j.size)) (aZero i.zero) parts with
 | none=>simp [hf] at h
 | some cs=>
  simp [hf] at h
  subst h
  obtain ⟨cs',h1,h2⟩:=aFill_sound _ hp (aZero_rel σ.next i.zero) hf
  refine SndV.same hR (v':=.agg cs') ?_ (by simpa using VRel.agg cs _ h2)
  simp only [Instr.build,Sem.run_bind,run_zeroValue E.ok ht,Result.andThen_ok,run_underlying E.ok ht,hd,run_sizeOf E.ok hj]
  rw [h1]
  rfl
theorem Rel.newRow (hR:Rel E ι H σ w) (el:TypeId) {c:Array Value} {sz cap len:Nat} {els:List AVal} (hD:DRel σ.next ι H (c[·]?) sz els 0) (hc:cap*sz<=c.size) (hl:els.length<=cap)
  (hlen:len<=cap) {fr:Nat×Nat} (hfr:FrOk c.size fr):
  ∃ ι',Rel E ι' H (σ.alloc (.cells sz els)) {w with heap:=w.heap.push (.cells c el fr)}/\Ext σ.next ι H (σ.next+1) ι' H/\
   VRel (σ.next+1) ι' H (.slice σ.next 0 len) (.slice (some ⟨w.heap.size,0,none⟩) len cap)/\(ι' σ.next).el=el/\(ι' σ.next).base=0:=by
 refine ⟨upd ι σ.next ⟨w.heap.size,0,sz,cap,el⟩,?_,Ext.upd _ _ _ _,?_,by simp [upd_self],by simp [upd_self]⟩
 ·refine hR.alloc rfl ?_
  exact ⟨rfl,hl,c,el,fr,by simp,hfr,by simpa using hc,hD,rfl⟩
 ·have:=VRel.slice (n:=σ.next+1) (ι:=upd ι σ.next ⟨w.heap.size,0,sz,cap,el⟩) (H:=H) σ.next 0 len cap (by omega) hlen (by simp [upd_self])
  simpa [upd_self] using this
theorem FrOk.zero (m:Nat):FrOk m (0,0):=by intro o _; simp
theorem zeros_get (z:Array Value) (n o:Nat) (hz:0 < z.size) (ho:o < n):((Array.range n).map (z[· % z.size]!))[o]?=z[o % z.size]?:=by
 have:o % z.size < z.size:=Nat.mod_lt _ hz
 simp [ho,this]
theorem DRel.replicate {n:Nat} {g:Nat->Option Value} {z:Value} {m:Nat} (hg:∀ o,o < m*z.cells.size->g o=z.cells[o % z.cells.size]?):
  DRel n ι H g z.cells.size (List.replicate m (absV z)) 0:=by
 apply DRel.of_get
 intro i e he
 have hi:i < m:=by
  rcases Nat.lt_or_ge i m with h|h
  ·exact h
  ·simp [h] at he
 rw [List.getElem?_replicate,if_pos hi] at he
 cases he
 have hr:=aZero_rel (ι:=ι) (H:=H) n z
 refine ⟨?_,by have:=hr.length; simpa [aZero] using this⟩
 refine CRel.of_list hr ?_
 intro k hk
 simp at hk
 have:(i+1)*z.cells.size<=m*z.cells.size:=Nat.mul_le_mul_right _ hi
 rw [Nat.add_mul] at this
 rw [hg _ (by omega)]
 simp [Nat.mod_eq_of_lt hk]
end
end Abs
end
noncomputable section
namespace Abs
open Go
section
variable {E:Env} {ι:Inj} {H:Imm} {σ σ':AStore} {w:World}
def TyI.okz (i:TyI):Bool:=i.zero.cells.size==i.size
theorem splice_upd {n:Nat} {c:Array Value} {sz i:Nat} {els:List AVal} {e:AVal} {ws:List Value} (hD:DRel n ι H (c[·]?) sz els 0) (he:LRel n ι H e.cells ws) (hs:e.cells.length=sz)
  (hi:i*sz+sz<=c.size):DRel n ι H ((splice c (i*sz) ws)[·]?) sz (els.set i e) 0:=by
 have hl:ws.length=sz:=by rw [<-he.length,hs]
 have hsp:=splice_get ws c (i*sz)
 refine DRel.upd hD ?_ ?_ hs
 ·intro j hj
  show (splice c (i*sz) ws)[j]?=c[j]?
  rw [hsp j (by omega),if_neg (by omega)]
 ·apply CRel.of_list he
  intro k hk
  show (splice c (i*sz) ws)[0+i*sz+k]?=ws[k]?
  rw [hsp _ (by omega),if_pos (by omega)]
  congr 1; omega
def aSetParts (sz len:Nat) (els:List AVal):List (Nat×AVal)->Option (List AVal)
 | []=>some els
 | (i,v)::rest=>if v.cells.length=sz/\v.fit=true/\i < len then aSetParts sz len (els.set i v) rest else none
theorem aSetParts_sound {n sz len : Nat} : ∀ {parts : List (Nat × AVal)} {parts' : List (Nat × Value)} {els els' : List AVal} {c : Array Value},
    PRel n ι H parts parts'->DRel n ι H (c[·]?) sz els 0->c.size=len*sz->aSetParts sz len els parts=some els'->
    ∃ c',Instr.fill (fun i=>some (i*sz,sz)) c parts'=some c'/\DRel n ι H (c'[·]?) sz els' 0/\c'.size=c.size/\els'.length=els.length
  | _,_,_,_,c,.nil,hD,_,h=>by simp [aSetParts] at h; subst h; exact ⟨c,rfl,hD,rfl,rfl⟩
  | _, _, els, els', c, .cons i v w vs ws hv hs, hD, hc, h => by
      unfold aSetParts at h
      split at h
      · rename_i hh
        have hcs:=hv.cells' hh.2.1
        have h1:w.cells.size=sz:=by have:=hcs.length; simp at this; omega
        have h2:i*sz+sz<=c.size:=by
          have:(i+1)*sz<=len*sz:=Nat.mul_le_mul_right _ hh.2.2
          rw [Nat.add_mul] at this; omega
        rw [fill_cons _ c i w ws rfl h1 h2]
        obtain ⟨c',q1,q2,q3,q4⟩:=aSetParts_sound (len:=len) hs (splice_upd hD hcs hh.1 h2) (by rw [splice_size]; exact hc) h
        exact ⟨c',q1,q2,by rw [q3,splice_size],by rw [q4]; simp⟩
      · cases h
def aBuildSlice (j:TyI) (len:Nat) (parts:List (Nat×AVal)) (σ:AStore):Option (AVal×AStore):=
 if j.okz=true/\j.size≠0/\len*j.size<=2 ^ 24 then
  (aSetParts j.size len (List.replicate len (absV j.zero)) parts).map fun els=>(.slice σ.next 0 len,σ.alloc (.cells j.size els))
 else none
theorem run_buildSlice {n : Nat} {t : TypeId} {i : TyI} (ht : E.ty t = some i) {el : TypeId} (hd : i.desc = .slice el) {j : TyI} (hj : E.ty el = some j) {len : Nat}
    {parts:List (Nat×AVal)} {parts':Array (Nat×Value)} (hp:PRel n ι H parts parts'.toList) (hz:j.okz=true) (hs:j.size≠0) (hb:len*j.size<=2 ^ 24) {els:List AVal}
    (hf:aSetParts j.size len (List.replicate len (absV j.zero)) parts=some els):
    ∃ c':Array Value,(Instr.buildSlice t len parts').run E.P w=.ok (.slice (some ⟨w.heap.size,0,none⟩) len len) {w with heap:=w.heap.push (.cells c' el)}/\
      DRel n ι H (c'[·]?) j.size els 0/\c'.size=len*j.size/\els.length=len:=by
  have hz':j.zero.cells.size=j.size:=by simpa [TyI.okz] using hz
  have key : ∀ z0 : Array Value, (len * j.size = 0 ∨ z0 = j.zero.cells) → ∃ c', Instr.fill (fun i => some (i * j.size, j.size)) ((Array.range (len * j.size)).map (z0[· % z0.size]!)) parts'.toList = some c' ∧
      DRel n ι H (c'[·]?) j.size els 0/\c'.size=len*j.size/\els.length=len:=by
    intro z0 hz0
    have hD0:DRel n ι H (((Array.range (len*j.size)).map (z0[· % z0.size]!))[·]?) j.size (List.replicate len (absV j.zero)) 0:=by
      rcases hz0 with h0|rfl
      · have:len=0:=by
          rcases Nat.mul_eq_zero.1 h0 with h|h
          · exact h
          · exact absurd h hs
        subst this
        exact .nil _ _ _
      · have:=DRel.replicate (ι:=ι) (H:=H) (n:=n) (z:=j.zero) (m:=len) (g:=fun o=>((Array.range (len*j.size)).map (j.zero.cells[· % j.zero.cells.size]!))[o]?) (by
          intro o ho
          rw [hz'] at ho
          exact zeros_get _ _ _ (by omega) ho)
        rw [hz'] at this
        rw [hz']
        exact this
    obtain ⟨c',q1,q2,q3,q4⟩:=aSetParts_sound (len:=len) hp hD0 (by simp) hf
    exact ⟨c',q1,q2,by rw [q3]; simp,by rw [q4]; simp⟩
  have hb':¬ (2 ^ 24 < len*j.size):=by omega
  simp only [Instr.buildSlice,Sem.run_bind,run_underlying E.ok ht,Result.andThen_ok,hd,run_sizeOf E.ok hj]
  rw [if_neg (by simpa using hb')]
  by_cases h0:len*j.size=0
  · obtain ⟨c',q1,q2,q3,q4⟩:=key #[] (.inl h0)
    simp only [if_pos h0,Sem.run_bind,Sem.run_pure,Result.andThen_ok,q1]
    exact ⟨c',rfl,q2,q3,q4⟩
  · obtain ⟨c',q1,q2,q3,q4⟩:=key j.zero.cells (.inr rfl)
    simp only [if_neg h0,Sem.run_bind,run_zeroValue E.ok hj,Sem.run_pure,Result.andThen_ok,q1]
    exact ⟨c',rfl,q2,q3,q4⟩
theorem aBuildSlice_sound (hR:Rel E ι H σ w) {t:TypeId} {i:TyI} (ht:E.ty t=some i) {el:TypeId} (hd:i.desc=.slice el) {j:TyI} (hj:E.ty el=some j) {len:Nat}
  {parts:List (Nat×AVal)} {parts':Array (Nat×Value)} (hp:PRel σ.next ι H parts parts'.toList) {v:AVal} (h:aBuildSlice j len parts σ=some (v,σ')):
  SndV E ι H σ ((Instr.buildSlice t len parts').run E.P w) v σ':=by
 unfold aBuildSlice at h
 split at h
 ·rename_i hc
  obtain ⟨hz,hs,hb⟩:=hc
  cases hf:aSetParts j.size len (List.replicate len (absV j.zero)) parts with
  | none=>simp [hf] at h
  | some els=>
   simp [hf] at h
   obtain ⟨rfl,rfl⟩:=h
   obtain ⟨c',q1,q2,q3,q4⟩:=run_buildSlice (w:=w) ht hd hj hp hz hs hb hf
   obtain ⟨ι',r1,r2,r3,_⟩:=hR.newRow el (cap:=len) (len:=len) q2 (by omega) (by omega) (Nat.le_refl _) (FrOk.zero _)
   exact ⟨_,_,ι',H,q1,r3,r1,r2⟩
 ·cases h
def Imm.with (H:Imm) (b:Nat) (o:Obj):Imm:=fun c=>if c=b then some (true,o) else H c
theorem Rel.frozen (hR:Rel E ι H σ w) (o:Obj):Rel E ι (H.with w.heap.size o) σ {w with heap:=w.heap.push o}/\Ext σ.next ι H σ.next ι (H.with w.heap.size o):=by
 have hH:∀ c o',H c=some o'->c < w.heap.size:=by
  intro c o' hc
  have:=hR.imm c o' hc
  rcases Nat.lt_or_ge c w.heap.size with h'|h'
  ·exact h'
  ·simp [Array.getElem?_eq_none h'] at this
 have hLe:H.Le (H.with w.heap.size o):=by
  intro c o' hc
  have:=hH c o' hc
  simp [Imm.with,Nat.ne_of_lt this,hc]
 have he:Ext σ.next ι H σ.next ι (H.with w.heap.size o):=⟨Nat.le_refl _,fun _ _=>rfl,hLe⟩
 have hlt:∀ (c:Nat),c < w.heap.size->(w.heap.push o)[c]?=w.heap[c]?:=by
  intro c hc
  simp [Array.getElem?_push,Nat.ne_of_lt hc]
 refine ⟨⟨?_,?_,hR.inj,fun g=>(hR.glob g).ext he,hR.keep,hR.tys⟩,he⟩
 ·intro c o' hc
  simp only [Imm.with] at hc
  split at hc
  ·rename_i e; cases hc; subst e; simp
  ·rw [hlt c (hH c o' hc)]; exact hR.imm c o' hc
 ·intro b x hb
  obtain ⟨h1,h2,h3⟩:=hR.live b x hb
  refine ⟨h1.ext he (hlt _ h3) (by simp) ?_,by simp [Imm.with,Nat.ne_of_lt h3,h2],by simp; omega⟩
  intro m since seen hy
  subst hy
  exact hlt _ h1.1.2.1
def aLitSlice (j:TyI) (len:Nat) (parts:List (Nat×AVal)):Option AVal:=
 if j.okz=true/\j.size≠0/\len*j.size<=2 ^ 24 then
  (aSetParts j.size len (List.replicate len (absV j.zero)) parts).map fun els=>.data j.size true els
 else none
theorem aLitSlice_sound (hR:Rel E ι H σ w) {t:TypeId} {i:TyI} (ht:E.ty t=some i) {el:TypeId} (hd:i.desc=.slice el) {j:TyI} (hj:E.ty el=some j) {len:Nat}
  {parts:List (Nat×AVal)} {parts':Array (Nat×Value)} (hp:PRel σ.next ι H parts parts'.toList) {v:AVal} (h:aLitSlice j len parts=some v):
  SndV E ι H σ ((Instr.buildSlice t len parts').run E.P w) v σ:=by
 unfold aLitSlice at h
 split at h
 ·rename_i hc
  obtain ⟨hz,hs,hb⟩:=hc
  cases hf:aSetParts j.size len (List.replicate len (absV j.zero)) parts with
  | none=>simp [hf] at h
  | some els=>
   simp [hf] at h
   subst h
   obtain ⟨c',q1,q2,q3,q4⟩:=run_buildSlice (w:=w) ht hd hj hp hz hs hb hf
   obtain ⟨r1,r2⟩:=hR.frozen (.cells c' el)
   refine ⟨_,_,ι,H.with w.heap.size (.cells c' el),q1,?_,r1,r2⟩
   refine .data _ _ _ _ _ _ _ q4.symm (Nat.le_refl _) (fun _=>rfl) ?_
   refine q2.ext r2 ?_
   intro o v ho
   have ho':c'[o]?=some v:=ho
   simp [Imm.cell?,Imm.with,ho']
 ·cases h
def aMakeSlice (j:TyI) (l c:AVal) (σ:AStore):Option (AVal×AStore):=
 match l,c with
 | .sc (.int _ l),.sc (.int _ c)=>
  if j.okz=true/\j.size≠0/\0<=l/\l<=c/\j.bytes*c<=2 ^ 48/\c < 2 ^ 62 then
   some (.slice σ.next 0 l.toNat,σ.alloc (.cells j.size (List.replicate c.toNat (absV j.zero))))
  else none
 | _,_=>none
theorem wrap64_small {x:Int} (h0:0<=x) (h1:x < 2 ^ 62):IntKind.i64.wrap x=x:=by
 simp only [IntKind.wrap,IntKind.bits,IntKind.signed]
 have:x % 2 ^ 64=x:=by omega
 simp only [this]
 simp; omega
theorem aMakeSlice_sound (hR : Rel E ι H σ w) {t : TypeId} {i : TyI} (ht : E.ty t = some i) {el : TypeId} (hd : i.desc = .slice el) {j : TyI} (hj : E.ty el = some j)
    {l c v:AVal} {l' c':Value} (hl:VRel σ.next ι H l l') (hc:VRel σ.next ι H c c') (h:aMakeSlice j l c σ=some (v,σ')):
    SndV E ι H σ ((Instr.makeSlice t l' c').run E.P w) v σ':=by
  unfold aMakeSlice at h
  split at h
  · rename_i k l k' c
    obtain rfl:=hl.sc_inv
    obtain rfl:=hc.sc_inv
    split at h
    · rename_i hh
      obtain ⟨hz,hs,h0,h1,h2,h3⟩:=hh
      cases h
      have hz':j.zero.cells.size=j.size:=by simpa [TyI.okz] using hz
      obtain ⟨info,hi1,hi2,hi3,hi4⟩:=run_typeInfo E.ok hj w
      have hwl:IntKind.i64.wrap l=l:=wrap64_small h0 (by omega)
      have hwc:IntKind.i64.wrap c=c:=wrap64_small (by omega) h3
      have hnot:¬ ((decide (c < 0) || decide (2 ^ 48 < (j.bytes:Int)*c) || decide (l < 0) || decide (c < l))=true):=by simp; omega
      have fin : ∀ c0 : Array Value, c0 = (Array.range (c.toNat * j.size)).map (j.zero.cells[· % j.zero.cells.size]!) → 
          SndV E ι H σ (.ok (.slice (some ⟨w.heap.size,0,none⟩) l.toNat c.toNat) {w with heap:=w.heap.push (.cells c0 el)}) (.slice σ.next 0 l.toNat)
            (σ.alloc (.cells j.size (List.replicate c.toNat (absV j.zero)))):=by
        intro c0 hc0
        have hD:DRel σ.next ι H (c0[·]?) j.size (List.replicate c.toNat (absV j.zero)) 0:=by
          have:=DRel.replicate (ι:=ι) (H:=H) (n:=σ.next) (z:=j.zero) (m:=c.toNat) (g:=fun o=>c0[o]?) (by
            intro o ho
            rw [hz'] at ho
            show c0[o]?=_
            rw [hc0]
            exact zeros_get _ _ _ (by omega) ho)
          rw [hz'] at this
          exact this
        obtain ⟨ι',r1,r2,r3,_⟩:=hR.newRow el (cap:=c.toNat) (len:=l.toNat) hD (by simp [hc0]) (by simp) (by omega) (FrOk.zero _)
        exact ⟨_,_,ι',H,rfl,r3,r1,r2⟩
      simp only [Instr.makeSlice,Sem.run_bind,run_underlying E.ok ht,Result.andThen_ok,hd,asInt,asIntOf,Sem.run_pure,hi1,hi3,hwl,hwc]
      have e1:(decide (c < 0) || decide ((j.bytes:Int)*c > 2 ^ 48) || decide (l < 0) || decide (l > c))=false:=by simpa using hnot
      simp only [e1,Bool.false_eq_true,if_false,Sem.run_bind,run_askRoom,Result.andThen_ok,run_sizeOf E.ok hj]
      by_cases hn:c.toNat*j.size=0
      · have hempty:∀ f:Nat->Value,(Array.range (c.toNat*j.size)).map f=#[]:=by intro f; rw [hn]; simp
        have:=fin _ rfl
        simp only [hempty] at this
        rw [if_pos hn]
        show SndV E ι H σ (Sem.run E.P (do
          let a <-newRow el ((Array.range (c.toNat*j.size)).map fun x=>(#[]:Array Value)[x % (#[]:Array Value).size]!)
          pure (Value.slice (some a) l.toNat c.toNat)) w) _ _
        rw [hempty]
        exact this
      · simp only [if_neg hn,Sem.run_bind,run_zeroValue E.ok hj,Sem.run_pure,Result.andThen_ok]
        exact fin _ rfl
    · cases h
  · cases h
end
end Abs
end
noncomputable section
namespace Abs
open Go
section
variable {E:Env} {ι:Inj} {H:Imm} {σ σ':AStore} {w:World}
def optInt:Option AVal->Option (Option Int)
 | none=>some none
 | some (.sc (.int _ n))=>some (some n)
 | _=>none
def aBounds (len:Nat) (lo hi:Option AVal):Option (Nat×Nat):=
 match optInt lo,optInt hi with
 | some lo,some hi=>
  let l:=lo.getD 0
  let h:=hi.getD len
  if 0<=l/\l<=h/\h<=len then some (l.toNat,h.toNat) else none
 | _,_=>none
inductive ORel (n:Nat) (ι:Inj) (H:Imm):Option AVal->Option Value->Prop
 | none:ORel n ι H none none
 | some (v:AVal) (w:Value) (h:VRel n ι H v w):ORel n ι H (some v) (some w)
theorem optInt_some {n:Nat} {x:Option AVal} {x':Option Value} (h:ORel n ι H x x') {r:Option Int} (hr:optInt x=some r):
  (x'=none/\r=none)\/∃ k z,x'=some (.int k z)/\r=some z:=by
 cases h with
 | none=>simp [optInt] at hr; exact .inl ⟨rfl,hr.symm⟩
 | some v w hv=>
  unfold optInt at hr
  split at hr
  ·simp at*
  ·rename_i k z he
   simp at he
   subst he
   cases hr
   exact .inr ⟨k,z,by rw [hv.sc_inv],rfl⟩
  ·cases hr
theorem run_sliceBounds {n:Nat} {lo hi:Option AVal} {lo' hi':Option Value} (hlo:ORel n ι H lo lo') (hhi:ORel n ι H hi hi') {len cap l h:Nat} (isS:Bool) (hcap:len<=cap)
  (hb:aBounds len lo hi=some (l,h)) (P:Program):(Instr.sliceBounds isS len cap lo' hi' none).run P w=.ok (l,h,cap) w/\l<=h/\h<=len:=by
 unfold aBounds at hb
 split at hb
 ·rename_i zl zh hl hh
  simp only [] at hb
  split at hb
  ·rename_i hc
   obtain ⟨h1,h2,h3⟩:=hc
   cases hb
   refine ⟨?_,by omega,by omega⟩
   rcases optInt_some hlo hl with ⟨rfl,rfl⟩|⟨k,z,rfl,rfl⟩<;>rcases optInt_some hhi hh with ⟨rfl,rfl⟩|⟨k',z',rfl,rfl⟩
   ·simp [Instr.sliceBounds]
   ·simp at h1 h2 h3
    have:0<=z'/\z'<=(cap:Int):=by omega
    simp [Instr.sliceBounds,Instr.sliceBound,asIntOf,this]
   ·simp at h1 h2 h3
    simp [Instr.sliceBounds,Instr.sliceBound,asIntOf,h1,h2]
   ·simp at h1 h2 h3
    have:0<=z'/\z'<=(cap:Int):=by omega
    have h5:0<=z/\z<=(z'.toNat:Int):=by omega
    simp [Instr.sliceBounds,Instr.sliceBound,asIntOf,this]
    intro hc
    exact absurd hc (by omega)
  ·cases hb
 ·cases hb
def aSliceStr (x:AVal) (lo hi:Option AVal):Option AVal:=
 match x with
 | .sc (.string s)=>(aBounds s.size lo hi).map fun p=>.sc (.string (s.extract p.1 p.2))
 | _=>none
theorem aSliceStr_sound (hR:Rel E ι H σ w) {t:TypeId} {i:TyI} (hs:E.ty t=some i) (hd:i.desc=.string) {x v:AVal} {x':Value} (hx:VRel σ.next ι H x x')
  {lo hi:Option AVal} {lo' hi':Option Value} (hlo:ORel σ.next ι H lo lo') (hhi:ORel σ.next ι H hi hi') (h:aSliceStr x lo hi=some v):
  SndV E ι H σ ((Instr.sliceAt t x' lo' hi' none).run E.P w) v σ:=by
 unfold aSliceStr at h
 split at h
 ·rename_i s
  obtain rfl:=hx.sc_inv
  cases hb:aBounds s.size lo hi with
  | none=>simp [hb] at h
  | some p=>
   obtain ⟨l,hh⟩:=p
   simp [hb] at h
   subst h
   obtain ⟨h1,_,_⟩:=run_sliceBounds (w:=w) hlo hhi false (Nat.le_refl _) hb E.P
   refine SndV.same hR (v':=.string (s.extract l hh)) ?_ (.sc _)
   simp [Instr.sliceAt,Instr.slice,run_underlying E.ok hs,hd,h1]
 ·cases h
def aSlice (sz:Nat) (x:AVal) (lo hi:Option AVal) (σ:AStore):Option AVal:=
 match x with
 | .slice b off len=>
  match σ.get b with
  | some (.cells sz' _)=>
   if sz'=sz then
    match aBounds len lo hi with
    | some (l,h)=>if l≠0/\l=h/\off+l=(off+len) then some (.endS b (off+l)) else if l≠0/\l=h then some (.data sz false []) else some (.slice b (off+l) (h - l))
    | none=>none
   else none
  | _=>none
 | .data sz' t els=>
  if sz'=sz then
   match aBounds els.length lo hi with
   | some (l,h)=>some (.data sz (t && h==els.length) ((els.drop l).take (h - l)))
   | none=>none
  else none
 | .sc (.slice none 0 0)=>
  match aBounds 0 lo hi with
  | some _=>some (.sc (.slice none 0 0))
  | none=>none
 | _=>none
theorem DRel.drop {n:Nat} {g:Nat->Option Value} {sz:Nat} {els:List AVal} {o:Nat} (h:DRel n ι H g sz els o) (k:Nat):DRel n ι H g sz (els.drop k) (o+k*sz):=by
 apply DRel.of_get
 intro i e he
 rw [List.getElem?_drop] at he
 have:=h.get he
 rw [Nat.add_mul,<-Nat.add_assoc] at this
 exact this
theorem DRel.take {n:Nat} {g:Nat->Option Value} {sz:Nat} {els:List AVal} {o:Nat} (h:DRel n ι H g sz els o) (k:Nat):DRel n ι H g sz (els.take k) o:=by
 apply DRel.of_get
 intro i e he
 rw [List.getElem?_take] at he
 split at he
 ·exact h.get he
 ·cases he
theorem run_sliceAt {t:TypeId} {i:TyI} (hs:E.ty t=some i) {el:TypeId} (hd:i.desc=.slice el) {j:TyI} (hj:E.ty el=some j) {a:Option Addr} {len cap:Nat} {lo' hi':Option Value}
  {l h:Nat} (h1:(Instr.sliceBounds true len cap lo' hi' none).run E.P w=.ok (l,h,cap) w):
  (Instr.sliceAt t (.slice a len cap) lo' hi' none).run E.P w=.ok (.slice (if cap=l then a else a.map (·.add (l*j.size))) (h - l) (cap - l)) w:=by
 simp [Instr.sliceAt,Instr.slice,run_underlying E.ok hs,hd,h1,run_sizeOf E.ok hj]
def aSlice3 (sz:Nat) (x:AVal) (lo hi mx:Option AVal) (σ:AStore):Option AVal:=
 match lo,hi,mx with
 | some (.sc (.int _ l)),some (.sc (.int _ h)),some (.sc (.int _ m))=>
  if 0<=l/\l < h/\h=m then
   match x with
   | .slice b off len=>
    match σ.get b with
    | some (.cells sz' els)=>if sz'=sz/\m.toNat<=len/\off+m.toNat<=els.length then some (.view b (off+l.toNat) (h - l).toNat) else none
    | _=>none
   | .view b off len=>
    match σ.get b with
    | some (.cells sz' els)=>if sz'=sz/\m.toNat<=len/\off+m.toNat<=els.length then some (.view b (off+l.toNat) (h - l).toNat) else none
    | _=>none
   | .data sz' _ els=>if sz'=sz/\m.toNat<=els.length then some (.data sz true ((els.drop l.toNat).take (h - l).toNat)) else none
   | _=>none
  else none
 | _,_,_=>none
theorem run_sliceAt3 {t:TypeId} {i:TyI} (hs:E.ty t=some i) {el:TypeId} (hd:i.desc=.slice el) {j:TyI} (hj:E.ty el=some j) {a:Option Addr} {len cap:Nat} {k1 k2 k3:IntKind} {l h:Int}
  (h0:0<=l) (h1:l < h) (h2:h.toNat<=cap):
  (Instr.sliceAt t (.slice a len cap) (some (.int k1 l)) (some (.int k2 h)) (some (.int k3 h))).run E.P w=.ok (.slice (a.map (·.add (l.toNat*j.size))) (h - l).toNat (h - l).toNat) w:=by
 have e1:0<=h:=by omega
 have e2:h<=(cap:Int):=by omega
 have e3:¬ h.toNat=l.toNat:=by omega
 have e4:h.toNat - l.toNat=(h - l).toNat:=by omega
 have e5:max h 0=h:=by omega
 have e6:l<=h:=by omega
 simp [Instr.sliceAt,Instr.slice,Instr.sliceBounds,Instr.sliceBound,asIntOf,run_underlying E.ok hs,hd,run_sizeOf E.ok hj,h0,e1,e2,e3,e4,e5,e6]
theorem aSlice3_sound (hR:Rel E ι H σ w) {t:TypeId} {i:TyI} (hs:E.ty t=some i) {el:TypeId} (hd:i.desc=.slice el) {j:TyI} (hj:E.ty el=some j)
  {x v:AVal} {x':Value} (hx:VRel σ.next ι H x x') {lo hi mx:Option AVal} {lo' hi' mx':Option Value} (hlo:ORel σ.next ι H lo lo') (hhi:ORel σ.next ι H hi hi') (hmx:ORel σ.next ι H mx mx')
  (h:aSlice3 j.size x lo hi mx σ=some v):SndV E ι H σ ((Instr.sliceAt t x' lo' hi' mx').run E.P w) v σ:=by
 unfold aSlice3 at h
 split at h
 ·rename_i k1 l k2 hh k3 m
  cases hlo with
  | some _ lo' hlo=>
  cases hhi with
  | some _ hi' hhi=>
  cases hmx with
  | some _ mx' hmx=>
  obtain rfl:=hlo.sc_inv
  obtain rfl:=hhi.sc_inv
  obtain rfl:=hmx.sc_inv
  split at h
  ·rename_i hc
   obtain ⟨h0,h1,rfl⟩:=hc
   split at h
   ·rename_i b off len
    obtain ⟨cap,rfl,hb,hl,hcap⟩:=hx.slice_inv
    split at h
    ·rename_i sz' els hg
     split at h
     ·rename_i hc2
      obtain ⟨rfl,h2,h3⟩:=hc2
      cases h
      have hsz:=((hR.live b _ hg).1).1
      refine SndV.same hR (v':=.slice (some ⟨(ι b).blk,(ι b).base+(off+l.toNat)*(ι b).sz,none⟩) (hh - l).toNat (hh - l).toNat) ?_ (.view _ _ _ hb (by omega))
      rw [run_sliceAt3 hs hd hj h0 h1 (by omega)]
      simp [add_mk,hsz,Nat.add_mul,Nat.add_assoc]
     ·cases h
    ·cases h
   ·rename_i b off len
    obtain ⟨rfl,hb,hcap⟩:=hx.view_inv
    split at h
    ·rename_i sz' els hg
     split at h
     ·rename_i hc2
      obtain ⟨rfl,h2,h3⟩:=hc2
      cases h
      have hsz:=((hR.live b _ hg).1).1
      refine SndV.same hR (v':=.slice (some ⟨(ι b).blk,(ι b).base+(off+l.toNat)*(ι b).sz,none⟩) (hh - l).toNat (hh - l).toNat) ?_ (.view _ _ _ hb (by omega))
      rw [run_sliceAt3 hs hd hj h0 h1 (by omega)]
      simp [add_mk,hsz,Nat.add_mul,Nat.add_assoc]
     ·cases h
    ·cases h
   ·rename_i sz' tt els
    obtain ⟨b,o,cap,rfl,hl,hD,htt⟩:=hx.data_inv
    split at h
    ·rename_i hc2
     obtain ⟨rfl,h2⟩:=hc2
     cases h
     refine SndV.same hR (v':=.slice (some ⟨b,o+l.toNat*j.size,none⟩) (hh - l).toNat (hh - l).toNat) ?_ (.data _ _ _ _ _ _ _ (by simp; omega) (Nat.le_refl _) (fun _=>rfl) ((hD.drop _).take _))
     rw [run_sliceAt3 hs hd hj h0 h1 (by omega)]
     simp [add_mk]
    ·cases h
   ·cases h
  ·cases h
 ·cases h
theorem Rel.freeze (h:Rel E ι H σ w) {b:Nat} {x:ABlk} (hb:σ.get b=some x) {o:Obj} (ho:w.heap[(ι b).blk]?=some o):
  Rel E ι (H.with (ι b).blk o) (σ.del b) w/\Ext σ.next ι H σ.next ι (H.with (ι b).blk o):=by
 obtain ⟨l1,l2,l3⟩:=h.live b _ hb
 have hLe:H.Le (H.with (ι b).blk o):=by
  intro c o' hc
  have:c≠(ι b).blk:=by intro e; subst e; rw [l2] at hc; cases hc
  simp [Imm.with,this,hc]
 have he:Ext σ.next ι H σ.next ι (H.with (ι b).blk o):=⟨Nat.le_refl _,fun _ _=>rfl,hLe⟩
 have hget:∀ b' y,(σ.del b).get b'=some y->b'≠b/\σ.get b'=some y:=by
  intro b' y hy
  rw [AStore.get_del] at hy
  split at hy
  ·cases hy
  ·rename_i hne; exact ⟨hne,hy⟩
 refine ⟨⟨?_,?_,?_,fun g=>(h.glob g).ext he,h.keep,h.tys⟩,he⟩
 ·intro c o' hc
  simp only [Imm.with] at hc
  split at hc
  ·rename_i e; cases hc; subst e; exact ho
  ·exact h.imm c o' hc
 ·intro b' y hy
  obtain ⟨hne,hy⟩:=hget b' y hy
  obtain ⟨h1,h2,h3⟩:=h.live b' _ hy
  have hne':(ι b').blk≠(ι b).blk:=fun hc=>hne (h.inj b' b _ _ hy hb hc)
  exact ⟨h1.ext he rfl (Nat.le_refl _) (fun _ _ _ _=>rfl),by simp [Imm.with,hne',h2],h3⟩
 ·intro b1 b2 x1 x2 h1 h2 hh
  exact h.inj b1 b2 x1 x2 (hget _ _ h1).2 (hget _ _ h2).2 hh
def aSliceArr (n sz:Nat) (x:AVal) (lo hi:Option AVal) (σ:AStore):Option (AVal×AStore):=
 match x with
 | .ptr b i k=>
  match σ.get b with
  | some (.cells _ els)=>
   match els[i]? with
   | some e=>
    match aBounds n lo hi with
    | some (l,h)=>
     if sz=1/\l < h/\k+n<=e.cells.length/\(e.cells.all fun v=>!v.isAgg)=true then
      some (.data 1 (Nat.beq h n) ((e.cells.drop (k+l)).take (h - l)),σ.del b)
     else none
    | none=>none
   | none=>none
  | _=>none
 | _=>none
theorem DRel.ones {n:Nat} {g:Nat->Option Value}:∀ {cs:List AVal} {o:Nat},CRel n ι H g cs o->(∀ v∈cs,v.isAgg=false)->DRel n ι H g 1 cs o
 | _,_,.nil _ _,_=>.nil _ _ _
 | _,_,.cons _ v w vs o hg h hs,ha=>.one _ v w vs o (ha v (by simp)) hg h (DRel.ones hs (fun v hv=>ha v (by simp [hv])))
theorem aSliceArr_sound (hR:Rel E ι H σ w) {t:TypeId} {i:TyI} (hs:E.ty t=some i) {arr:TypeId} (hd:i.desc=.pointer arr) {ia:TyI} (hia:E.ty arr=some ia) {n:Nat} {el:TypeId} (hda:ia.desc=.array n el)
  {j:TyI} (hj:E.ty el=some j) {x v:AVal} {σ':AStore} {x':Value} (hx:VRel σ.next ι H x x') {lo hi:Option AVal} {lo' hi':Option Value} (hlo:ORel σ.next ι H lo lo') (hhi:ORel σ.next ι H hi hi')
  (h:aSliceArr n j.size x lo hi σ=some (v,σ')):SndV E ι H σ ((Instr.sliceAt t x' lo' hi' none).run E.P w) v σ':=by
 unfold aSliceArr at h
 split at h
 ·rename_i b q k
  obtain ⟨hb,rfl⟩:=hx.ptr_inv
  split at h
  ·rename_i sz els hg
   split at h
   ·rename_i e he
    split at h
    ·rename_i l hh hbd
     split at h
     ·rename_i hc
      obtain ⟨hsz,hlh,hk,hall⟩:=hc
      cases h
      obtain ⟨h1,h2,h3⟩:=run_sliceBounds (w:=w) hlo hhi false (Nat.le_refl n) hbd E.P
      obtain ⟨l1,l2,l3⟩:=hR.live b _ hg
      obtain ⟨g1,g2,c,elem,fr,g3,gf,g4,g5,_⟩:=l1
      obtain ⟨f1,f2⟩:=hR.freeze hg g3
      have hD:=(g5.get he).1
      have hD2:=((hD.drop (k+l)).take (hh - l))
      have hwf:CRel σ.next ι (H.with (ι b).blk (.cells c elem fr)) ((H.with (ι b).blk (.cells c elem fr)).cell? (ι b).blk) ((e.cells.drop (k+l)).take (hh - l)) ((ι b).base+q*sz+(k+l)):=
       hD2.ext f2 (fun o v hv=>by simpa [Imm.cell?,Imm.with] using hv)
      refine ⟨.slice (some ⟨(ι b).blk,(ι b).base+q*(ι b).sz+k+l,none⟩) (hh - l) (n - l),w,ι,H.with (ι b).blk (.cells c elem fr),?_,?_,f1,f2⟩
      ·have hnl:¬ n=l:=by omega
       have hu2:=run_underlying E.ok hia w
       simp [Instr.sliceAt,Instr.slice,asAddr,run_underlying E.ok hs,hd,hu2,hda,h1,run_sizeOf E.ok hj,hnl,hsz,add_mk]
      ·rw [g1]
       refine .data 1 (Nat.beq hh n) _ (ι b).blk _ _ _ (by simp; omega) (by omega) (fun hb=>by have:=Nat.eq_of_beq_eq_true hb; omega) ?_
       have:=DRel.ones hwf (by
        intro v hv
        have hv1:=List.mem_of_mem_drop (List.mem_of_mem_take hv)
        rw [List.all_eq_true] at hall
        simpa using hall v hv1)
       rw [show (ι b).base+q*sz+k+l=(ι b).base+q*sz+(k+l) by omega]
       exact this
     ·cases h
    ·cases h
   ·cases h
  ·cases h
 ·cases h
theorem aSliceArr_soundA (hR:Rel E ι H σ w) {t:TypeId} {i:TyI} (hs:E.ty t=some i) {n:Nat} {el:TypeId} (hd:i.desc=.array n el)
  {j:TyI} (hj:E.ty el=some j) {x v:AVal} {σ':AStore} {x':Value} (hx:VRel σ.next ι H x x') {lo hi:Option AVal} {lo' hi':Option Value} (hlo:ORel σ.next ι H lo lo') (hhi:ORel σ.next ι H hi hi')
  (h:aSliceArr n j.size x lo hi σ=some (v,σ')):SndV E ι H σ ((Instr.sliceAt t x' lo' hi' none).run E.P w) v σ':=by
 unfold aSliceArr at h
 split at h
 ·rename_i b q k
  obtain ⟨hb,rfl⟩:=hx.ptr_inv
  split at h
  ·rename_i sz els hg
   split at h
   ·rename_i e he
    split at h
    ·rename_i l hh hbd
     split at h
     ·rename_i hc
      obtain ⟨hsz,hlh,hk,hall⟩:=hc
      cases h
      obtain ⟨h1,h2,h3⟩:=run_sliceBounds (w:=w) hlo hhi false (Nat.le_refl n) hbd E.P
      obtain ⟨l1,l2,l3⟩:=hR.live b _ hg
      obtain ⟨g1,g2,c,elem,fr,g3,gf,g4,g5,_⟩:=l1
      obtain ⟨f1,f2⟩:=hR.freeze hg g3
      have hD:=(g5.get he).1
      have hD2:=((hD.drop (k+l)).take (hh - l))
      have hwf:CRel σ.next ι (H.with (ι b).blk (.cells c elem fr)) ((H.with (ι b).blk (.cells c elem fr)).cell? (ι b).blk) ((e.cells.drop (k+l)).take (hh - l)) ((ι b).base+q*sz+(k+l)):=
       hD2.ext f2 (fun o v hv=>by simpa [Imm.cell?,Imm.with] using hv)
      refine ⟨.slice (some ⟨(ι b).blk,(ι b).base+q*(ι b).sz+k+l,none⟩) (hh - l) (n - l),w,ι,H.with (ι b).blk (.cells c elem fr),?_,?_,f1,f2⟩
      ·have hnl:¬ n=l:=by omega
       simp [Instr.sliceAt,Instr.sureAddr,run_underlying E.ok hs,hd,h1,run_sizeOf E.ok hj,hnl,hsz,add_mk]
      ·rw [g1]
       refine .data 1 (Nat.beq hh n) _ (ι b).blk _ _ _ (by simp; omega) (by omega) (fun hb=>by have:=Nat.eq_of_beq_eq_true hb; omega) ?_
       have:=DRel.ones hwf (by
        intro v hv
        have hv1:=List.mem_of_mem_drop (List.mem_of_mem_take hv)
        rw [List.all_eq_true] at hall
        simpa using hall v hv1)
       rw [show (ι b).base+q*sz+k+l=(ι b).base+q*sz+(k+l) by omega]
       exact this
     ·cases h
    ·cases h
   ·cases h
  ·cases h
 ·cases h
theorem aSlice_sound (hR:Rel E ι H σ w) {t:TypeId} {i:TyI} (hs:E.ty t=some i) {el:TypeId} (hd:i.desc=.slice el) {j:TyI} (hj:E.ty el=some j)
  {x v:AVal} {x':Value} (hx:VRel σ.next ι H x x') {lo hi:Option AVal} {lo' hi':Option Value} (hlo:ORel σ.next ι H lo lo') (hhi:ORel σ.next ι H hi hi')
  (h:aSlice j.size x lo hi σ=some v):SndV E ι H σ ((Instr.sliceAt t x' lo' hi' none).run E.P w) v σ:=by
 unfold aSlice at h
 split at h
 ·rename_i b off len
  obtain ⟨cap,rfl,hb,hl,hcap⟩:=hx.slice_inv
  split at h
  ·rename_i sz' els hg
   split at h
   ·rename_i hsz
    subst hsz
    split at h
    ·rename_i l hh hbd
     obtain ⟨h1,h2,h3⟩:=run_sliceBounds (w:=w) hlo hhi true hl hbd E.P
     have hsz:=((hR.live b _ hg).1).1
     split at h
     ·rename_i hlh
      cases h
      by_cases hm:cap=l
      ·refine SndV.same hR (v':=.slice (some ⟨(ι b).blk,(ι b).base+off*(ι b).sz,none⟩) 0 0) ?_ (.endS _ _ _ 0 hb (by omega) (by simp))
       rw [run_sliceAt hs hd hj h1,if_pos hm,show hh - l=0 by omega,show cap - l=0 by omega]
      ·refine SndV.same hR (v':=.slice (some ⟨(ι b).blk,(ι b).base+off*(ι b).sz+l*j.size,none⟩) 0 (cap - l)) ?_ (.endS _ _ _ (cap - l) hb (by omega) (fun _=>by rw [Nat.add_mul,hsz]; omega))
       rw [run_sliceAt hs hd hj h1,if_neg hm,show hh - l=0 by omega]; simp [add_mk]
     split at h
     ·rename_i hlh
      cases h
      have:∃ o,(Instr.sliceAt t (.slice (some ⟨(ι b).blk,(ι b).base+off*(ι b).sz,none⟩) len cap) lo' hi' none).run E.P w=.ok (.slice (some ⟨(ι b).blk,o,none⟩) 0 (cap - l)) w:=by
       by_cases hm:cap=l
       ·exact ⟨(ι b).base+off*(ι b).sz,by rw [run_sliceAt hs hd hj h1,if_pos hm,show hh - l=0 by omega]⟩
       ·exact ⟨(ι b).base+off*(ι b).sz+l*j.size,by rw [run_sliceAt hs hd hj h1,if_neg hm,show hh - l=0 by omega]; simp [add_mk]⟩
      obtain ⟨o,ho⟩:=this
      exact SndV.same hR ho (.data _ _ [] _ o 0 _ rfl (by omega) (by simp) (.nil _ _ _))
     ·rename_i hlh
      cases h
      refine SndV.same hR (v':=.slice (some ⟨(ι b).blk,(ι b).base+(off+l)*(ι b).sz,none⟩) (hh - l) (cap - l)) ?_ (.slice _ _ _ _ hb (by omega) (by omega))
      by_cases hm:cap=l
      ·have:l=0:=by omega
       subst this
       rw [run_sliceAt hs hd hj h1,if_pos hm]; simp
      ·rw [run_sliceAt hs hd hj h1,if_neg hm]; simp [add_mk,hsz,Nat.add_mul,Nat.add_assoc]
    ·cases h
   ·cases h
  ·cases h
 ·rename_i sz' tt els
  obtain ⟨b,o,cap,rfl,hl,hD,htt⟩:=hx.data_inv
  split at h
  ·rename_i hsz
   subst hsz
   split at h
   ·rename_i l hh hbd
    obtain ⟨h1,h2,h3⟩:=run_sliceBounds (w:=w) hlo hhi true hl hbd E.P
    cases h
    by_cases hm:cap=l
    ·have e:((els.drop l).take (hh - l))=[]:=by
      rw [show hh - l=0 by omega]; simp
     rw [e]
     refine SndV.same hR (v':=.slice (some ⟨b,o,none⟩) (hh - l) (cap - l)) ?_ (.data _ _ [] _ o _ _ (by simp; omega) (by omega) (by intro _; omega) (.nil _ _ _))
     rw [run_sliceAt hs hd hj h1,if_pos hm]
    ·refine SndV.same hR (v':=.slice (some ⟨b,o+l*j.size,none⟩) (hh - l) (cap - l)) ?_ (.data _ _ _ _ _ _ _ (by simp; omega) (by omega) (by intro ht; simp at ht; have:=htt ht.1; omega) ((hD.drop l).take _))
     rw [run_sliceAt hs hd hj h1,if_neg hm]; simp [add_mk]
   ·cases h
  ·cases h
 ·obtain rfl:=hx.sc_inv
  split at h
  ·rename_i p hbd
   obtain ⟨l,hh⟩:=p
   obtain ⟨h1,h2,h3⟩:=run_sliceBounds (w:=w) hlo hhi true (Nat.le_refl 0) hbd E.P
   cases h
   have e1:l=0:=by omega
   have e2:hh=0:=by omega
   subst e1 e2
   refine SndV.same hR (v':=.slice none 0 0) ?_ (.sc _)
   rw [run_sliceAt hs hd hj h1]; simp
  ·cases h
 ·cases h
def aElems (sz:Nat) (x:AVal) (σ:AStore):Option (List AVal):=
 match x with
 | .slice b off len=>
  match σ.get b with
  | some (.cells sz' els)=>if sz'=sz/\off+len<=els.length then some ((els.drop off).take len) else none
  | _=>none
 | .view b off len=>
  match σ.get b with
  | some (.cells sz' els)=>if sz'=sz/\off+len<=els.length then some ((els.drop off).take len) else none
  | _=>none
 | .endS _ _=>some []
 | .data sz' _ els=>if sz'=sz then some els else none
 | .sc (.slice none 0 0)=>some []
 | _=>none
theorem DRel.flat {n : Nat} {g : Nat → Option Value} : ∀ {els : List AVal} {sz o : Nat}, DRel n ι H g sz els o → ∃ ws : List Value,
    ws.length=els.length*sz/\(∀ k,k < els.length*sz->g (o+k)=ws[k]?)/\DRel n ι H (ws[·]?) sz els 0
  | [],sz,o,_=>⟨[],by simp,by simp,.nil _ _ _⟩
  | e :: es, sz, o, h => by
      have h0:=h.get (i:=0) (e:=e) (by simp)
      simp only [Nat.zero_mul,Nat.add_zero] at h0
      obtain ⟨us,u1,u2⟩:=h0.1.list
      rw [h0.2] at u2
      have hul:us.length=sz:=by rw [<-u1.length,h0.2]
      have ht:DRel n ι H g sz es (o+sz):=by
        have:=h.drop 1
        simpa using this
      obtain ⟨ws,w1,w2,w3⟩:=ht.flat
      have hg:∀ k,k < (es.length+1)*sz->g (o+k)=(us++ws)[k]?:=by
        intro k hk
        rw [Nat.add_mul] at hk
        by_cases hks:k < sz
        · rw [u2 k hks,List.getElem?_append_left (by omega)]
        · rw [List.getElem?_append_right (by omega),<-w2 (k - us.length) (by omega)]
          congr 1; omega
      refine ⟨us++ws,by simp [hul,w1,Nat.add_mul]; omega,by simpa using hg,?_⟩
      apply DRel.of_get
      intro i x hx
      have:=h.get hx
      refine ⟨?_,this.2⟩
      have hi:i < es.length+1:=by
        rcases Nat.lt_or_ge i (es.length+1) with h'|h'
        · exact h'
        · rw [List.getElem?_eq_none (by simpa using h')] at hx; cases hx
      obtain ⟨vs,v1,v2⟩:=this.1.list
      rw [this.2] at v2
      have hvl:vs.length=sz:=by rw [<-v1.length,this.2]
      refine CRel.of_list v1 ?_
      intro k hk
      have hik:i*sz+k < (es.length+1)*sz:=by
        have:(i+1)*sz<=(es.length+1)*sz:=Nat.mul_le_mul_right _ hi
        rw [Nat.add_mul] at this; omega
      show (us++ws)[0+i*sz+k]?=vs[k]?
      rw [<-v2 k (by omega),show o+i*sz+k=o+(i*sz+k) by omega,hg _ hik]
      congr 1; omega
theorem aElems_sound (hR : Rel E ι H σ w) {sz : Nat} {x : AVal} {x' : Value} (hx : VRel σ.next ι H x x') {els : List AVal} (h : aElems sz x σ = some els) :
    ∃ a cap,x'=.slice a els.length cap/\∃ ws:List Value,ws.length=els.length*sz/\DRel σ.next ι H (ws[·]?) sz els 0/\
      ∀ P m,m<=els.length->(Builtin.firstCells sz m x').run P w=.ok (ws.take (m*sz)).toArray w:=by
  have load : ∀ (b o cap : Nat), DRel σ.next ι H (rd w b) sz els o → ∃ ws : List Value, ws.length = els.length * sz ∧ DRel σ.next ι H (ws[·]?) sz els 0 ∧
      ∀ P m,m<=els.length->(Builtin.firstCells sz m (.slice (some ⟨b,o,none⟩) els.length cap)).run P w=.ok (ws.take (m*sz)).toArray w:=by
    intro b o cap hD
    obtain ⟨ws,h1,h2,h3⟩:=hD.flat
    refine ⟨ws,h1,h3,?_⟩
    intro P m hm
    have hms:m*sz<=els.length*sz:=Nat.mul_le_mul_right _ hm
    refine run_loadCells P w b o (m*sz) (ws.take (m*sz)) (by simp; omega) ?_
    intro k hk
    rw [h2 k (by omega),List.getElem?_take,if_pos hk]
  unfold aElems at h
  split at h
  · rename_i b off len
    obtain ⟨cap,rfl,hb,hl,hcap⟩:=hx.slice_inv
    split at h
    · rename_i sz' els' hg
      split at h
      · rename_i hc
        obtain ⟨rfl,hc⟩:=hc
        cases h
        obtain ⟨hs,hD⟩:=(hR.live b _ hg).1.cells_rd
        have hD':=(hD.drop off).take len
        have hlen:((els'.drop off).take len).length=len:=by simp; omega
        rw [<-hs] at hD' ⊢
        obtain ⟨ws,q1,q2,q3⟩:=load (ι b).blk ((ι b).base+off*(ι b).sz) cap (by simpa [hs] using hD')
        rw [hlen] at q3
        rw [hlen]
        exact ⟨_,cap,rfl,ws,by rw [q1,hlen]; simp [hs],by simpa [hs] using q2,by simpa [hs] using q3⟩
      · cases h
    · cases h
  · rename_i b off len
    obtain ⟨rfl,hb,hcap⟩:=hx.view_inv
    split at h
    · rename_i sz' els' hg
      split at h
      · rename_i hc
        obtain ⟨rfl,hc⟩:=hc
        cases h
        obtain ⟨hs,hD⟩:=(hR.live b _ hg).1.cells_rd
        have hD':=(hD.drop off).take len
        have hlen:((els'.drop off).take len).length=len:=by simp; omega
        rw [<-hs] at hD' ⊢
        obtain ⟨ws,q1,q2,q3⟩:=load (ι b).blk ((ι b).base+off*(ι b).sz) len (by simpa [hs] using hD')
        rw [hlen] at q3
        rw [hlen]
        exact ⟨_,len,rfl,ws,by rw [q1,hlen]; simp [hs],by simpa [hs] using q2,by simpa [hs] using q3⟩
      · cases h
    · cases h
  · rename_i b off
    obtain ⟨o,cap,rfl,_⟩:=hx.endS_inv
    cases h
    refine ⟨_,cap,rfl,[],by simp,.nil _ _ _,?_⟩
    intro P m hm
    have hm0:m=0:=by simpa using hm
    exact run_loadCells P w (ι b).blk o (m*sz) (([]:List Value).take (m*sz)) (by simp [hm0]) (by intro k hk; simp [hm0] at hk)
  · rename_i sz' tt els'
    obtain ⟨b,o,cap,rfl,hl,hD,_⟩:=hx.data_inv
    split at h
    · rename_i hsz
      subst hsz
      cases h
      obtain ⟨ws,q1,q2,q3⟩:=load b o cap (hD.ext (Ext.refl _ _ _) (rd_imm hR.imm b))
      exact ⟨_,cap,rfl,ws,q1,q2,q3⟩
    · cases h
  · obtain rfl:=hx.sc_inv
    cases h
    refine ⟨none,0,rfl,[],by simp,.nil _ _ _,?_⟩
    intro P m hm
    simp [Builtin.firstCells]
  · cases h
end
end Abs
end
noncomputable section
namespace Abs
open Go
section
variable {E:Env} {ι:Inj} {H:Imm} {σ σ':AStore} {w:World}
def aSrc (sz:Nat) (x:AVal) (σ:AStore):Option (List AVal):=
 match x with
 | .sc (.string s)=>if sz=1 then some (s.data.toList.map fun b=>.sc (.int .u8 b.toNat)) else none
 | .sc (.slice _ 0 _)=>some []
 | x=>aElems sz x σ
theorem aSrc_sound (hR:Rel E ι H σ w) {sz:Nat} {x:AVal} {x':Value} (hx:VRel σ.next ι H x x') {els:List AVal} (h:aSrc sz x σ=some els):
  (∀ P,(Builtin.lenOf x').run P w=.ok els.length w)/\∃ ws:List Value,ws.length=els.length*sz/\DRel σ.next ι H (ws[·]?) sz els 0/\
   ∀ P m,m<=els.length->(Builtin.firstCells sz m x').run P w=.ok (ws.take (m*sz)).toArray w:=by
 by_cases hstr:∃ s,x=.sc (.string s)
 ·obtain ⟨s,rfl⟩:=hstr
  simp only [aSrc] at h
  split at h
  ·rename_i h1
   subst h1
   cases h
   obtain rfl:=hx.sc_inv
   refine ⟨fun P=>by simp [Builtin.lenOf],s.data.toList.map fun b=>.int .u8 b.toNat,by simp,?_,?_⟩
   ·apply DRel.of_get
    intro i e he
    rw [List.getElem?_map] at he
    cases hb:s.data.toList[i]? with
    | none=>simp [hb] at he
    | some b=>
     simp [hb] at he
     subst he
     refine ⟨.cons _ _ (.int .u8 b.toNat) _ _ ?_ (.sc _) (.nil _ _),rfl⟩
     show (s.data.toList.map fun b=>Value.int .u8 b.toNat)[0+i*1]?=_
     rw [List.getElem?_map,show 0+i*1=i by omega,hb]
     rfl
   ·intro P m hm
    simp at hm
    simp only [Builtin.firstCells,Sem.run_pure]
    congr 1
    apply Array.ext'
    simp [ByteArray.extract,ByteArray.copySlice]
  ·cases h
 by_cases hsl:∃ a c,x=.sc (.slice a 0 c)
 ·obtain ⟨a,c,rfl⟩:=hsl
  simp only [aSrc] at h
  cases h
  obtain rfl:=hx.sc_inv
  refine ⟨fun P=>by simp [Builtin.lenOf],[],by simp,.nil _ _ _,?_⟩
  intro P m hm
  obtain rfl:m=0:=by simpa using hm
  cases a with
  | none=>simp [Builtin.firstCells]
  | some a=>simp [Builtin.firstCells,loadCells,loadCellsFrom]
 ·have h':aElems sz x σ=some els:=by
   unfold aSrc at h
   split at h
   ·exact absurd ⟨_,rfl⟩ hstr
   ·exact absurd ⟨_,_,rfl⟩ hsl
   ·exact h
  obtain ⟨a,cap,rfl,ws,h1,h2,h3⟩:=aElems_sound hR hx h'
  exact ⟨fun P=>by simp [Builtin.lenOf],ws,h1,h2,h3⟩
def overlay (els:List AVal) (o:Nat):List AVal->List AVal
 | []=>els
 | v::vs=>overlay (els.set o v) (o+1) vs
theorem overlay_length:∀ (vs els:List AVal) (o:Nat),(overlay els o vs).length=els.length
 | [],_,_=>rfl
 | v::vs,els,o=>by rw [overlay,overlay_length vs]; simp
theorem overlay_get : ∀ (vs els : List AVal) (o i : Nat), o + vs.length ≤ els.length →
    (overlay els o vs)[i]?=if o<=i/\i < o+vs.length then vs[i - o]? else els[i]?
  | [],els,o,i,_=>by simp [overlay]; intro h1 h2; omega
  | v :: vs, els, o, i, h => by
      simp at h
      rw [overlay,overlay_get vs _ _ _ (by simp; omega)]
      by_cases h1:o+1<=i/\i < o+1+vs.length
      · rw [if_pos h1,if_pos (by simp; omega)]
        rw [show i - o=(i - (o+1))+1 by omega]; simp
      · rw [if_neg h1]
        by_cases h2:o=i
        · subst h2
          rw [if_pos (by simp)]
          simp [show o < els.length by omega]
        · rw [if_neg (by simp; omega)]
          simp [h2]
def allCells (els:List AVal):Bool:=els.all fun e=>e.cells.all AVal.isCell
def aAppend0 (sz bytes:Nat) (s:AVal) (xs:List AVal) (σ:AStore):Option (AVal×AStore):=
  match s with
  | .sc (.slice none 0 0)=>
    match xs with
    | []=>some (s,σ)
    | _=>if xs.length*bytes<=140737488355328/\sz≠0/\bytes≠0 then some (.slice σ.next 0 xs.length,σ.alloc (.cells sz xs)) else none
  | .slice b off len=>
    match σ.get b with
    | some (.cells sz' els)=>
      if sz'=sz/\sz≠0/\bytes≠0/\off+len<=els.length/\allCells xs=true then
        if off+len+xs.length<=els.length then
          some (.slice b off (len+xs.length),σ.set b (.cells sz (overlay els (off+len) xs)))
        else if off+len=els.length/\(len+xs.length)*bytes<=140737488355328 then
          some (.slice σ.next 0 (len+xs.length),(σ.del b).alloc (.cells sz (els.drop off++xs)))
        else none
      else none
    | _=>none
  | .view b off len=>
    if xs.length=0 then some (.view b off len,σ)
    else match aElems sz (.view b off len) σ with
      | some els => if (els.length + xs.length) * bytes ≤ 140737488355328 ∧ bytes ≠ 0 ∧ els.length = len then
          some (.slice σ.next 0 (els.length+xs.length),σ.alloc (.cells sz (els++xs)))
        else none
      | none=>none
  | .data sz' t els=>
    if xs.length=0 then some (.data sz' t els,σ)
    else if t=true/\sz'=sz/\(els.length+xs.length)*bytes<=140737488355328/\bytes≠0 then
      some (.slice σ.next 0 (els.length+xs.length),σ.alloc (.cells sz (els++xs)))
    else none
  | _=>none
theorem DRel.append {n:Nat} {us ws:List Value} {sz:Nat} {els xs:List AVal} (h:DRel n ι H (us[·]?) sz els 0) (hu:us.length=els.length*sz) (h':DRel n ι H (ws[·]?) sz xs 0):
  DRel n ι H ((us++ws)[·]?) sz (els++xs) 0:=by
 apply DRel.of_get
 intro i e he
 by_cases hi:i < els.length
 ·rw [List.getElem?_append_left hi] at he
  obtain ⟨h1,h2⟩:=h.get he
  refine ⟨h1.congr ?_,h2⟩
  intro k hk1 hk2
  have:(i+1)*sz<=els.length*sz:=Nat.mul_le_mul_right _ hi
  rw [Nat.add_mul] at this
  show (us++ws)[k]?=us[k]?
  rw [List.getElem?_append_left (by omega)]
 ·rw [List.getElem?_append_right (by omega)] at he
  obtain ⟨h1,h2⟩:=h'.get he
  refine ⟨?_,h2⟩
  obtain ⟨vs,v1,v2⟩:=h1.list
  rw [h2] at v2
  refine CRel.of_list v1 ?_
  intro k hk
  have hvl:=v1.length
  show (us++ws)[0+i*sz+k]?=vs[k]?
  have hm:i*sz=els.length*sz+(i - els.length)*sz:=by rw [<-Nat.add_mul]; congr 1; omega
  rw [List.getElem?_append_right (by omega),<-v2 k (by omega)]
  show ws[_]?=ws[_]?
  congr 1; omega
theorem overlay_rel {n:Nat} {c:Array Value} {sz base:Nat} {els xs:List AVal} {ws:List Value} {o:Nat} (hD:DRel n ι H (c[·]?) sz els base) (hx:DRel n ι H (ws[·]?) sz xs 0)
  (hw:ws.length=xs.length*sz) (ho:o+xs.length<=els.length) (hc:base+els.length*sz<=c.size):
  DRel n ι H ((splice c (base+o*sz) ws)[·]?) sz (overlay els o xs) base:=by
 have hsp:=splice_get ws c (base+o*sz)
 have hle:base+o*sz+ws.length<=c.size:=by
  have:(o+xs.length)*sz<=els.length*sz:=Nat.mul_le_mul_right _ ho
  rw [Nat.add_mul] at this; omega
 apply DRel.of_get
 intro i e he
 rw [overlay_get _ _ _ _ ho] at he
 by_cases h1:o<=i/\i < o+xs.length
 ·rw [if_pos h1] at he
  obtain ⟨q1,q2⟩:=hx.get he
  refine ⟨?_,q2⟩
  obtain ⟨vs,v1,v2⟩:=q1.list
  rw [q2] at v2
  refine CRel.of_list v1 ?_
  intro k hk
  have hvl:=v1.length
  show (splice c (base+o*sz) ws)[base+i*sz+k]?=vs[k]?
  have hm:i*sz=o*sz+(i - o)*sz:=by rw [<-Nat.add_mul]; congr 1; omega
  have hm2:(i - o+1)*sz<=xs.length*sz:=Nat.mul_le_mul_right _ (by omega)
  rw [Nat.add_mul] at hm2
  rw [hsp _ hle,if_pos (by omega),<-v2 k (by omega)]
  show ws[_]?=ws[_]?
  congr 1; omega
 ·rw [if_neg h1] at he
  obtain ⟨q1,q2⟩:=hD.get he
  refine ⟨q1.congr ?_,q2⟩
  intro k hk1 hk2
  rw [q2] at hk2
  show (splice c (base+o*sz) ws)[k]?=c[k]?
  rw [hsp _ hle,if_neg ?_]
  intro ⟨a1,a2⟩
  rw [hw] at a2
  rcases Nat.lt_or_ge i o with h|h
  ·have:(i+1)*sz<=o*sz:=Nat.mul_le_mul_right _ h
   rw [Nat.add_mul] at this; omega
  ·have:(o+xs.length)*sz<=i*sz:=Nat.mul_le_mul_right _ (by omega)
   rw [Nat.add_mul] at this; omega
theorem extend_rel {n:Nat} {c:Array Value} {sz base:Nat} {els xs:List AVal} {ws:List Value} (hD:DRel n ι H (c[·]?) sz els base) (hx:DRel n ι H (ws[·]?) sz xs 0)
  (hw:ws.length=xs.length*sz) (hc:base+(els.length+xs.length)*sz<=c.size):
  DRel n ι H ((splice c (base+els.length*sz) ws)[·]?) sz (els++xs) base:=by
 have hsp:=splice_get ws c (base+els.length*sz)
 rw [Nat.add_mul] at hc
 have hle:base+els.length*sz+ws.length<=c.size:=by omega
 apply DRel.of_get
 intro i e he
 by_cases hi:i < els.length
 ·rw [List.getElem?_append_left hi] at he
  obtain ⟨q1,q2⟩:=hD.get he
  refine ⟨q1.congr ?_,q2⟩
  intro k hk1 hk2
  rw [q2] at hk2
  have:(i+1)*sz<=els.length*sz:=Nat.mul_le_mul_right _ hi
  rw [Nat.add_mul] at this
  show (splice c (base+els.length*sz) ws)[k]?=c[k]?
  rw [hsp _ hle,if_neg (by omega)]
 ·rw [List.getElem?_append_right (by omega)] at he
  have hil:i - els.length < xs.length:=by
   rcases Nat.lt_or_ge (i - els.length) xs.length with h|h
   ·exact h
   ·rw [List.getElem?_eq_none h] at he; cases he
  obtain ⟨q1,q2⟩:=hx.get he
  refine ⟨?_,q2⟩
  obtain ⟨vs,v1,v2⟩:=q1.list
  rw [q2] at v2
  refine CRel.of_list v1 ?_
  intro k hk
  have hvl:=v1.length
  show (splice c (base+els.length*sz) ws)[base+i*sz+k]?=vs[k]?
  have hm:i*sz=els.length*sz+(i - els.length)*sz:=by rw [<-Nat.add_mul]; congr 1; omega
  have hm2:(i - els.length+1)*sz<=xs.length*sz:=Nat.mul_le_mul_right _ (by omega)
  rw [Nat.add_mul] at hm2
  rw [hsp _ hle,if_pos (by omega),<-v2 k (by omega)]
  show ws[_]?=ws[_]?
  congr 1; omega
theorem DRel.isCell {n:Nat} {sz:Nat}:∀ {xs:List AVal} {ws:List Value},DRel n ι H (ws[·]?) sz xs 0->ws.length=xs.length*sz->allCells xs=true->∀ v∈ws,isCellV v=true:=by
 intro xs ws h hl ha v hv
 obtain ⟨k,hk,rfl⟩:=List.mem_iff_getElem.1 hv
 have hsz:0 < sz:=by
  rcases Nat.eq_zero_or_pos sz with h0|h0
  ·subst h0; simp at hl; simp [hl] at hk
  ·exact h0
 have hi:k / sz < xs.length:=by rw [Nat.div_lt_iff_lt_mul hsz]; omega
 obtain ⟨h1,h2⟩:=h.get (List.getElem?_eq_getElem hi)
 obtain ⟨vs,v1,v2⟩:=h1.list
 have hm:k % sz < sz:=Nat.mod_lt _ hsz
 have hall:xs[k / sz].cells.all AVal.isCell=true:=by
  have:=List.all_eq_true.1 ha xs[k / sz] (List.getElem_mem hi)
  exact this
 have:=v1.isCell hall
 have e:=v2 (k % sz) (by omega)
 have e2:0+k / sz*sz+k % sz=k:=by rw [Nat.zero_add,Nat.mul_comm]; exact Nat.div_add_mod k sz
 rw [e2] at e
 rw [List.getElem?_eq_getElem hk] at e
 exact this _ (List.mem_of_getElem? e.symm)
theorem Rel.drew (hR:Rel E ι H σ w):Rel E ι H σ w.drew:=hR.congr rfl ⟨rfl,rfl⟩
theorem cap_le (w:World) (need old:Nat) (e:TypeId):need<=grownCap w need old e:=by
 simp only [grownCap,Question.cut]; omega
theorem Rel.appended (hR:Rel E ι H σ w) (el:TypeId) {sz cap:Nat} {els:List AVal} {us zs:List Value} (hD:DRel σ.next ι H (us[·]?) sz els 0) (hu:us.length=els.length*sz)
  (hc:els.length<=cap) (hz:zs.length=(cap - els.length)*sz):
  ∃ ι',Rel E ι' H (σ.alloc (.cells sz els)) {w with heap:=w.heap.push (.cells (us++zs).toArray el)}/\Ext σ.next ι H (σ.next+1) ι' H/\
   VRel (σ.next+1) ι' H (.slice σ.next 0 els.length) (.slice (some ⟨w.heap.size,0,none⟩) els.length cap)/\(ι' σ.next).el=el/\(ι' σ.next).base=0:=by
 refine hR.newRow el (c:=(us++zs).toArray) (cap:=cap) (len:=els.length) ?_ ?_ hc hc (FrOk.zero _)
 ·have:=hD.append (els:=els) (xs:=[]) (ws:=zs) hu (.nil _ _ _)
  simpa using this
 ·have:cap*sz=els.length*sz+(cap - els.length)*sz:=by rw [<-Nat.add_mul]; congr 1; omega
  simp [hu,hz]; omega
theorem Rel.renew (h:Rel E ι H σ w) {w':World} {b:Nat} {sz:Nat} {els:List AVal} {x:ABlk} (hb:σ.get b=some (.cells sz els)) {p:Place} (hp:p.blk=(ι b).blk)
  (hsz:w'.heap.size=w.heap.size) (ho:∀ c,c≠(ι b).blk->w'.heap[c]?=w.heap[c]?) (hk:Same w w') {c':Array Value} {elem':TypeId} {fr':Nat×Nat}
  (hc':w'.heap[(ι b).blk]?=some (.cells c' elem' fr')) (hx:BlkRel σ.next ι H w' p x):Rel E (upd ι σ.next p) H ((σ.del b).alloc x) w':=by
 have he:Ext σ.next ι H (σ.next+1) (upd ι σ.next p) H:=Ext.upd _ _ _ _
 obtain ⟨l1,l2,l3⟩:=h.live b _ hb
 have hget:∀ b',((σ.del b).alloc x).get b'=if b'=σ.next then some x else if b'=b then none else σ.get b':=by
  intro b'
  rw [AStore.get_alloc,AStore.get_del]; rfl
 refine ⟨?_,?_,?_,fun g=>(h.glob g).ext he,hk.trans_keep h.keep,?_⟩
 rotate_left 3
 ·intro b' t hb'
  obtain ⟨h1,h2,h3⟩:=h.tys b' t hb'
  have h4:upd ι σ.next p b'=ι b':=upd_ne _ _ (by omega)
  rw [h4]
  exact ⟨Nat.lt_succ_of_lt h1,h2,h3⟩
 ·intro c o hc
  rw [ho c]
  ·exact h.imm c o hc
  ·intro hcb; subst hcb; rw [l2] at hc; cases hc
 ·intro b' y hy
  rw [hget] at hy
  split at hy
  ·rename_i e1
   cases hy
   subst e1
   rw [upd_self]
   exact ⟨hx.ext he rfl (Nat.le_refl _) (fun _ _ _ _=>rfl),by rw [hp]; exact l2,by rw [hp,hsz]; exact l3⟩
  ·rename_i e1
   split at hy
   ·cases hy
   ·rename_i e2
    obtain ⟨h1,h2,h3⟩:=h.live b' y hy
    have hne:(ι b').blk≠(ι b).blk:=fun hc=>e2 (h.inj b' b _ _ hy hb hc)
    rw [upd_ne _ _ e1]
    refine ⟨?_,h2,by rw [hsz]; exact h3⟩
    by_cases hmm:∃ m since seen,y=.miter m since seen/\(ι m).blk=(ι b).blk
    ·obtain ⟨m,since,seen,rfl,hmb⟩:=hmm
     obtain ⟨⟨g0,g0',g0''⟩,s',se',st,g1,g2,g3,g4⟩:=h1
     have hmn:m≠σ.next:=by omega
     refine ⟨⟨by show m < σ.next+1; omega,by rw [upd_ne _ _ hmn]; omega,g0''⟩,s',se',st,by rw [upd_ne _ _ hmn,ho _ hne]; exact g1,g2,g3,?_⟩
     intro es clock hh
     rw [upd_ne _ _ hmn,hmb,hc'] at hh
     cases hh
    ·refine h1.ext he (ho _ hne) (by omega) ?_
     intro m since seen hz'
     exact ho _ (fun hc=>hmm ⟨m,since,seen,hz',hc⟩)
 ·intro b1 b2 x1 x2 h1 h2 hbb
  rw [hget] at h1 h2
  have key:∀ b2 x2,b2≠σ.next->(if b2=b then none else σ.get b2)=some x2->p.blk=(ι b2).blk->False:=by
   intro b2 x2 hn hx2 hpb
   split at hx2
   ·cases hx2
   ·rename_i e2
    exact e2 (h.inj b2 b _ _ hx2 hb (by rw [<-hpb,hp]))
  by_cases e1:b1=σ.next<;>by_cases e2:b2=σ.next
  ·omega
  ·rw [if_neg e2] at h2
   rw [e1,upd_self,upd_ne _ _ e2] at hbb
   exact (key b2 x2 e2 h2 hbb).elim
  ·rw [if_neg e1] at h1
   rw [e2,upd_self,upd_ne _ _ e1] at hbb
   exact (key b1 x1 e1 h1 hbb.symm).elim
  ·rw [if_neg e1] at h1
   rw [if_neg e2] at h2
   rw [upd_ne _ _ e1,upd_ne _ _ e2] at hbb
   split at h1
   ·cases h1
   ·split at h2
    ·cases h2
    ·exact h.inj b1 b2 _ _ h1 h2 hbb
theorem aAppend0_sound (hR : Rel E ι H σ w) {t : TypeId} {i : TyI} (hs : E.ty t = some i) {el : TypeId} (hd : i.desc = .slice el) {j : TyI} (hj : E.ty el = some j) (hjz : j.okz = true)
    {t2:TypeId} {i2:TyI} (hs2:E.ty t2=some i2) (hni:(∃ e2,i2.desc=.slice e2)\/i2.desc=.string) {s x v:AVal} {s' x':Value} (hvs:VRel σ.next ι H s s') (hvx:VRel σ.next ι H x x')
    {xs:List AVal} (hxs:aSrc j.size x σ=some xs) (h:aAppend0 j.size j.bytes s xs σ=some (v,σ')) (rt:TypeId):
    SndT (tagS σ s el) el E ι H σ ((Builtin.append_ #[t,t2] rt #[s',x']).run E.P w) v σ':=by
  have hzz:j.zero.cells.size=j.size:=by simpa [TyI.okz] using hjz
  obtain ⟨_,info,hi,hi2,hi3,hi4⟩:=E.ok el j hj
  have hu1:∀ w:World,(underlying t).run E.P w=.ok (.slice el) w:=fun w=>by rw [run_underlying E.ok hs w,hd]
  have hu2:∀ w:World,(underlying t2).run E.P w=.ok i2.desc w:=run_underlying E.ok hs2
  have room : ∀ (base : Option Addr) (sLen sCap : Nat), sLen + xs.length ≤ sCap → (Builtin.append_ #[t, t2] rt #[.slice base sLen sCap, x']).run E.P w =
      ((do let new ← Builtin.firstCells j.size xs.length x'
           if let some a:=base then storeCells (a.add (sLen*j.size)) new.toList
           pure (.slice base (sLen+xs.length) sCap)):Sem Value).run E.P w:=by
    intro base sLen sCap hr
    obtain ⟨hlen,_⟩:=aSrc_sound hR hvx hxs
    rcases hni with ⟨e2,hdd⟩|hdd<;>(simp [Builtin.append_,hu1,hu2,Go.sizeOf,typeInfo,hi,hi2,hlen,hr,hdd]; rfl)
  have grow : ∀ (base : Option Addr) (sLen sCap : Nat) (els : List AVal) (us : List Value), sCap < sLen + xs.length → (sLen + xs.length) * j.bytes ≤ 140737488355328 → j.bytes ≠ 0 →
      els.length=sLen->DRel σ.next ι H (us[·]?) j.size els 0->us.length=sLen*j.size->
      (Builtin.firstCells j.size sLen (.slice base sLen sCap)).run E.P w.drew=.ok us.toArray w.drew->
      ∃ ι' w',(Builtin.append_ #[t,t2] rt #[.slice base sLen sCap,x']).run E.P w=.ok (.slice (some ⟨w.heap.size,0,none⟩) (sLen+xs.length) (grownCap w (sLen+xs.length) sCap el)) w'/\
        Rel E ι' H (σ.alloc (.cells j.size (els++xs))) w'/\Ext σ.next ι H (σ.next+1) ι' H/\
        VRel (σ.next+1) ι' H (.slice σ.next 0 (sLen+xs.length)) (.slice (some ⟨w.heap.size,0,none⟩) (sLen+xs.length) (grownCap w (sLen+xs.length) sCap el))/\(ι' σ.next).el=el/\(ι' σ.next).base=0:=by
    intro base sLen sCap els us hg hb hb0 hel hD hul hf
    obtain ⟨hlen,ws,hws,hwD,hfirst⟩:=aSrc_sound hR.drew hvx hxs
    obtain ⟨hlen',_⟩:=aSrc_sound hR hvx hxs
    have hfull:=hfirst E.P xs.length (Nat.le_refl _)
    rw [<-hws,List.take_length] at hfull
    have hn:¬ (sLen+xs.length<=sCap):=by omega
    have h48:=growslice_fits (old:=sCap) hg hb
    have h48':¬ (281474976710656 < Builtin.nextslicecap (sLen+xs.length) sCap*j.bytes):=by omega
    have hneed:sLen+xs.length<=140737488355328:=by
      have:(sLen+xs.length)*1<=(sLen+xs.length)*j.bytes:=Nat.mul_le_mul_left _ (by omega)
      omega
    have h63:¬ (9223372036854775807 < ((sLen:Int)+(xs.length:Int))):=by omega
    have hcap:=cap_le w (sLen+xs.length) sCap el
    have hD2:=hD.append (xs:=xs) (ws:=ws) (by rw [hel]; exact hul) hwD
    obtain ⟨ι',q1,q2,q3,q4⟩:=(hR.drew).appended el (cap:=grownCap w (sLen+xs.length) sCap el) (els:=els++xs) (us:=us++ws)
      (zs:=(Builtin.zeroCells j.zero.cells (grownCap w (sLen+xs.length) sCap el - (sLen+xs.length))).toList) hD2 (by simp [hul,hws,hel,Nat.add_mul]) (by simp [hel]; exact hcap)
      (by simp [Builtin.zeroCells,hzz,hel])
    have e1 : (us ++ ws ++ (Builtin.zeroCells j.zero.cells (grownCap w (sLen + xs.length) sCap el - (sLen + xs.length))).toList).toArray =
        us.toArray++(ws.toArray++Builtin.zeroCells j.zero.cells (grownCap w (sLen+xs.length) sCap el - (sLen+xs.length))):=by
      apply Array.ext'; simp
    rw [e1] at q1
    refine ⟨ι',w.drew.alloc (.cells (us.toArray++(ws.toArray++Builtin.zeroCells j.zero.cells (grownCap w (sLen+xs.length) sCap el - (sLen+xs.length)))) el),?_,q1,q2,by simpa [hel] using q3,q4⟩
    have hc2:(Question.appendCap (sLen+xs.length) sCap el).cut (w.tape w.drawn (.appendCap (sLen+xs.length) sCap el))=grownCap w (sLen+xs.length) sCap el:=rfl
    rcases hni with ⟨e2,hdd⟩|hdd
    · simp [Builtin.append_,hu1,hu2,Go.sizeOf,typeInfo,zeroValue,hi,hi2,hi3,hi4,hlen',hn,hdd,h63,h48',Question.forced,hf,hfull,newRow,hc2]
    · simp [Builtin.append_,hu1,hu2,Go.sizeOf,typeInfo,zeroValue,hi,hi2,hi3,hi4,hlen',hn,hdd,h63,h48',Question.forced,hf,hfull,newRow,hc2]
  unfold aAppend0 at h
  split at h
  · -- nil
    obtain rfl:=hvs.sc_inv
    split at h
    · cases h
      rw [room none 0 0 (by simp)]
      obtain ⟨_,ws,hws,hwD,hfirst⟩:=aSrc_sound hR hvx hxs
      have:=hfirst E.P 0 (Nat.zero_le _)
      refine SndT.same hR (v':=.slice none 0 0) ?_ (.sc _)
      simp only [List.length_nil,Sem.run_bind,this,Result.andThen_ok]
      rfl
    · rename_i hne
      split at h
      · rename_i hc
        cases h
        have hpos:0 < xs.length:=by
          cases xs with
          | nil=>exact absurd rfl hne
          | cons a b=>simp
        obtain ⟨ι',w',r1,r2,r3,r4,r5⟩:=grow none 0 0 [] [] (by omega) (by simpa using hc.1) hc.2.2 rfl (.nil _ _ _) (by simp) (by simp [Builtin.firstCells])
        simp only [Nat.zero_add,List.nil_append] at r1 r2 r4
        exact ⟨_,w',ι',H,r1,r4,r2,r3,fun _ _=>r5⟩
      · cases h
  · rename_i b off len
    obtain ⟨cap,rfl,hb,hl,hcap⟩:=hvs.slice_inv
    split at h
    · rename_i sz' els hg
      split at h
      · rename_i hc
        obtain ⟨rfl,hs0,hb0,hoff,hall⟩:=hc
        obtain ⟨hb1,hb2,hb3⟩:=hR.live b _ hg
        obtain ⟨g1,g2,c,el',fr,g3,gf,g4,g5,g6⟩:=hb1
        split at h
        · -- there is room in what is known
          rename_i hroom
          cases h
          rw [room _ len cap (by omega)]
          obtain ⟨_,ws,hws,hwD,hfirst⟩:=aSrc_sound hR hvx hxs
          have hfull:=hfirst E.P xs.length (Nat.le_refl _)
          rw [<-hws,List.take_length] at hfull
          have hcell:=DRel.isCell hwD hws hall
          have hle:(ι b).base+(off+len)*j.size+ws.length<=c.size:=by
            have h1:(off+len+xs.length)*j.size<=els.length*j.size:=Nat.mul_le_mul_right _ hroom
            have h2:els.length*j.size<=(ι b).cap*j.size:=Nat.mul_le_mul_right _ g2
            rw [Nat.add_mul] at h1; omega
          obtain ⟨w',r1,r2,r3⟩:=run_storeCells E.P (ι b).blk ((ι b).base+(off+len)*j.size) el' fr ws w c 0 g3 gf hcell (by omega)
          have hheap:w'.heap[(ι b).blk]?=some (.cells (splice c ((ι b).base+(off+len)*j.size) ws) el' fr):=by
            rw [r2]; simp [hb3]
          refine ⟨.slice (some ⟨(ι b).blk,(ι b).base+off*(ι b).sz,none⟩) (len+xs.length) cap,w',ι,H,?_,?_,?_,Ext.refl _ _ _,fun _ hh=>by simp [AStore.set] at hh⟩
          · simp only [Sem.run_bind,hfull,Result.andThen_ok,add_mk,g1]
            rw [show (ι b).base+off*j.size+len*j.size=(ι b).base+(off+len)*j.size by rw [Nat.add_mul]; omega]
            simp [r1]
          · exact .slice _ _ _ _ hb (by omega) hcap
          · refine hR.set_cells hg (by rw [r2]; simp) ?_ r3 hheap ?_
            · intro c' hne
              rw [r2]; simp [Ne.symm hne]
            · refine ⟨g1,by rw [overlay_length]; exact g2,_,_,fr,hheap,by rw [splice_size]; exact gf,by rw [splice_size]; exact g4,?_,g6⟩
              refine overlay_rel g5 hwD hws (by omega) ?_
              have h2:els.length*j.size<=(ι b).cap*j.size:=Nat.mul_le_mul_right _ g2
              omega
        · split at h
          · rename_i hnr hh
            obtain ⟨hend,hbd⟩:=hh
            cases h
            have hR2:Rel E ι H (σ.del b) w:=hR.restrict rfl (by
              intro b' x' hx'
              rw [AStore.get_del] at hx'
              split at hx'
              · cases hx'
              · exact hx') (fun _ h=>h)
            have hdl:(els.drop off).length=len:=by simp; omega
            by_cases hfit:len+xs.length<=cap
            · -- in place
              rw [room _ len cap hfit]
              obtain ⟨_,ws,hws,hwD,hfirst⟩:=aSrc_sound hR hvx hxs
              have hfull:=hfirst E.P xs.length (Nat.le_refl _)
              rw [<-hws,List.take_length] at hfull
              have hcell:=DRel.isCell hwD hws hall
              have hle:(ι b).base+(off+len)*j.size+ws.length<=c.size:=by
                have h1:(off+len+xs.length)*j.size<=(ι b).cap*j.size:=Nat.mul_le_mul_right _ (by omega)
                rw [Nat.add_mul] at h1; omega
              obtain ⟨w',r1,r2,r3⟩:=run_storeCells E.P (ι b).blk ((ι b).base+(off+len)*j.size) el' fr ws w c 0 g3 gf hcell (by omega)
              have hheap:w'.heap[(ι b).blk]?=some (.cells (splice c ((ι b).base+(off+len)*j.size) ws) el' fr):=by
                rw [r2]; simp [hb3]
              let p:Place:=⟨(ι b).blk,(ι b).base+off*j.size,j.size,cap,el'⟩
              refine ⟨.slice (some ⟨(ι b).blk,(ι b).base+off*(ι b).sz,none⟩) (len+xs.length) cap,w',upd ι σ.next p,H,?_,?_,?_,Ext.upd _ _ _ _,?_⟩
              rotate_left 3
              · intro htg _
                rw [upd_self]
                unfold tagS at htg
                split at htg
                · rename_i heq; cases heq
                · rename_i heq
                  injection heq with e1 e2 e3
                  subst e1 e2
                  obtain ⟨_,t2,t3⟩:=hR.tys _ _ (hasTy_mem htg)
                  exact ⟨g6.trans t2,by simp [p,t3]⟩
                · cases htg
              · simp only [Sem.run_bind,hfull,Result.andThen_ok,add_mk,g1]
                rw [show (ι b).base+off*j.size+len*j.size=(ι b).base+(off+len)*j.size by rw [Nat.add_mul]; omega]
                simp [r1]
              · have:=VRel.slice (n:=σ.next+1) (ι:=upd ι σ.next p) (H:=H) σ.next 0 (len+xs.length) cap (by omega) hfit (by simp [upd_self,p])
                rw [g1]
                simp only [upd_self,p,Nat.zero_mul,Nat.add_zero] at this
                exact this
              · refine hR.renew hg (p:=p) rfl (by rw [r2]; simp) ?_ r3 hheap ?_
                · intro c' hne
                  rw [r2]; simp [Ne.symm hne]
                · have hD3:=g5.drop off
                  refine ⟨rfl,by simp [hdl]; exact hfit,_,_,fr,hheap,by rw [splice_size]; exact gf,?_,?_,rfl⟩
                  · have h1:(off+cap)*j.size=(ι b).cap*j.size:=by rw [hcap]
                    rw [Nat.add_mul] at h1
                    rw [splice_size]; show (ι b).base+off*j.size+cap*j.size<=c.size; omega
                  · have h1:(off+cap)*j.size=(ι b).cap*j.size:=by rw [hcap]
                    have h2:(len+xs.length)*j.size<=cap*j.size:=Nat.mul_le_mul_right _ hfit
                    rw [Nat.add_mul] at h1
                    have:=extend_rel hD3 hwD hws (by rw [hdl]; omega)
                    rw [hdl,show (ι b).base+off*j.size+len*j.size=(ι b).base+(off+len)*j.size by rw [Nat.add_mul]; omega] at this
                    exact this
            · -- a new array
              have hD':DRel σ.next ι H (rd w (ι b).blk) j.size (els.drop off) ((ι b).base+off*j.size):=by
                rw [rd_cells g3]; exact g5.drop off
              obtain ⟨us,u1,u2,u3⟩:=hD'.flat
              rw [hdl] at u1 u2
              obtain ⟨ι',w',r1,r2,r3,r4,r5⟩:=grow (some ⟨(ι b).blk,(ι b).base+off*(ι b).sz,none⟩) len cap (els.drop off) us (by omega) hbd hb0 hdl u3 u1 (by
                have:=run_loadCells E.P w.drew (ι b).blk ((ι b).base+off*j.size) (len*j.size) us u1 (fun k hk=>by
                  have:=u2 k hk
                  simpa [rd] using this)
                rw [g1]
                exact this)
              refine ⟨_,w',ι',H,r1,r4,?_,r3,fun _ _=>r5⟩
              refine r2.restrict rfl ?_ (fun _ h=>h)
              intro b' x' hx'
              have hget:∀ b',((σ.del b).alloc (.cells j.size (els.drop off++xs))).get b'=if b'=σ.next then some (.cells j.size (els.drop off++xs)) else if b'=b then none else σ.get b':=by
                intro b'
                rw [AStore.get_alloc,AStore.get_del]; rfl
              have hget2:∀ b',(σ.alloc (.cells j.size (els.drop off++xs))).get b'=if b'=σ.next then some (.cells j.size (els.drop off++xs)) else σ.get b':=fun _=>AStore.get_alloc _ _ _
              rw [hget] at hx'
              rw [hget2]
              split at hx'
              · rename_i e1; rw [if_pos e1]; exact hx'
              · rename_i e1
                rw [if_neg e1]
                split at hx'
                · cases hx'
                · exact hx'
          · cases h
      · cases h
    · cases h
  · rename_i b off len
    split at h
    · rename_i hz
      cases h
      obtain ⟨rfl,hb,hcap⟩:=hvs.view_inv
      rw [room _ len len (by omega)]
      obtain ⟨_,ws,hws,hwD,hfirst⟩:=aSrc_sound hR hvx hxs
      have:=hfirst E.P 0 (Nat.zero_le _)
      refine SndT.same hR (v':=.slice (some ⟨(ι b).blk,(ι b).base+off*(ι b).sz,none⟩) len len) ?_ hvs
      simp only [hz,Sem.run_bind,this,Result.andThen_ok]
      simp [storeCells]
    · rename_i hz
      split at h
      · rename_i els hels
        split at h
        · rename_i hc
          obtain ⟨h2,h3,h4⟩:=hc
          cases h
          obtain ⟨a,cap,h5,us,u1,u2,u3⟩:=aElems_sound hR.drew hvs (by simpa [aElems] using hels)
          obtain ⟨h6,hb,hcap⟩:=hvs.view_inv
          rw [h6] at h5
          cases h5
          rw [h6]
          have u3':=u3 E.P els.length (Nat.le_refl _)
          rw [List.take_of_length_le (by rw [u1]; exact Nat.le_refl _),h6] at u3'
          rw [<-h4] at u3' ⊢
          obtain ⟨ι',w',r1,r2,r3,r4,r5⟩:=grow _ els.length els.length els us (by omega) h2 h3 rfl u2 u1 u3'
          exact ⟨_,w',ι',H,r1,r4,r2,r3,fun _ _=>r5⟩
        · cases h
      · cases h
  · rename_i sz' tt els
    obtain ⟨b,o,cap,rfl,hl,hD,htt⟩:=hvs.data_inv
    split at h
    · rename_i hz
      cases h
      rw [room _ els.length cap (by omega)]
      obtain ⟨_,ws,hws,hwD,hfirst⟩:=aSrc_sound hR hvx hxs
      have:=hfirst E.P 0 (Nat.zero_le _)
      refine SndT.same hR (v':=.slice (some ⟨b,o,none⟩) els.length cap) ?_ hvs
      simp only [hz,Sem.run_bind,this,Result.andThen_ok]
      simp [storeCells]
    · rename_i hz
      split at h
      · rename_i hc
        obtain ⟨h1,rfl,h2,h3⟩:=hc
        cases h
        have hcap:=htt h1
        obtain ⟨us,u1,u2,u3⟩:=(hD.ext (Ext.refl _ _ _) (rd_imm hR.imm b)).flat
        obtain ⟨ι',w',r1,r2,r3,r4,r5⟩:=grow (some ⟨b,o,none⟩) els.length cap els us (by omega) h2 h3 rfl u3 u1 (by
          exact run_loadCells E.P w.drew b o (els.length*j.size) us u1 (fun k hk=>by
            have:=u2 k hk
            simpa [rd] using this))
        exact ⟨_,w',ι',H,r1,r4,r2,r3,fun _ _=>r5⟩
      · cases h
  · cases h
def aAppend (sz bytes:Nat) (s:AVal) (xs:List AVal) (σ:AStore):Option (AVal×AStore):=
 match s with
 | .endS b off=>
  match σ.get b with
  | some (.cells sz' els)=>
   if sz'=sz/\sz≠0/\bytes≠0/\off=els.length/\allCells xs=true/\xs.length≠0/\xs.length*bytes<=140737488355328 then some (.slice σ.next 0 xs.length,(σ.del b).alloc (.cells sz xs)) else none
  | _=>none
 | s=>aAppend0 sz bytes s xs σ
theorem aAppend_sound (hR:Rel E ι H σ w) {t:TypeId} {i:TyI} (hs:E.ty t=some i) {el:TypeId} (hd:i.desc=.slice el) {j:TyI} (hj:E.ty el=some j) (hjz:j.okz=true)
  {t2:TypeId} {i2:TyI} (hs2:E.ty t2=some i2) (hni:(∃ e2,i2.desc=.slice e2)\/i2.desc=.string) {s x v:AVal} {s' x':Value} (hvs:VRel σ.next ι H s s') (hvx:VRel σ.next ι H x x')
  {xs:List AVal} (hxs:aSrc j.size x σ=some xs) (h:aAppend j.size j.bytes s xs σ=some (v,σ')) (rt:TypeId):
  SndT (tagS σ s el) el E ι H σ ((Builtin.append_ #[t,t2] rt #[s',x']).run E.P w) v σ':=by
 unfold aAppend at h
 split at h
 ·rename_i b off
  obtain ⟨o,cap,rfl,hb,hc,ho⟩:=hvs.endS_inv
  split at h
  ·rename_i sz' els hg
   split at h
   ·rename_i hcond
    obtain ⟨rfl,h1,h2,h3,h4,h5,h6⟩:=hcond
    cases h
    by_cases hcap:cap=0
    ·subst hcap
     have hv2:VRel σ.next ι H (.data j.size true []) (.slice (some ⟨(ι b).blk,o,none⟩) 0 0):=.data _ true [] _ o 0 0 rfl (Nat.le_refl _) (fun _=>rfl) (.nil _ _ _)
     obtain ⟨v',w',ι',H',q1,q2,q3,q4,_⟩:=aAppend0_sound (v:=.slice σ.next 0 xs.length) (σ':=σ.alloc (.cells j.size xs)) hR hs hd hj hjz hs2 hni hv2 hvx hxs (by simp [aAppend0,h5,h2,h6]) rt
     refine ⟨v',w',ι',H',q1,q2,q3.restrict rfl ?_ (fun _ h=>h),q4,fun hh=>by cases hh⟩
     intro b' y hy
     rw [AStore.get_alloc] at hy ⊢
     have hn:(σ.del b).next=σ.next:=rfl
     rw [hn] at hy
     split at hy
     ·rename_i e; rw [if_pos e]; exact hy
     ·rename_i e
      rw [if_neg e]
      rw [AStore.get_del] at hy
      split at hy
      ·cases hy
      ·exact hy
    ·have hv2:VRel σ.next ι H (.slice b off 0) (.slice (some ⟨(ι b).blk,o,none⟩) 0 cap):=by rw [ho hcap]; exact .slice b off 0 cap hb (Nat.zero_le _) hc
     refine SndT.weak (aAppend0_sound hR hs hd hj hjz hs2 hni hv2 hvx hxs ?_ rt)
     have:¬ (els.length+xs.length<=els.length):=by omega
     simp [aAppend0,hg,h1,h2,h3,h4,h6]
     exact fun hh=>absurd hh this
   ·cases h
  ·cases h
 ·exact aAppend0_sound hR hs hd hj hjz hs2 hni hvs hvx hxs h rt
end
end Abs
end
noncomputable section
namespace Abs
open Go
section
variable {E:Env} {ι:Inj} {H:Imm} {σ σ':AStore} {w:World}
def aLen (d:TypeDesc) (x:AVal) (σ:AStore):Option AVal:=
 match d,x with
 | .string,.sc (.string s)=>some (.sc (.int .i64 s.size))
 | .array n _,_=>some (.sc (.int .i64 n))
 | .slice _,.slice _ _ n=>some (.sc (.int .i64 n))
 | .slice _,.view _ _ n=>some (.sc (.int .i64 n))
 | .slice _,.endS _ _=>some (.sc (.int .i64 0))
 | .slice _,.data _ _ els=>some (.sc (.int .i64 els.length))
 | .slice _,.sc (.slice _ n _)=>some (.sc (.int .i64 n))
 | .map _ _,.sc (.map none)=>some (.sc (.int .i64 0))
 | .map _ _,.map b=>
  match σ.get b with
  | some (.map kvs _)=>some (.sc (.int .i64 kvs.length))
  | _=>none
 | _,_=>none
theorem KRel.length {n:Nat}:∀ {kvs:List (AVal×AVal)} {es:List MapEntry},KRel n ι H kvs es->kvs.length=es.length
 | _,_,.nil=>rfl
 | _,_,.cons _ _ _ _ _ _ _ hs=>by simp [hs.length]
theorem run_getObj_map {P:Program} {r:Nat} {es:Array MapEntry} {clock:Nat} (h:w.heap[r]?=some (.map es clock)):(getObj r).run P w=.ok (.map es clock) w:=by
 simp [getObj,Sem.run,h]
theorem aLen_sound (hR:Rel E ι H σ w) {t:TypeId} {i:TyI} (hs:E.ty t=some i) {x v:AVal} {x':Value} (hx:VRel σ.next ι H x x') (h:aLen i.desc x σ=some v) (rt:TypeId)
  {ats:Array TypeId} (ha:ats[0]?=some t):SndV E ι H σ ((Builtin.len_ ats rt #[x']).run E.P w) v σ:=by
 have hu:=run_underlying E.ok hs w
 have e0:(#[x']:Array Value)[0]?=some x':=rfl
 unfold aLen at h
 split at h
 ·rename_i hd
  obtain rfl:=hx.sc_inv; cases h
  refine SndV.same hR (v':=goInt _) ?_ (.sc _)
  simp [Builtin.len_,ha,hu,hd,goInt]
 ·rename_i hd
  cases h
  refine SndV.same hR (v':=goInt _) ?_ (.sc _)
  simp [Builtin.len_,ha,hu,hd,goInt]
 ·rename_i hd
  obtain ⟨cap,rfl,_⟩:=hx.slice_inv; cases h
  refine SndV.same hR (v':=goInt _) ?_ (.sc _)
  simp [Builtin.len_,ha,hu,hd,goInt]
 ·rename_i hd
  obtain ⟨rfl,_⟩:=hx.view_inv; cases h
  refine SndV.same hR (v':=goInt _) ?_ (.sc _)
  simp [Builtin.len_,ha,hu,hd,goInt]
 ·rename_i hd
  obtain ⟨_,_,rfl,_⟩:=hx.endS_inv; cases h
  refine SndV.same hR (v':=goInt 0) ?_ (.sc _)
  simp [Builtin.len_,ha,hu,hd,goInt]
 ·rename_i hd
  obtain ⟨_,_,cap,rfl,_⟩:=hx.data_inv; cases h
  refine SndV.same hR (v':=goInt _) ?_ (.sc _)
  simp [Builtin.len_,ha,hu,hd,goInt]
 ·rename_i hd
  obtain rfl:=hx.sc_inv; cases h
  refine SndV.same hR (v':=goInt _) ?_ (.sc _)
  simp [Builtin.len_,ha,hu,hd,goInt]
 ·rename_i hd
  obtain rfl:=hx.sc_inv; cases h
  refine SndV.same hR (v':=goInt 0) ?_ (.sc _)
  simp [Builtin.len_,ha,hu,hd,goInt]
 ·rename_i hd
  obtain ⟨hb,rfl⟩:=hx.map_inv
  split at h
  ·rename_i kvs clock hg
   cases h
   obtain ⟨es,h1,h2,_⟩:=(hR.live _ _ hg).1
   refine SndV.same hR (v':=goInt es.size) ?_ (by rw [h2.length]; exact .sc _)
   simp [Builtin.len_,ha,hu,hd,run_getObj_map h1]
  ·cases h
 ·cases h
def aFind (d:TypeDesc) (k:Value):List (AVal×AVal)->Nat->Option (Option (Nat×AVal))
 | [],_=>some none
 | (.sc key,v)::rest,i=>
  match Instr.sameNow d k key with
  | some true=>some (some (i,v))
  | some false=>aFind d k rest (i+1)
  | none=>none
 | _::_,_=>none
def plainKey:TypeDesc->Bool
 | .int _|.string|.bool=>true
 | _=>false
theorem aFind_sound {n : Nat} (d : TypeDesc) (k : Value) : ∀ {kvs : List (AVal × AVal)} {es : List MapEntry} (i : Nat) {r : Option (Nat × AVal)}, KRel n ι H kvs es → aFind d k kvs i = some r →
    (r=none/\Instr.findNow d k es i=some none)\/
    ∃ j v v' e,r=some (i+j,v)/\Instr.findNow d k es i=some (some (i+j,v'))/\VRel n ι H v v'/\es[j]?=some e/\e.val=v'/\Instr.sameNow d k e.key=some true/\
      kvs[j]?=some (.sc e.key,v)
  | _,_,i,r,.nil,h=>by simp [aFind] at h; exact .inl ⟨h.symm,rfl⟩
  | _, _, i, r, .cons key v e kvs es hk hv hs, h => by
      cases key with
      | sc key=>
        obtain rfl:=hk.sc_inv
        simp only [aFind] at h
        cases hn:Instr.sameNow d k e.key with
        | none=>simp [hn] at h
        | some b=>
          cases b with
          | true=>
            simp [hn] at h
            subst h
            exact .inr ⟨0,v,e.val,e,rfl,by simp [Instr.findNow,hn],hv,rfl,rfl,hn,rfl⟩
          | false=>
            simp [hn] at h
            rcases aFind_sound d k (i+1) hs h with ⟨rfl,h1⟩|⟨j,v1,v2,e1,rfl,h1,h2,h3,h4,h5,h6⟩
            · exact .inl ⟨rfl,by simp [Instr.findNow,hn,h1]⟩
            · refine .inr ⟨j+1,v1,v2,e1,by simp; omega,?_,h2,by simpa using h3,h4,h5,by simpa using h6⟩
              rw [show i+(j+1)=i+1+j by omega]
              simp [Instr.findNow,hn,h1]
      | _=>simp [aFind] at h
theorem run_checkKey {t:TypeId} {i:TyI} (hs:E.ty t=some i) (hp:plainKey i.desc=true) (b:Bool) (v:Value):(Instr.checkKey b 10000 t v).run E.P w=.ok () w:=by
 have hu:=run_underlying E.ok hs w
 rw [show (10000:Nat)=9999+1 from rfl,Instr.checkKey]
 cases hd:i.desc<;>simp [plainKey,hd] at hp<;>simp [hu,hd]
theorem run_findKey {t:TypeId} {i:TyI} (hs:E.ty t=some i) {k:Value} {es:List MapEntry} {r:Option (Nat×Value)} (h:Instr.findNow i.desc k es 0=some r):
  (Instr.findKey t k es).run E.P w=.ok r w:=by
 simp [Instr.findKey,run_underlying E.ok hs w,h]
def aLookup (kd:TypeDesc) (z:Value) (ok:Bool) (x k:AVal) (σ:AStore):Option AVal:=
 let out (v:AVal) (b:Bool):AVal:=if ok then .tuple [v,.sc (.bool b)] else v
 if plainKey kd then
  match k with
  | .sc k=>
   match x with
   | .sc (.map none)=>some (out (absV z) false)
   | .map b=>
    match σ.get b with
    | some (.map kvs _)=>
     match aFind kd k kvs 0 with
     | some (some (_,v))=>some (out v true)
     | some none=>some (out (absV z) false)
     | none=>none
    | _=>none
   | _=>none
  | _=>none
 else none
theorem out_rel {n:Nat} (ok b:Bool) {v:AVal} {v':Value} (h:VRel n ι H v v'):
  VRel n ι H (if ok then .tuple [v,.sc (.bool b)] else v) (if ok then .tuple #[v',.bool b] else v'):=by
 cases ok with
 | false=>exact h
 | true=>exact .tuple [v,.sc (.bool b)] [v',.bool b] (.cons _ _ _ _ h (.cons _ _ _ _ (.sc _) .nil))
theorem aLookup_sound (hR:Rel E ι H σ w) {t:TypeId} {i:TyI} (hs:E.ty t=some i) {kt et:TypeId} (hd:i.desc=.map kt et) {ki ei:TyI} (hk:E.ty kt=some ki) (he:E.ty et=some ei)
  {x k v:AVal} {x' k':Value} (hx:VRel σ.next ι H x x') (hkr:VRel σ.next ι H k k') {ok:Bool} (h:aLookup ki.desc ei.zero ok x k σ=some v):
  SndV E ι H σ ((Instr.lookup t x' k' ok).run E.P w) v σ:=by
 have hu:=run_underlying E.ok hs w
 have hz:=run_zeroValue E.ok he w
 simp only [aLookup] at h
 split at h
 ·rename_i hp
  split at h
  ·rename_i kk
   obtain rfl:=hkr.sc_inv
   split at h
   ·obtain rfl:=hx.sc_inv
    cases h
    refine SndV.same hR (v':=if ok then .tuple #[ei.zero,.bool false] else ei.zero) ?_ (out_rel ok false (absV_rel _ _ _ _))
    have hf:Instr.findNow ki.desc k' [] 0=some none:=rfl
    simp [Instr.lookup,hu,hd,run_checkKey hk hp,run_findKey hk hf,hz]
   ·rename_i b
    obtain ⟨hb,rfl⟩:=hx.map_inv
    split at h
    ·rename_i kvs clock hg
     obtain ⟨es,h1,h2,h3⟩:=(hR.live _ _ hg).1
     cases hfnd:aFind ki.desc k' kvs 0 with
     | none=>simp [hfnd] at h
     | some r=>
      simp only [hfnd] at h
      rcases aFind_sound ki.desc k' 0 h2 hfnd with ⟨rfl,hf⟩|⟨j,v1,v2,e1,rfl,hf,hv,_⟩
      ·cases h
       refine SndV.same hR (v':=if ok then .tuple #[ei.zero,.bool false] else ei.zero) ?_ (out_rel ok false (absV_rel _ _ _ _))
       simp [Instr.lookup,hu,hd,run_getObj_map h1,run_checkKey hk hp,run_findKey hk hf,hz]
      ·cases h
       refine SndV.same hR (v':=if ok then .tuple #[v2,.bool true] else v2) ?_ (out_rel ok true hv)
       simp [Instr.lookup,hu,hd,run_getObj_map h1,run_checkKey hk hp,run_findKey hk hf]
    ·cases h
   ·cases h
  ·cases h
 ·cases h
theorem Rel.set_map (h:Rel E ι H σ w) {w':World} {b:Nat} {kvs kvs':List (AVal×AVal)} {clock clock':Nat} (hb:σ.get b=some (.map kvs clock)) {es es':Array MapEntry}
  (hes:w.heap[(ι b).blk]?=some (.map es clock)) (hw:w'={w with heap:=w.heap.setIfInBounds (ι b).blk (.map es' clock')})
  (hk:KRel σ.next ι H kvs' es'.toList) (hnd:(es'.toList.map (·.born)).Nodup) (hlt:∀ e∈es'.toList,e.born < clock') (hkn:(es'.toList.map (·.key)).Nodup)
  (hcl:(clock'=clock/\∀ e'∈es'.toList,∃ e∈es.toList,e.born=e'.born/\e.key=e'.key)\/clock < clock'):
  Rel E ι H (σ.set b (.map kvs' clock')) w':=by
 have hlt':=h.blk_lt hb
 have hheap:w'.heap[(ι b).blk]?=some (.map es' clock'):=by subst hw; simp [hlt']
 have ho:∀ c,c≠(ι b).blk->w'.heap[c]?=w.heap[c]?:=by
  intro c hc
  subst hw; simp [Ne.symm hc]
 refine h.set hb (by subst hw; simp) ho (by subst hw; exact ⟨rfl,rfl⟩) ⟨es',hheap,hk,hnd,hlt,hkn⟩ ?_
 intro b' m since seen hne hz hmb
 obtain ⟨h1,h2,h3⟩:=h.live b' _ hz
 have hne':(ι b').blk≠(ι b).blk:=fun hc=>hne (h.inj b' b _ _ hz hb hc)
 obtain ⟨⟨g0,g0',g0''⟩,s',se',st,g1,g2,g3,g4⟩:=h1
 refine ⟨⟨g0,by subst hw; simpa using g0',g0''⟩,s',se',st,by rw [ho _ hne']; exact g1,g2,g3,?_⟩
 intro es1 clock1 hh
 rw [hmb,hheap] at hh
 cases hh
 obtain ⟨q1,q2⟩:=g4 es clock (by rw [hmb]; exact hes)
 rcases hcl with ⟨rfl,hcl⟩|hcl
 ·refine ⟨q1,fun hc e' he'=>?_⟩
  obtain ⟨e,he,e1,e2⟩:=hcl e' he'
  rw [<-e1,<-e2]
  exact q2 hc e he
 ·exact ⟨by omega,fun hc=>by omega⟩
theorem bytes_beq (a b:ByteArray):(a==b)=true ↔ a=b:=by
 obtain ⟨x⟩:=a
 obtain ⟨y⟩:=b
 constructor
 ·intro h
  have e:x=y:=by simpa using (show (x==y)=true from h)
  rw [e]
 ·intro h
  cases h
  show (x==x)=true
  simp
theorem sameNow_eq {d:TypeDesc} {a b:Value} (h:Instr.sameNow d a b=some true):b=a/\Instr.sameBits 10000 b a=true:=by
 unfold Instr.sameNow at h
 split at h
 ·rename_i k x k' y
  split at h
  ·rename_i hk
   subst hk
   simp at h
   subst h
   exact ⟨rfl,by simp [Instr.sameBits]⟩
  ·cases h
 ·simp only [Option.some.injEq] at h
  have:=(bytes_beq _ _).1 h; subst this; exact ⟨rfl,by simpa [Instr.sameBits] using h⟩
 ·simp at h; subst h; exact ⟨rfl,by simp [Instr.sameBits]⟩
 ·cases h
theorem sameNow_self {d:TypeDesc} {a:Value}:Instr.sameNow d a a≠some false:=by
 have hs:∀ x:ByteArray,(x==x)=true:=fun x=>(bytes_beq x x).2 rfl
 cases d<;>cases a<;>simp [Instr.sameNow,hs]
theorem findNow_none {d:TypeDesc} {k:Value}:∀ {es:List MapEntry} {i:Nat},Instr.findNow d k es i=some none->∀ {e:MapEntry},e∈es->e.key≠k
  | [],_,_,_,he=>by simp at he
  | x :: es, i, h, e, he => by
      simp only [Instr.findNow] at h
      split at h
      · cases h
      · rename_i hs
        simp at he
        rcases he with rfl|he
        · intro hk; rw [hk] at hs; exact sameNow_self hs
        · exact findNow_none h he
      · cases h
theorem KRel.get {n:Nat}:∀ {kvs:List (AVal×AVal)} {es:List MapEntry} {j:Nat} {e:MapEntry},KRel n ι H kvs es->es[j]?=some e->
  ∃ k v,kvs[j]?=some (k,v)/\VRel n ι H k e.key/\VRel n ι H v e.val
 | _,_,0,_,.cons k v e _ _ hk hv _,h=>by simp at h; subst h; exact ⟨k,v,rfl,hk,hv⟩
 | _,_,j+1,_,.cons _ _ _ _ _ _ _ hs,h=>by simp at h; obtain ⟨k,v,h1,h2⟩:=hs.get h; exact ⟨k,v,by simpa using h1,h2⟩
theorem KRel.set {n:Nat}:∀ {kvs:List (AVal×AVal)} {es:List MapEntry} (j:Nat) {k v:AVal} {e:MapEntry},KRel n ι H kvs es->VRel n ι H k e.key->VRel n ι H v e.val->
  KRel n ι H (kvs.set j (k,v)) (es.set j e)
 | _,_,_,_,_,_,.nil,_,_=>by simpa using KRel.nil
 | _,_,0,k,v,e,.cons _ _ _ kvs es _ _ hs,hk,hv=>by simpa using KRel.cons k v e kvs es hk hv hs
 | _,_,j+1,_,_,_,.cons k0 v0 e0 kvs es hk0 hv0 hs,hk,hv=>by simpa using KRel.cons k0 v0 e0 _ _ hk0 hv0 (hs.set j hk hv)
theorem KRel.append {n:Nat} {kvs':List (AVal×AVal)} {es':List MapEntry} (h':KRel n ι H kvs' es'):∀ {kvs:List (AVal×AVal)} {es:List MapEntry},KRel n ι H kvs es->KRel n ι H (kvs++kvs') (es++es')
 | _,_,.nil=>h'
 | _,_,.cons k v e kvs es hk hv hs=>.cons k v e _ _ hk hv (KRel.append h' hs)
theorem KRel.erase {n:Nat}:∀ {kvs:List (AVal×AVal)} {es:List MapEntry} (j:Nat),KRel n ι H kvs es->KRel n ι H (kvs.eraseIdx j) (es.eraseIdx j)
 | _,_,_,.nil=>by simpa using KRel.nil
 | _,_,0,.cons _ _ _ _ _ _ _ hs=>by simpa using hs
 | _,_,j+1,.cons k v e kvs es hk hv hs=>by simpa using KRel.cons k v e _ _ hk hv (hs.erase j)
def aMapSet (kd:TypeDesc) (x k v:AVal) (σ:AStore):Option AStore:=
 if plainKey kd then
  match x,k with
  | .map b,.sc k=>
   match σ.get b with
   | some (.map kvs clock)=>
    match aFind kd k kvs 0 with
    | some (some (i,_))=>some (σ.set b (.map (kvs.set i (.sc k,v)) clock))
    | some none=>some (σ.set b (.map (kvs++[(.sc k,v)]) (clock+1)))
    | none=>none
   | _=>none
  | _,_=>none
 else none
theorem run_setObj {P:Program} {r:Nat} {es:Array MapEntry} {clock:Nat} (h:w.heap[r]?=some (.map es clock)) (o:Obj):
  (setObj r o).run P w=.ok () {w with heap:=w.heap.setIfInBounds r o}:=by
 simp [setObj,Sem.run,h]
theorem aMapSet_sound (hR:Rel E ι H σ w) {t:TypeId} {i:TyI} (hs:E.ty t=some i) {kt et:TypeId} (hd:i.desc=.map kt et) {ki:TyI} (hk:E.ty kt=some ki)
  {x k v:AVal} {x' k' v':Value} (hx:VRel σ.next ι H x x') (hkr:VRel σ.next ι H k k') (hv:VRel σ.next ι H v v') (h:aMapSet ki.desc x k v σ=some σ'):
  ∃ w',(Instr.mapUpdate t x' k' v').run E.P w=.ok () w'/\Rel E ι H σ' w'/\σ'.next=σ.next:=by
 have hu:=run_underlying E.ok hs w
 simp only [aMapSet] at h
 split at h
 ·rename_i hp
  split at h
  ·rename_i b kk
   obtain rfl:=hkr.sc_inv
   obtain ⟨hb,rfl⟩:=hx.map_inv
   split at h
   ·rename_i kvs clock hg
    obtain ⟨es,h1,h2,h3,h4,h5⟩:=(hR.live _ _ hg).1
    cases hfnd:aFind ki.desc k' kvs 0 with
    | none=>simp [hfnd] at h
    | some r=>
     simp only [hfnd] at h
     rcases aFind_sound ki.desc k' 0 h2 hfnd with ⟨rfl,hf⟩|⟨j,v1,v2,e1,rfl,hf,hv1,he1,he2,hsame,hkv⟩
     ·cases h
      refine ⟨{w with heap:=w.heap.setIfInBounds (ι b).blk (.map (es.push {key:=k',val:=v',born:=clock}) (clock+1))},?_,?_,rfl⟩
      ·simp [Instr.mapUpdate,hu,hd,run_getObj_map h1,run_checkKey hk hp,run_findKey hk hf,run_setObj h1]
      ·refine hR.set_map hg h1 rfl ?_ ?_ ?_ ?_ (.inr (by omega))
       ·simpa using KRel.append (.cons (.sc k') v {key:=k',val:=v',born:=clock} [] [] (.sc _) hv .nil) h2
       ·simp only [Array.toList_push,List.map_append,List.map_cons,List.map_nil,List.nodup_append]
        refine ⟨h3,by simp,?_⟩
        intro a ha b hb2
        obtain ⟨e,he,rfl⟩:=List.mem_map.1 ha
        simp at hb2
        have:=h4 e he
        omega
       ·intro e he
        simp at he
        rcases he with he|rfl
        ·have:=h4 e (by simpa using he); omega
        ·simp
       ·simp only [Array.toList_push,List.map_append,List.map_cons,List.map_nil,List.nodup_append]
        refine ⟨h5,by simp,?_⟩
        intro a ha b hb2
        obtain ⟨e,he,rfl⟩:=List.mem_map.1 ha
        simp at hb2
        subst hb2
        exact findNow_none hf he
     ·cases h
      obtain ⟨hkeq,hbits⟩:=sameNow_eq hsame
      have hjl:j < es.size:=by
       rcases Nat.lt_or_ge j es.size with h'|h'
       ·exact h'
       ·simp [h'] at he1
      have hej:es[j]?=some e1:=by simpa using he1
      have hej2:es[j]=e1:=by rw [Array.getElem?_eq_getElem hjl] at hej; exact Option.some.inj hej
      have hmod:(es.modify j fun e=>{e with key:=k',val:=v'})=es.setIfInBounds j {e1 with key:=k',val:=v'}:=by
       apply Array.ext_getElem?
       intro q
       rw [Array.getElem?_modify,Array.getElem?_setIfInBounds]
       split
       ·rename_i hq; subst hq; simp [hjl,hej2]
       ·rfl
      refine ⟨{w with heap:=w.heap.setIfInBounds (ι b).blk (.map (es.modify j fun e=>{e with key:=k',val:=v'}) clock)},?_,?_,rfl⟩
      ·have e3:((es[0+j]?).map (·.key)).getD k'=e1.key:=by rw [Nat.zero_add,hej]; rfl
       simp only [Nat.zero_add] at hf e3
       simp [Instr.mapUpdate,hu,hd,run_getObj_map h1,run_checkKey hk hp,run_findKey hk hf,Instr.keyThatStays]
       rw [e3,hbits]
       simp [run_setObj h1]
      ·simp only [Nat.zero_add]
       refine hR.set_map hg h1 rfl ?_ ?_ ?_ ?_ (.inl ⟨rfl,?_⟩)
       ·rw [hmod]
        simpa using h2.set j (e:={e1 with key:=k',val:=v'}) (.sc _) hv
       ·rw [hmod]
        have:(es.setIfInBounds j {e1 with key:=k',val:=v'}).toList.map (·.born)=es.toList.map (·.born):=by
         apply List.ext_getElem?
         intro q
         simp only [Array.toList_setIfInBounds,List.getElem?_map,List.getElem?_set]
         split
         ·rename_i hq; subst hq; simp [hjl,hej2]
         ·rfl
        rw [this]; exact h3
       ·rw [hmod]
        intro e he
        simp only [Array.toList_setIfInBounds] at he
        rcases List.mem_or_eq_of_mem_set he with he|rfl
        ·exact h4 e he
        ·exact h4 e1 (List.mem_of_getElem? he1)
       ·rw [hmod]
        have:(es.setIfInBounds j {e1 with key:=k',val:=v'}).toList.map (·.key)=es.toList.map (·.key):=by
         apply List.ext_getElem?
         intro q
         simp only [Array.toList_setIfInBounds,List.getElem?_map,List.getElem?_set]
         split
         ·rename_i hq; subst hq; simp [hjl,hej2,hkeq]
         ·rfl
        rw [this]; exact h5
       ·rw [hmod]
        intro e he
        simp only [Array.toList_setIfInBounds] at he
        rcases List.mem_or_eq_of_mem_set he with he|rfl
        ·exact ⟨e,he,rfl,rfl⟩
        ·exact ⟨e1,List.mem_of_getElem? he1,rfl,hkeq⟩
   ·cases h
  ·cases h
 ·cases h
def aMapDel (kd:TypeDesc) (x k:AVal) (σ:AStore):Option AStore:=
 if plainKey kd then
  match x,k with
  | .sc (.map none),.sc _=>some σ
  | .map b,.sc k=>
   match σ.get b with
   | some (.map kvs clock)=>
    match aFind kd k kvs 0 with
    | some (some (i,_))=>some (σ.set b (.map (kvs.eraseIdx i) clock))
    | some none=>some (σ.set b (.map kvs clock))
    | none=>none
   | _=>none
  | _,_=>none
 else none
theorem aMapDel_sound (hR:Rel E ι H σ w) {t:TypeId} {i:TyI} (hs:E.ty t=some i) {kt et:TypeId} (hd:i.desc=.map kt et) {ki:TyI} (hk:E.ty kt=some ki)
  {x k:AVal} {x' k':Value} (hx:VRel σ.next ι H x x') (hkr:VRel σ.next ι H k k') (h:aMapDel ki.desc x k σ=some σ') (rt:TypeId) {ats:Array TypeId} (ha:ats[0]?=some t):
  ∃ w',(Builtin.delete_ ats rt #[x',k']).run E.P w=.ok (.tuple #[]) w'/\Rel E ι H σ' w'/\σ'.next=σ.next:=by
 have hu:=run_underlying E.ok hs w
 simp only [aMapDel] at h
 split at h
 ·rename_i hp
  split at h
  ·obtain rfl:=hx.sc_inv
   cases h
   exact ⟨w,by simp [Builtin.delete_,ha,hu,hd,run_checkKey hk hp],hR,rfl⟩
  ·rename_i b kk
   obtain rfl:=hkr.sc_inv
   obtain ⟨hb,rfl⟩:=hx.map_inv
   split at h
   ·rename_i kvs clock hg
    obtain ⟨es,h1,h2,h3,h4,h5⟩:=(hR.live _ _ hg).1
    cases hfnd:aFind ki.desc k' kvs 0 with
    | none=>simp [hfnd] at h
    | some r=>
     simp only [hfnd] at h
     rcases aFind_sound ki.desc k' 0 h2 hfnd with ⟨rfl,hf⟩|⟨j,v1,v2,e1,rfl,hf,hv1,he1,he2,hsame,hkv⟩
     ·cases h
      refine ⟨{w with heap:=w.heap.setIfInBounds (ι b).blk (.map es clock)},?_,?_,rfl⟩
      ·simp [Builtin.delete_,ha,hu,hd,run_getObj_map h1,run_checkKey hk hp,run_findKey hk hf,run_setObj h1]
      ·exact hR.set_map hg h1 rfl h2 h3 h4 h5 (.inl ⟨rfl,fun e he=>⟨e,he,rfl,rfl⟩⟩)
     ·cases h
      simp only [Nat.zero_add] at hf ⊢
      have e5:(es.eraseIdxIfInBounds j).toList=es.toList.eraseIdx j:=by simp
      refine ⟨{w with heap:=w.heap.setIfInBounds (ι b).blk (.map (es.eraseIdxIfInBounds j) clock)},?_,?_,rfl⟩
      ·simp [Builtin.delete_,ha,hu,hd,run_getObj_map h1,run_checkKey hk hp,run_findKey hk hf,run_setObj h1]
      ·refine hR.set_map hg h1 rfl ?_ ?_ ?_ ?_ (.inl ⟨rfl,?_⟩)
       ·rw [e5]; exact h2.erase j
       ·rw [e5]
        exact List.Nodup.sublist ((List.eraseIdx_sublist _ _).map _) h3
       ·rw [e5]
        intro e he
        exact h4 e ((List.eraseIdx_sublist _ _).mem he)
       ·rw [e5]
        exact List.Nodup.sublist ((List.eraseIdx_sublist _ _).map _) h5
       ·rw [e5]
        intro e he
        exact ⟨e,(List.eraseIdx_sublist _ _).mem he,rfl,rfl⟩
   ·cases h
  ·cases h
 ·cases h
end
end Abs
end
noncomputable section
namespace Abs
open Go
section
variable {E:Env} {ι:Inj} {H:Imm} {σ σ':AStore} {w:World}
def scBin (op:BinOp) (x y:Value):Option Value:=
 match x,y with
 | .int k a,.int k' b=>
  match op with
  | .shl=>if 0<=b then some (.int k (k.wrap (a*2 ^ (min b.toNat k.bits)))) else none
  | .shr=>if 0<=b then some (.int k (a.fdiv (2 ^ (min b.toNat k.bits)))) else none
  | _=>
   if k=k' then
    match op with
    | .add=>some (.int k (k.wrap (a+b)))
    | .sub=>some (.int k (k.wrap (a - b)))
    | .mul=>some (.int k (k.wrap (a*b)))
    | .quo=>if b=0 then none else some (.int k (k.wrap (a.tdiv b)))
    | .rem=>if b=0 then none else some (.int k (a.tmod b))
    | .and=>some (.int k (k.wrap (BitVec.ofInt k.bits a &&& BitVec.ofInt k.bits b).toNat))
    | .or=>some (.int k (k.wrap (BitVec.ofInt k.bits a ||| BitVec.ofInt k.bits b).toNat))
    | .xor=>some (.int k (k.wrap (BitVec.ofInt k.bits a ^^^ BitVec.ofInt k.bits b).toNat))
    | .andNot=>some (.int k (k.wrap (BitVec.ofInt k.bits a &&& ~~~BitVec.ofInt k.bits b).toNat))
    | .eql=>some (.bool (a==b))
    | .neq=>some (.bool (a !=b))
    | .lss=>some (.bool (a < b))
    | .leq=>some (.bool (a<=b))
    | .gtr=>some (.bool (a > b))
    | .geq=>some (.bool (a>=b))
    | _=>none
   else none
 | .string a,.string b=>
  match op with
  | .add=>if ((a.size+b.size:Nat):Int)<=9223372036854775807 then some (.string (a++b)) else none
  | .eql=>some (.bool (a.toList==b.toList))
  | .neq=>some (.bool (!(a.toList==b.toList)))
  | .lss=>some (.bool (Op.bytesLess a.toList b.toList))
  | .leq=>some (.bool (Op.bytesLess a.toList b.toList || a.toList==b.toList))
  | .gtr=>some (.bool (!(Op.bytesLess a.toList b.toList || a.toList==b.toList)))
  | .geq=>some (.bool (!(Op.bytesLess a.toList b.toList)))
  | _=>none
 | _,_=>none
theorem scBin_sound {op:BinOp} {x y v:Value} (h:scBin op x y=some v) (t:TypeId) (P:Program):(binOp op t x y).run P w=.ok v w:=by
  unfold scBin at h
  split at h
  · rename_i k a k' b
    split at h
    · split at h
      · rename_i hb
        cases h
        have:¬ b < 0:=by omega
        simp [binOp,Op.shift,this]
      · cases h
    · split at h
      · rename_i hb
        cases h
        have:¬ b < 0:=by omega
        simp [binOp,Op.shift,this]
      · cases h
    · rename_i o1 o2
      split at h
      · rename_i hk
        subst hk
        cases op<;>simp at h o1 o2<;>first
          | (subst h; simp [binOp,Op.intArith,Op.intBits,Op.intCmp]; done)
          | (obtain ⟨h0,rfl⟩:=h; simp [binOp,Op.intDiv,h0]; done)
          | skip
      · cases h
  · rename_i a b
    cases op<;>simp at h<;>first
      | (subst h; simp [binOp,Op.stringOp]; done)
      | (obtain ⟨h0, rfl⟩ := h
         have:¬ (9223372036854775807 < ((a.size:Int)+(b.size:Int))):=by omega
         have e:IntKind.i64.max=9223372036854775807:=by decide
         simp [binOp,Op.stringOp,e,this]; done)
  · cases h
def aEq (d:TypeDesc) (cst:Bool) (x y:AVal):Option Bool:=
 match d,x,y with
 | .bool,.sc (.bool a),.sc (.bool b)=>some (a==b)
 | .pointer _,.sc (.pointer none),.sc (.pointer none)=>some true
 | .pointer _,.sc (.pointer none),.ptr _ _ _=>some false
 | .pointer _,.sc (.pointer none),.iptr _=>some false
 | .pointer _,.ptr _ _ _,.sc (.pointer none)=>some false
 | .pointer _,.iptr _,.sc (.pointer none)=>some false
 | .slice _,.sc (.slice none _ _),.sc (.slice none _ _)=>some true
 | .slice _,.sc (.slice none _ _),.slice _ _ _=>some false
 | .slice _,.sc (.slice none _ _),.view _ _ _=>some false
 | .slice _,.sc (.slice none _ _),.endS _ _=>some false
 | .slice _,.sc (.slice none _ _),.data _ _ _=>some false
 | .slice _,.slice _ _ _,.sc (.slice none _ _)=>some false
 | .slice _,.view _ _ _,.sc (.slice none _ _)=>some false
 | .slice _,.endS _ _,.sc (.slice none _ _)=>some false
 | .slice _,.data _ _ _,.sc (.slice none _ _)=>some false
 | .map _ _,.sc (.map none),.sc (.map none)=>some true
 | .map _ _,.map _,.sc (.map none)=>some false
 | .map _ _,.sc (.map none),.map _=>some false
 | .func _ _ _,.sc .nilFunc,.sc .nilFunc=>some true
 | .func _ _ _,.func _ _ _,.sc .nilFunc=>some false
 | .func _ _ _,.sc .nilFunc,.func _ _ _=>some false
 | .interface _,.sc .nilIface,.iface _ _=>some false
 | .interface _,.iface _ _,.sc .nilIface=>some false
 | .interface _,.sc .nilIface,.sc .nilIface=>if cst then some true else none
 | _,_,_=>none
theorem run_equal {t:TypeId} {d:TypeDesc} {x y:Value} (hu:(underlying t).run E.P w=.ok d w):(Op.equal t x y).run E.P w=
  (match d,x,y with
  | .bool,.bool a,.bool b=>.ok (a==b) w
  | .pointer _,.pointer none,.pointer b=>.ok b.isNone w
  | .pointer _,.pointer _,.pointer none=>.ok false w
  | .interface _,.nilIface,.nilIface=>.ok true w
  | .interface _,.nilIface,.iface _ _=>.ok false w
  | .interface _,.iface _ _,.nilIface=>.ok false w
  | .slice _,.slice none _ _,.slice b _ _=>.ok b.isNone w
  | .slice _,.slice _ _ _,.slice none _ _=>.ok false w
  | .map _ _,.map none,.map b=>.ok b.isNone w
  | .map _ _,.map _,.map none=>.ok false w
  | .func _ _ _,.nilFunc,.nilFunc=>.ok true w
  | .func _ _ _,.nilFunc,.func _ _ _=>.ok false w
  | .func _ _ _,.func _ _ _,.nilFunc=>.ok false w
  | _,_,_=>(Op.equal t x y).run E.P w):=by
 have e:∀ x y,(Op.equal t x y)=Op.equalIn (9999+1) t x y:=fun _ _=>rfl
 split
 all_goals first
  | rfl
  | (rename_i hu'; rw [e,Op.equalIn,Sem.run_bind,hu']; rfl)
  | (rename_i hu' hne; rw [e,Op.equalIn,Sem.run_bind,hu']; simp only [Result.andThen_ok]; rfl)
theorem aEq_sound {t : TypeId} {i : TyI} (hs : E.ty t = some i) {n : Nat} {x y : AVal} {x' y' : Value} (hx : VRel n ι H x x') (hy : VRel n ι H y y') {cst : Bool} {b : Bool} (h : aEq i.desc cst x y = some b) :
    (Op.equal t x' y').run E.P w=.ok b w/\(∀ a a',x'≠.int a a')/\(∀ a,x'≠.string a)/\(∀ a b',x'≠.float a b')/\(∀ a b' c,x'≠.complex a b' c)/\(∀ a,x'≠.agg a)/\
      (∀ a,y'≠.agg a)/\((x'=.nilIface/\y'=.nilIface)->cst=true):=by
  have hu:=run_underlying E.ok hs w
  unfold aEq at h
  split at h
  all_goals first
    | (cases h; done)
    | skip
  all_goals
    rename_i hd
    first
      | (obtain rfl:=hx.sc_inv; obtain rfl:=hy.sc_inv)
      | (obtain rfl:=hx.sc_inv; obtain ⟨_,rfl⟩:=hy.ptr_inv)
      | (obtain rfl:=hx.sc_inv; obtain ⟨_,_,rfl,_⟩:=hy.iptr_inv)
      | (obtain rfl:=hy.sc_inv; obtain ⟨_,rfl⟩:=hx.ptr_inv)
      | (obtain rfl:=hy.sc_inv; obtain ⟨_,_,rfl,_⟩:=hx.iptr_inv)
      | (obtain rfl:=hx.sc_inv; obtain ⟨_,rfl,_⟩:=hy.slice_inv)
      | (obtain rfl:=hx.sc_inv; obtain ⟨rfl,_⟩:=hy.view_inv)
      | (obtain rfl:=hx.sc_inv; obtain ⟨_,_,rfl,_⟩:=hy.endS_inv)
      | (obtain rfl:=hx.sc_inv; obtain ⟨_,_,_,rfl,_⟩:=hy.data_inv)
      | (obtain rfl:=hy.sc_inv; obtain ⟨_,rfl,_⟩:=hx.slice_inv)
      | (obtain rfl:=hy.sc_inv; obtain ⟨rfl,_⟩:=hx.view_inv)
      | (obtain rfl:=hy.sc_inv; obtain ⟨_,_,rfl,_⟩:=hx.endS_inv)
      | (obtain rfl:=hy.sc_inv; obtain ⟨_,_,_,rfl,_⟩:=hx.data_inv)
      | (obtain rfl:=hx.sc_inv; obtain ⟨_,rfl⟩:=hy.map_inv)
      | (obtain rfl:=hy.sc_inv; obtain ⟨_,rfl⟩:=hx.map_inv)
      | (obtain rfl:=hx.sc_inv; obtain ⟨_,_,rfl,_⟩:=hy.func_inv)
      | (obtain rfl:=hy.sc_inv; obtain ⟨_,_,rfl,_⟩:=hx.func_inv)
      | (obtain rfl:=hx.sc_inv; obtain ⟨_,rfl,_⟩:=hy.iface_inv)
      | (obtain rfl:=hy.sc_inv; obtain ⟨_,rfl,_⟩:=hx.iface_inv)
    simp at h
    first
      | (subst h
         refine ⟨?_,by simp,by simp,by simp,by simp,by simp,by simp,by simp⟩
         exact run_equal (hd ▸ hu))
      | (have h1 := h.1
         have h2:=h.2
         subst h2
         refine ⟨?_,by simp,by simp,by simp,by simp,by simp,by simp,fun _=>h1⟩
         exact run_equal (hd ▸ hu))
def isConstOp:Operand->Bool
 | .const _=>true
 | _=>false
def aBin (d:TypeDesc) (op:BinOp) (cst:Bool) (x y:AVal):Option AVal:=
 match x,y with
 | .sc (.int k a),.sc y=>(scBin op (.int k a) y).map .sc
 | .sc (.string a),.sc y=>(scBin op (.string a) y).map .sc
 | x,y=>
  match op with
  | .eql=>(aEq d cst x y).map fun b=>.sc (.bool b)
  | .neq=>(aEq d cst x y).map fun b=>.sc (.bool !b)
  | _=>none
theorem run_eqGuard {op:BinOp} {t:TypeId} {x y:Operand} {a b:Value} (h1:∀ c,a≠.agg c) (h2:(a=.nilIface/\b=.nilIface)->(isConstOp x || isConstOp y)=true):
  (eqGuard op t x y a b).run E.P w=.ok () w:=by
 unfold eqGuard
 by_cases hop:op=.eql\/op=.neq
 ·have:(!(match op with|.eql=>true|.neq=>true|_=>false))=false:=by rcases hop with rfl|rfl<;>rfl
  by_cases hn:a=.nilIface/\b=.nilIface
  ·obtain ⟨rfl,rfl⟩:=hn
   have hc:=h2 ⟨rfl,rfl⟩
   rcases hop with rfl|rfl<;>(cases x<;>cases y<;>simp [isConstOp] at hc<;>simp)
  ·rcases hop with rfl|rfl<;>(cases a<;>first|exact absurd rfl (h1 _)|(cases b<;>first|exact absurd ⟨rfl,rfl⟩ hn|simp))
 ·have:op≠.eql/\op≠.neq:=by simpa using hop
  cases op<;>simp_all
theorem aBin_sound (hR : Rel E ι H σ w) {t : TypeId} {i : TyI} (hs : E.ty t = some i) {op : BinOp} {x y : Operand} {a b v : AVal} {a' b' : Value} (ha : VRel σ.next ι H a a') (hb : VRel σ.next ι H b b')
    (h:aBin i.desc op (isConstOp x || isConstOp y) a b=some v):
    SndV E ι H σ ((do eqGuard op t x y a' b'; binOp op t a' b':Sem Value).run E.P w) v σ:=by
  have key : ∀ b0, aEq i.desc (isConstOp x || isConstOp y) a b = some b0 → (op = .eql ∧ v = .sc (.bool b0) ∨ op = .neq ∧ v = .sc (.bool !b0)) →
      SndV E ι H σ ((do eqGuard op t x y a' b'; binOp op t a' b':Sem Value).run E.P w) v σ:=by
    intro b0 he hv
    obtain ⟨q1,q2,q3,q4,q5,q6,q7,q8⟩:=aEq_sound (E:=E) (w:=w) hs ha hb he
    have hg:=run_eqGuard (E:=E) (w:=w) (op:=op) (t:=t) (x:=x) (y:=y) (a:=a') (b:=b') q6 q8
    rcases hv with ⟨rfl,rfl⟩|⟨rfl,rfl⟩
    · refine SndV.same hR (v':=.bool b0) ?_ (.sc _)
      simp only [Sem.run_bind,hg,Result.andThen_ok]
      cases a'<;>first|exact absurd rfl (q2 _ _)|exact absurd rfl (q3 _)|exact absurd rfl (q4 _ _)|exact absurd rfl (q5 _ _ _)|simp [binOp,q1]
    · refine SndV.same hR (v':=.bool !b0) ?_ (.sc _)
      simp only [Sem.run_bind,hg,Result.andThen_ok]
      cases a'<;>first|exact absurd rfl (q2 _ _)|exact absurd rfl (q3 _)|exact absurd rfl (q4 _ _)|exact absurd rfl (q5 _ _ _)|simp [binOp,q1]
  have key2 : ∀ x0 y0 v0, a = .sc x0 → b = .sc y0 → (∀ c, x0 ≠ .agg c) → x0 ≠ .nilIface → scBin op x0 y0 = some v0 → v = .sc v0 →
      SndV E ι H σ ((do eqGuard op t x y a' b'; binOp op t a' b':Sem Value).run E.P w) v σ:=by
    intro x0 y0 v0 h1 h2 h3 h4 h5 h6
    subst h1 h2 h6
    obtain rfl:=ha.sc_inv
    obtain rfl:=hb.sc_inv
    have hg:=run_eqGuard (E:=E) (w:=w) (op:=op) (t:=t) (x:=x) (y:=y) (a:=a') (b:=b') h3 (fun hc=>absurd hc.1 h4)
    refine SndV.same hR (v':=v0) ?_ (.sc _)
    simp only [Sem.run_bind,hg,Result.andThen_ok]
    exact scBin_sound h5 t E.P
  unfold aBin at h
  split at h
  · rename_i k z y0
    cases hh:scBin op (.int k z) y0 with
    | none=>simp [hh] at h
    | some v0=>simp [hh] at h; exact key2 _ _ v0 rfl rfl (by simp) (by simp) hh h.symm
  · rename_i z y0
    cases hh:scBin op (.string z) y0 with
    | none=>simp [hh] at h
    | some v0=>simp [hh] at h; exact key2 _ _ v0 rfl rfl (by simp) (by simp) hh h.symm
  · split at h
    · cases he:aEq i.desc (isConstOp x || isConstOp y) a b with
      | none=>simp [he] at h
      | some b0=>simp [he] at h; exact key b0 he (.inl ⟨rfl,h.symm⟩)
    · cases he:aEq i.desc (isConstOp x || isConstOp y) a b with
      | none=>simp [he] at h
      | some b0=>simp [he] at h; exact key b0 he (.inr ⟨rfl,h.symm⟩)
    · cases h
def aUn (op:UnOp) (x:AVal):Option AVal:=
 match op,x with
 | .neg,.sc (.int k n)=>some (.sc (.int k (k.wrap (0 - n))))
 | .xor,.sc (.int k n)=>some (.sc (.int k (k.wrap (BitVec.ofInt k.bits (if k.signed then -1 else k.max) ^^^ BitVec.ofInt k.bits n).toNat)))
 | .not,.sc (.bool b)=>some (.sc (.bool !b))
 | _,_=>none
theorem aUn_sound (hR:Rel E ι H σ w) {op:UnOp} {x v:AVal} {x':Value} (hx:VRel σ.next ι H x x') (h:aUn op x=some v):SndV E ι H σ ((Op.unary op x').run E.P w) v σ:=by
 unfold aUn at h
 split at h
 ·obtain rfl:=hx.sc_inv; cases h; exact SndV.same hR (v':=.int _ _) (by simp [Op.unary,Op.intArith]) (.sc _)
 ·obtain rfl:=hx.sc_inv; cases h; exact SndV.same hR (v':=.int _ _) (by simp [Op.unary,Op.intBits]) (.sc _)
 ·obtain rfl:=hx.sc_inv; cases h; exact SndV.same hR (v':=.bool _) (by simp [Op.unary]) (.sc _)
 ·cases h
end
end Abs
end
noncomputable section
namespace Abs
open Go
def aEqFs (E:Env) (f:TypeId->AVal->AVal->Option Bool) (xs ys:List AVal):List Field->Option Bool
 | []=>some true
 | fd::r=>
  match decide (fd.name= "_") with
  | true=>aEqFs E f xs ys r
  | false=>
   match E.ty fd.type with
   | some j=>
    match loadCs j.isA j.size fd.offset xs,loadCs j.isA j.size fd.offset ys with
    | some a,some b=>
     match f fd.type a b with
     | some true=>aEqFs E f xs ys r
     | some false=>some false
     | none=>none
    | _,_=>none
   | none=>none
def aEqIn (E:Env):Nat->TypeId->AVal->AVal->Option Bool
 | 0,_,_,_=>none
 | d+1,t,x,y=>
  match E.ty t with
  | none=>none
  | some i=>
   match i.desc,x,y with
   | .bool,.sc (.bool a),.sc (.bool b)=>some (a==b)
   | .int _,.sc (.int k a),.sc (.int k' b)=>if k=k' then some (a==b) else none
   | .string,.sc (.string a),.sc (.string b)=>some (a==b)
   | .struct fs,.agg xs,.agg ys=>
    match E.P.stoodInHeld t with
    | true=>none
    | false=>aEqFs E (aEqIn E d) xs ys fs.toList
   | _,_,_=>none
section
variable {E:Env} {ι:Inj} {H:Imm} {w:World} {n:Nat}
theorem aEqFs_sound {d : Nat} {f : TypeId → AVal → AVal → Option Bool}
    (hf:∀ t x y x' y' b,VRel n ι H x x'->VRel n ι H y y'->f t x y=some b->(Op.equalIn d t x' y').run E.P w=.ok b w)
    {xs ys:List AVal} {xs' ys':List Value} (hx:LRel n ι H xs xs') (hy:LRel n ι H ys ys'):∀ (fs:List Field) (b:Bool),aEqFs E f xs ys fs=some b->
    (forIn (m := Sem) fs ((none, ()) : Option Bool × Unit) fun fd _ => if fd.name ≠ "_" then (do
        let a <-part fd.type xs'.toArray fd.offset
        let b <-part fd.type ys'.toArray fd.offset
        let r <-Op.equalIn d fd.type a b
        if (!r)=true then pure (ForInStep.done (some false,())) else pure (ForInStep.yield (none,())):Sem (ForInStep (Option Bool×Unit))) else pure (ForInStep.yield (none,()))).run E.P w=.ok (if b then (none,()) else (some false,())) w
  | [], b, h => by
      cases h
      simp
  | fd :: r, b, h => by
      unfold aEqFs at h
      rw [List.forIn_cons,Sem.run_bind]
      split at h
      · rename_i hn
        have hn:fd.name= "_":=by simpa using hn
        simp only [hn,ne_eq,not_true_eq_false,if_false,Sem.run_pure,Result.andThen_ok]
        exact aEqFs_sound hf hx hy r b h
      · rename_i hn
        have hn:¬ fd.name= "_":=by simpa using hn
        split at h
        · rename_i j hj
          split at h
          · rename_i a b' ha hb
            obtain ⟨a',p1,p2⟩:=run_part (E:=E) (w:=w) hj hx ha
            obtain ⟨b'',p3,p4⟩:=run_part (E:=E) (w:=w) hj hy hb
            split at h
            · rename_i hr
              have:=hf _ _ _ _ _ _ p2 p4 hr
              simp only [hn,ne_eq,not_false_eq_true,if_true,Sem.run_bind,p1,p3,Result.andThen_ok,this,Bool.not_true,Bool.false_eq_true,if_false,Sem.run_pure]
              exact aEqFs_sound hf hx hy r b h
            · rename_i hr
              cases h
              have:=hf _ _ _ _ _ _ p2 p4 hr
              simp [hn,Sem.run_bind,p1,p3,this]
            · cases h
          · cases h
        · cases h
theorem aEqIn_sound:∀ (d:Nat) (t:TypeId) (x y:AVal) (x' y':Value) (b:Bool),VRel n ι H x x'->VRel n ι H y y'->aEqIn E d t x y=some b->(Op.equalIn d t x' y').run E.P w=.ok b w
  | 0,_,_,_,_,_,_,_,_,h=>by cases h
  | d + 1, t, x, y, x', y', b, hx, hy, h => by
      unfold aEqIn at h
      split at h
      · cases h
      · rename_i i hi
        have hu:=run_underlying E.ok hi w
        split at h
        · rename_i hd
          obtain rfl:=hx.sc_inv; obtain rfl:=hy.sc_inv
          cases h
          rw [Op.equalIn,Sem.run_bind,hu,hd]; rfl
        · rename_i hd
          obtain rfl:=hx.sc_inv; obtain rfl:=hy.sc_inv
          split at h
          · rename_i hk
            cases h
            subst hk
            rw [Op.equalIn,Sem.run_bind,hu,hd]; simp
          · cases h
        · rename_i hd
          obtain rfl:=hx.sc_inv; obtain rfl:=hy.sc_inv
          cases h
          rw [Op.equalIn,Sem.run_bind,hu,hd]; rfl
        · rename_i fs xs ys hd
          obtain ⟨xs',rfl,hxs⟩:=hx.agg_inv
          obtain ⟨ys',rfl,hys⟩:=hy.agg_inv
          split at h
          · cases h
          · rename_i hst
            have:=aEqFs_sound (E:=E) (w:=w) (d:=d) (fun t x y x' y' b=>aEqIn_sound d t x y x' y' b) hxs hys fs.toList b h
            rw [Op.equalIn,Sem.run_bind,hu,hd]
            have hp:(program:Sem Program).run E.P w=.ok E.P w:=rfl
            simp only [Result.andThen_ok,Sem.run_bind,hp,hst,Bool.false_eq_true,if_false]
            rw [<-Array.forIn_toList,this]
            cases b<;>simp
        · cases h
def aBin2 (E:Env) (t:TypeId) (d:TypeDesc) (op:BinOp) (cst:Bool) (x y:AVal):Option AVal:=
 match x,y with
 | .agg xs,.agg ys=>
  match E.P.eqGuardType E.P.depth t with
  | true=>none
  | false=>
   match op with
   | .eql=>(aEqIn E 10000 t (.agg xs) (.agg ys)).map fun b=>.sc (.bool b)
   | .neq=>(aEqIn E 10000 t (.agg xs) (.agg ys)).map fun b=>.sc (.bool !b)
   | _=>none
 | .ptr b i k,.ptr b' i' k'=>
  match d with
  | .pointer te=>
   match E.ty te,Nat.beq b b' && (Nat.beq i i' && Nat.beq k k'),op with
   | some _,true,.eql=>some (.sc (.bool true))
   | some _,true,.neq=>some (.sc (.bool false))
   | _,_,_=>none
  | _=>none
 | x,y=>aBin d op cst x y
theorem run_eql_ptr_same {P:Program} {w:World} {tp te:TypeId} {j:TypeInfo} (a:Addr) (hp:P.underlying tp=some (.pointer te)) (hte:P.info? te=some j):
  (Op.equal tp (.pointer (some a)) (.pointer (some a))).run P w=.ok true w:=by
 have h:∀ d:Nat,(Op.equalIn (d+1) tp (.pointer (some a)) (.pointer (some a))).run P w=.ok true w:=fun d=>by
  simp [Op.equalIn,Go.run_underlying hp,Go.sizeOf,typeInfo,hte,run_sameAddr_same]
 exact h 9999
theorem aBin2_sound {σ:AStore} (hR:Rel E ι H σ w) {t:TypeId} {i:TyI} (hs:E.ty t=some i) {op:BinOp} {x y:Operand} {a b v:AVal} {a' b':Value} (ha:VRel σ.next ι H a a') (hb:VRel σ.next ι H b b')
  (h:aBin2 E t i.desc op (isConstOp x || isConstOp y) a b=some v):
  SndV E ι H σ ((do eqGuard op t x y a' b'; binOp op t a' b':Sem Value).run E.P w) v σ:=by
 unfold aBin2 at h
 split at h
 ·rename_i xs ys
  have ha0:=ha
  have hb0:=hb
  obtain ⟨xs',rfl,hxs⟩:=ha.agg_inv
  obtain ⟨ys',rfl,hys⟩:=hb.agg_inv
  split at h
  ·cases h
  ·rename_i hg
   have hp:(program:Sem Program).run E.P w=.ok E.P w:=rfl
   split at h
   ·cases he:aEqIn E 10000 t (.agg xs) (.agg ys) with
    | none=>rw [he] at h; cases h
    | some b0=>
     rw [he] at h
     cases h
     have h1:(Op.equal t (.agg xs'.toArray) (.agg ys'.toArray)).run E.P w=.ok b0 w:=aEqIn_sound 10000 t _ _ _ _ b0 ha0 hb0 he
     refine SndV.same hR (v':=.bool b0) ?_ (.sc _)
     simp [eqGuard,hp,hg,binOp,h1]
   ·cases he:aEqIn E 10000 t (.agg xs) (.agg ys) with
    | none=>rw [he] at h; cases h
    | some b0=>
     rw [he] at h
     cases h
     have h1:(Op.equal t (.agg xs'.toArray) (.agg ys'.toArray)).run E.P w=.ok b0 w:=aEqIn_sound 10000 t _ _ _ _ b0 ha0 hb0 he
     refine SndV.same hR (v':=.bool !b0) ?_ (.sc _)
     simp [eqGuard,hp,hg,binOp,h1]
   ·cases h
 ·rename_i b0 i0 k0 b1 i1 k1
  split at h
  ·rename_i te hd
   split at h
   ·rename_i j hj hbb
    rw [Bool.and_eq_true,Bool.and_eq_true] at hbb
    obtain ⟨e1,e2,e3⟩:=hbb
    obtain rfl:=Nat.eq_of_beq_eq_true e1
    obtain rfl:=Nat.eq_of_beq_eq_true e2
    obtain rfl:=Nat.eq_of_beq_eq_true e3
    cases h
    obtain ⟨_,rfl⟩:=ha.ptr_inv
    obtain ⟨_,rfl⟩:=hb.ptr_inv
    obtain ⟨_,info,q1,_⟩:=E.ok te j hj
    have hp:E.P.underlying t=some (.pointer te):=by rw [(E.ok t i hs).1,hd]
    have hg:=run_eqGuard (E:=E) (w:=w) (op:=.eql) (t:=t) (x:=x) (y:=y) (a:=.pointer (some ⟨(ι b0).blk,(ι b0).base+i0*(ι b0).sz+k0,none⟩)) (b:=.pointer (some ⟨(ι b0).blk,(ι b0).base+i0*(ι b0).sz+k0,none⟩)) (by intro c hc; cases hc) (by rintro ⟨hc,_⟩; cases hc)
    have h1:=run_eql_ptr_same (w:=w) ⟨(ι b0).blk,(ι b0).base+i0*(ι b0).sz+k0,none⟩ hp q1
    refine SndV.same hR (v':=.bool true) ?_ (.sc _)
    simp only [Sem.run_bind,hg,Result.andThen_ok]
    simp [binOp,h1]
   ·rename_i j hj hbb
    rw [Bool.and_eq_true,Bool.and_eq_true] at hbb
    obtain ⟨e1,e2,e3⟩:=hbb
    obtain rfl:=Nat.eq_of_beq_eq_true e1
    obtain rfl:=Nat.eq_of_beq_eq_true e2
    obtain rfl:=Nat.eq_of_beq_eq_true e3
    cases h
    obtain ⟨_,rfl⟩:=ha.ptr_inv
    obtain ⟨_,rfl⟩:=hb.ptr_inv
    obtain ⟨_,info,q1,_⟩:=E.ok te j hj
    have hp:E.P.underlying t=some (.pointer te):=by rw [(E.ok t i hs).1,hd]
    have hg:=run_eqGuard (E:=E) (w:=w) (op:=.neq) (t:=t) (x:=x) (y:=y) (a:=.pointer (some ⟨(ι b0).blk,(ι b0).base+i0*(ι b0).sz+k0,none⟩)) (b:=.pointer (some ⟨(ι b0).blk,(ι b0).base+i0*(ι b0).sz+k0,none⟩)) (by intro c hc; cases hc) (by rintro ⟨hc,_⟩; cases hc)
    have h1:=run_eql_ptr_same (w:=w) ⟨(ι b0).blk,(ι b0).base+i0*(ι b0).sz+k0,none⟩ hp q1
    refine SndV.same hR (v':=.bool false) ?_ (.sc _)
    simp only [Sem.run_bind,hg,Result.andThen_ok]
    simp [binOp,h1]
   ·cases h
  ·cases h
 ·exact aBin_sound hR hs ha hb h
end
end Abs
end
noncomputable section
namespace Abs
open Go
section
variable {E:Env} {ι:Inj} {H:Imm} {σ σ':AStore} {w:World}
def bytesOf (s:ByteArray):List AVal:=s.data.toList.map fun b=>.sc (.int .u8 b.toNat)
def unbytes:List AVal->Option (List Int)
 | []=>some []
 | .sc (.int .u8 n)::rest=>(unbytes rest).map (n::·)
 | _::_=>none
def strOf (ns:List Int):ByteArray:=ns.foldl (fun r n=>r.push (UInt8.ofNat n.toNat)) ByteArray.empty
def aToU (ty:Nat->Option TyI) (t:TypeId) (x:AVal) (σ:AStore):Option (AVal×AStore):=
 match x with
 | .sc (.pointer none)=>some (.sc (.pointer none),σ)
 | .ptr b i k=>
  match ty t,σ.get b with
  | some j,some (.cells sz els)=>if j.size≠0/\i < els.length/\k < sz then some (.ptr b i k,σ) else none
  | _,_=>none
 | _=>none
def aFromU (ty:Nat->Option TyI) (u:TypeId) (x:AVal) (σ:AStore):Option (AVal×AStore):=
 match x with
 | .sc (.pointer none)=>some (.sc (.pointer none),σ)
 | .ptr b 0 0=>
  match ty u,σ.get b with
  | some j,some (.cells sz els)=>if j.size=sz/\sz≠0/\1<=els.length/\hasTy σ.tys b u=true then some (.ptr b 0 0,σ) else none
  | _,_=>none
 | _=>none
def aConv (ty:Nat->Option TyI) (s d:TypeDesc) (x:AVal) (σ:AStore):Option (AVal×AStore):=
 match d,x with
 | .int k,.sc (.int _ n)=>some (.sc (.int k (k.wrap n)),σ)
 | .string,.sc (.string b)=>match s with|.string=>some (.sc (.string b),σ)|_=>none
 | .slice e,.sc (.string b)=>
  match s,ty e with
  | .string,some i=>match i.desc with|.int .u8=>some (.slice σ.next 0 b.size,σ.alloc (.cells 1 (bytesOf b)))|_=>none
  | _,_=>none
 | .string,x=>
  match s with
  | .slice e=>
   match ty e with
   | some i=>
    match i.desc with
    | .int .u8=>
     match aElems 1 x σ with
     | some els=>(unbytes els).map fun ns=>(.sc (.string (strOf ns)),σ)
     | none=>none
    | _=>none
   | none=>none
  | _=>none
 | .unsafePointer,x=>match s with
  | .pointer t=>aToU ty t x σ
  | _=>none
 | .pointer u,x=>match s with
  | .unsafePointer=>aFromU ty u x σ
  | _=>none
 | _,_=>none
theorem unbytes_map:∀ {els:List AVal} {ns:List Int},unbytes els=some ns->els=ns.map fun n=>.sc (.int .u8 n)
  | [],ns,h=>by simp [unbytes] at h; subst h; rfl
  | e :: els, ns, h => by
      unfold unbytes at h
      split at h
      · rename_i h'; cases h'
      · rename_i n rest h'
        cases h'
        cases hr:unbytes els with
        | none=>simp [hr] at h
        | some ms=>simp [hr] at h; subst h; simp [unbytes_map hr]
      · cases h
theorem DRel.scs {n:Nat}:∀ {ms:List Int} {ws:List Value},DRel n ι H (ws[·]?) 1 (ms.map fun z=>.sc (.int .u8 z)) 0->ws.length=ms.length->ws=ms.map (Value.int .u8):=by
 intro ms ws h hl
 apply List.ext_getElem?
 intro i
 by_cases hi:i < ms.length
 ·have:=(h.get (i:=i) (e:=.sc (.int .u8 ms[i])) (by simp [hi])).1
  simp only [AVal.cells] at this
  cases this with
  | cons _ _ v _ _ ho hv _=>
   have:=hv.sc_inv
   subst this
   have ho':ws[0+i*1]?=some (Value.int .u8 ms[i]):=ho
   rw [show 0+i*1=i by omega] at ho'
   rw [ho']
   simp [hi]
 ·rw [List.getElem?_eq_none (by omega),List.getElem?_eq_none (by simp; omega)]
theorem bytesRow_rel {n:Nat} (s:ByteArray) (m:Nat):DRel n ι H ((bytesRow s m)[·]?) 1 (bytesOf s) 0:=by
 apply DRel.of_get
 intro i e he
 unfold bytesOf at he
 rw [List.getElem?_map] at he
 cases hb:s.data.toList[i]? with
 | none=>simp [hb] at he
 | some b=>
  simp [hb] at he
  subst he
  refine ⟨.cons _ _ (.int .u8 b.toNat) _ _ ?_ (.sc _) (.nil _ _),rfl⟩
  have hi:i < s.data.size:=by
   rcases Nat.lt_or_ge i s.data.size with h|h
   ·exact h
   ·rw [List.getElem?_eq_none (by simpa using h)] at hb; cases hb
  show (bytesRow s m)[0+i*1]?=_
  rw [show 0+i*1=i by omega]
  unfold bytesRow
  rw [Array.getElem?_append_left (by simpa using hi)]
  simp at hb
  simp [hb]
theorem liesAt_self {P:Program} {e:TypeId} (hc:P.cellsOf e≠0) (count n:Nat) (hn:n<=count):liesAt P P.depth e count 0 e n=true:=by
 have hd:P.depth=(2*(P.types.size+Made.depth)+1)+1:=rfl
 rw [hd]
 simp only [liesAt,Bool.or_eq_true]
 left
 rw [hd]
 simp [rowAt,hc,hn,sameLayout]
theorem cellsOf_ty {t:TypeId} {j:TyI} (h:E.ty t=some j):E.P.cellsOf t=j.size:=by
 obtain ⟨_,info,h1,h2,_⟩:=E.ok t j h
 simp [Program.cellsOf,h1,h2]
theorem aToU_sound (hR:Rel E ι H σ w) {s d t:TypeId} (hs:E.P.underlying s=some (.pointer t)) (hd:E.P.underlying d=some .unsafePointer) {x v:AVal} {x':Value} (hx:VRel σ.next ι H x x')
  (h:aToU E.ty t x σ=some (v,σ')):SndV E ι H σ ((convert s d x').run E.P w) v σ':=by
 unfold aToU at h
 split at h
 ·obtain rfl:=hx.sc_inv
  cases h
  refine SndV.same hR (v':=.pointer none) ?_ (.sc _)
  simp [convert,Go.run_underlying hs,Go.run_underlying hd,Conv.unsafePointer]
 ·rename_i b i k
  obtain ⟨hb,rfl⟩:=hx.ptr_inv
  split at h
  ·rename_i j sz els hj hg
   split at h
   ·rename_i hc
    obtain ⟨h1,h2,h3⟩:=hc
    cases h
    obtain ⟨g1,g2,c,elem,fr,g3,gf,g4,g5,g6⟩:=(hR.live b _ hg).1
    obtain ⟨_,info,i1,i2,_⟩:=E.ok t j hj
    refine SndV.same hR ?_ hx
    have hsh:w.shape? (ι b).blk=some (elem,c.size):=by simp [World.shape?,g3]
    have hoff:(ι b).base+i*(ι b).sz+k < c.size:=by
     have:(i+1)*sz<=(ι b).cap*sz:=Nat.mul_le_mul_right _ (by omega)
     rw [Nat.add_mul] at this
     rw [g1]; omega
    have hn:¬ c.size<=(ι b).base+i*(ι b).sz+k:=by omega
    simp [convert,Go.run_underlying hs,Go.run_underlying hd,Conv.unsafePointer,Conv.seenAt,viewAt,cellsIn,hsh,Go.sizeOf,typeInfo,i1,i2,h1,hn]
   ·cases h
  ·cases h
 ·cases h
theorem aFromU_sound (hR:Rel E ι H σ w) {s d u:TypeId} (hs:E.P.underlying s=some .unsafePointer) (hd:E.P.underlying d=some (.pointer u)) {x v:AVal} {x':Value} (hx:VRel σ.next ι H x x')
  (h:aFromU E.ty u x σ=some (v,σ')):SndV E ι H σ ((convert s d x').run E.P w) v σ':=by
 unfold aFromU at h
 split at h
 ·obtain rfl:=hx.sc_inv
  cases h
  refine SndV.same hR (v':=.pointer none) ?_ (.sc _)
  simp [convert,Go.run_underlying hs,Go.run_underlying hd,Conv.unsafePointer]
 ·rename_i b
  obtain ⟨hb,rfl⟩:=hx.ptr_inv
  split at h
  ·rename_i j sz els hj hg
   split at h
   ·rename_i hc
    obtain ⟨h1,h2,h3,h4⟩:=hc
    cases h
    obtain ⟨g1,g2,c,elem,fr,g3,gf,g4,g5,g6⟩:=(hR.live b _ hg).1
    obtain ⟨_,t2,t3⟩:=hR.tys _ _ (hasTy_mem h4)
    obtain ⟨_,info,i1,i2,_⟩:=E.ok u j hj
    have he:elem=u:=g6.trans t2
    subst he
    refine SndV.same hR ?_ hx
    have hsh:w.shape? (ι b).blk=some (elem,c.size):=by simp [World.shape?,g3]
    have hcell:=cellsOf_ty hj
    have hle:1<=c.size / j.size:=by
     rw [Nat.le_div_iff_mul_le (by omega)]
     have:1*sz<=(ι b).cap*sz:=Nat.mul_le_mul_right _ (by omega)
     rw [h1]; omega
    have hlies:=liesAt_self (P:=E.P) (e:=elem) (by rw [hcell]; omega) (c.size / E.P.cellsOf elem) 1 (by rw [hcell]; exact hle)
    simp [convert,Go.run_underlying hs,Go.run_underlying hd,Conv.unsafePointer,Conv.seenAt,viewAt,hsh,variablesAt,hlies,t3,Go.sizeOf,typeInfo,i1]
   ·cases h
  ·cases h
 ·cases h
theorem aConv_sound (hR:Rel E ι H σ w) {s d:TypeId} {si di:TyI} (hs:E.ty s=some si) (hd:E.ty d=some di) {x v:AVal} {x':Value} (hx:VRel σ.next ι H x x')
  (h:aConv E.ty si.desc di.desc x σ=some (v,σ')):SndV E ι H σ ((convert s d x').run E.P w) v σ':=by
 have hu1:=run_underlying E.ok hs w
 have hu2:=run_underlying E.ok hd w
 have hp1:=(E.ok s si hs).1
 have hp2:=(E.ok d di hd).1
 unfold aConv at h
 split at h
 ·rename_i k k' n hdd
  obtain rfl:=hx.sc_inv
  cases h
  refine SndV.same hR (v':=.int k (k.wrap n)) ?_ (.sc _)
  simp only [convert,Sem.run_bind,hu1,hu2,Result.andThen_ok,hdd]
  cases si.desc<;>rfl
 ·rename_i b hdd
  obtain rfl:=hx.sc_inv
  split at h
  ·rename_i hss
   cases h
   refine SndV.same hR (v':=.string b) ?_ (.sc _)
   simp [convert,hu1,hu2,hdd,hss]
  ·cases h
 ·rename_i e b hdd
  obtain rfl:=hx.sc_inv
  split at h
  ·rename_i i hss he
   split at h
   ·rename_i hii
    cases h
    have hr:=run_bytes_of_string (P:=E.P) w s d e b (by rw [hp1,hss]) (by rw [hp2,hdd]) (by rw [(E.ok e i he).1,hii])
    have hcap:=cap_le w b.size 0 e
    have hsz:(bytesRow b (grownCap w b.size 0 e)).size=grownCap w b.size 0 e:=by
     simp [bytesRow]; show b.data.size+_=_; have:b.data.size=b.size:=rfl; omega
    obtain ⟨ι',r1,r2,r3,_⟩:=(hR.drew).newRow e (c:=bytesRow b (grownCap w b.size 0 e)) (sz:=1) (cap:=grownCap w b.size 0 e) (len:=b.size) (els:=bytesOf b) (bytesRow_rel b _)
     (by rw [hsz]; omega) (by simp [bytesOf]; exact hcap) hcap (fr:=((bytesRow b (grownCap w b.size 0 e)).size,(bytesRow b (grownCap w b.size 0 e)).size+1)) (by intro o ho; simp; omega)
    exact ⟨_,_,ι',H,hr,r3,r1,r2⟩
   ·cases h
  ·cases h
 ·rename_i hdd hnot
  split at h
  ·rename_i e hss
   split at h
   ·rename_i i he
    split at h
    ·rename_i hii
     split at h
     ·rename_i els hels
      cases hun:unbytes els with
      | none=>simp [hun] at h
      | some ns=>
       simp [hun] at h
       obtain ⟨rfl,rfl⟩:=h
       obtain ⟨a,cap,rfl,ws,h1,h2,h3⟩:=aElems_sound hR hx hels
       refine SndV.same hR (v':=.string (strOf ns)) ?_ (.sc _)
       rw [run_convert_bytes_string w s d e a els.length cap (by rw [hp1,hss]) (by rw [(E.ok e i he).1,hii]) (by rw [hp2,hdd])]
       obtain rfl:=unbytes_map hun
       have hws:=DRel.scs h2 (by simpa using h1)
       subst hws
       have hf:=h3 E.P _ (Nat.le_refl _)
       cases a with
       | none=>
        simp only [Builtin.firstCells,Sem.run_pure] at hf
        have hz:ns=[]:=by
         have:=congrArg (fun r=>match r with|Result.ok a _=>a.size|_=>0) hf
         simp at this
         exact List.length_eq_zero_iff.1 this.symm
        subst hz
        rfl
       | some a=>
        refine run_bytesToString w a _ cap ns ?_
        have:(loadCells a ((List.map (fun n=>AVal.sc (Value.int IntKind.u8 n)) ns).length*1)).run E.P w=_:=hf
        rw [Nat.mul_one] at this
        rw [this]
        simp only [List.length_map]
        rw [List.take_of_length_le (by simp)]
     ·cases h
    ·cases h
   ·cases h
  ·cases h
 ·rename_i hdd
  split at h
  ·rename_i hss
   exact aToU_sound hR (by rw [hp1,hss]) (by rw [hp2,hdd]) hx h
  ·cases h
 ·rename_i hdd
  split at h
  ·rename_i hss
   exact aFromU_sound hR (by rw [hp1,hss]) (by rw [hp2,hdd]) hx h
  ·cases h
 ·cases h
def aIface (d:TypeDesc) (t:TypeId) (x:AVal):Option AVal:=
 match d with
 | .interface _=>none
 | _=>some (.iface t x)
theorem aIface_sound (hR:Rel E ι H σ w) {t:TypeId} {i:TyI} (hs:E.ty t=some i) {x v:AVal} {x':Value} (hx:VRel σ.next ι H x x') (h:aIface i.desc t x=some v):
  SndV E ι H σ ((Instr.makeInterface t x').run E.P w) v σ:=by
 have hu:=run_underlying E.ok hs w
 unfold aIface at h
 split at h
 ·cases h
 ·rename_i hne
  cases h
  refine SndV.same hR (v':=.iface t x') ?_ (.iface _ _ _ hx)
  simp only [Instr.makeInterface,Sem.run_bind,hu,Result.andThen_ok]
  cases hd:i.desc<;>first|exact absurd hd (hne _)|rfl
def aAssert (d:TypeDesc) (t:TypeId) (z:Value) (ok:Bool) (x:AVal):Option AVal:=
 match d with
 | .interface _=>none
 | _=>
  match x with
  | .iface t' v=>if t'=t then some (if ok then .tuple [v,.sc (.bool true)] else v) else if ok then some (.tuple [absV z,.sc (.bool false)]) else none
  | .sc .nilIface=>if ok then some (.tuple [absV z,.sc (.bool false)]) else none
  | _=>none
theorem aAssert_sound (hR:Rel E ι H σ w) {t xt:TypeId} {i:TyI} (hs:E.ty t=some i) {x v:AVal} {x':Value} (hx:VRel σ.next ι H x x') {ok:Bool} (h:aAssert i.desc t i.zero ok x=some v):
  SndV E ι H σ ((Instr.typeAssert x' xt t ok).run E.P w) v σ:=by
 have hu:=run_underlying E.ok hs w
 have hz:=run_zeroValue E.ok hs w
 unfold aAssert at h
 split at h
 ·cases h
 ·rename_i hne
  split at h
  ·rename_i t' y
   obtain ⟨y',rfl,hy⟩:=hx.iface_inv
   split at h
   ·rename_i ht
    subst ht
    cases h
    refine SndV.same hR (v':=if ok then .tuple #[y',.bool true] else y') ?_ (out_rel ok true hy)
    simp only [Instr.typeAssert,Sem.run_bind,hu,Result.andThen_ok,if_true]
    cases hd:i.desc<;>first|exact absurd hd (hne _)|rfl
   ·rename_i ht
    split at h
    ·rename_i hok
     cases h
     subst hok
     refine SndV.same hR (v':=.tuple #[i.zero,.bool false]) ?_ (out_rel true false (absV_rel _ _ _ _))
     simp only [Instr.typeAssert,Sem.run_bind,hu,Result.andThen_ok,if_true,if_neg ht]
     cases hd:i.desc<;>first|exact absurd hd (hne _)|simp [hz]
    ·cases h
  ·obtain rfl:=hx.sc_inv
   split at h
   ·rename_i hok
    cases h
    subst hok
    refine SndV.same hR (v':=.tuple #[i.zero,.bool false]) ?_ (out_rel true false (absV_rel _ _ _ _))
    simp only [Instr.typeAssert,Sem.run_bind,hu,Result.andThen_ok,if_true]
    cases hd:i.desc<;>first|exact absurd hd (hne _)|simp [hz]
   ·cases h
  ·cases h
def aExtract (x:AVal) (k:Nat):Option AVal:=
 match x with
 | .tuple vs=>vs[k]?
 | _=>none
theorem aExtract_sound (hR:Rel E ι H σ w) {x v:AVal} {x':Value} (hx:VRel σ.next ι H x x') {k:Nat} (h:aExtract x k=some v):SndV E ι H σ ((Instr.extract x' k).run E.P w) v σ:=by
 unfold aExtract at h
 split at h
 ·obtain ⟨vs',rfl,hv⟩:=hx.tuple_inv
  obtain ⟨v',h1,h2⟩:=hv.get h
  refine SndV.same hR (v':=v') ?_ h2
  simp [Instr.extract,h1]
 ·cases h
def aCopy (sz:Nat) (dst src:AVal) (σ:AStore):Option (AVal×AStore):=
 match aSrc sz src σ with
 | some xs=>
  match dst with
  | .sc (.slice none 0 0)=>some (.sc (.int .i64 0),σ)
  | .slice b off len=>
   match σ.get b with
   | some (.cells sz' els)=>
    let m:=min xs.length len
    if sz'=sz/\off+m<=els.length/\allCells xs=true then
     some (.sc (.int .i64 m),σ.set b (.cells sz (overlay els off (xs.take m))))
    else none
   | _=>none
  | .view b off len=>
   match σ.get b with
   | some (.cells sz' els)=>
    let m:=min xs.length len
    if sz'=sz/\off+m<=els.length/\allCells xs=true then
     some (.sc (.int .i64 m),σ.set b (.cells sz (overlay els off (xs.take m))))
    else none
   | _=>none
  | .data sz' _ els=>if els.length=0/\sz'=sz then some (.sc (.int .i64 0),σ) else none
  | _=>none
 | none=>none
theorem aCopy_sound (hR:Rel E ι H σ w) {t:TypeId} {i:TyI} (hs:E.ty t=some i) {el:TypeId} (hd:i.desc=.slice el) {j:TyI} (hj:E.ty el=some j) {dst src v:AVal} {dst' src':Value}
  (hdst:VRel σ.next ι H dst dst') (hsrc:VRel σ.next ι H src src') (h:aCopy j.size dst src σ=some (v,σ')) (rt:TypeId) {ats:Array TypeId} (ha:ats[0]?=some t):
  SndV E ι H σ ((Builtin.copy_ ats rt #[dst',src']).run E.P w) v σ':=by
 have hu:=run_underlying E.ok hs w
 have hz:=run_sizeOf E.ok hj w
 unfold aCopy at h
 split at h
 ·rename_i xs hxs
  obtain ⟨hlen,ws,hws,hwD,hfirst⟩:=aSrc_sound hR hsrc hxs
  split at h
  ·obtain rfl:=hdst.sc_inv
   cases h
   refine SndV.same hR (v':=goInt 0) ?_ (.sc _)
   have:=hfirst E.P 0 (Nat.zero_le _)
   simp [Builtin.copy_,ha,hu,hd,hlen,hz,this]
  ·rename_i b off len
   obtain ⟨cap,rfl,hb,hl,hcap⟩:=hdst.slice_inv
   split at h
   ·rename_i sz' els hg
    simp only [] at h
    split at h
    ·rename_i hc
     obtain ⟨rfl,hoff,hall⟩:=hc
     cases h
     obtain ⟨hb1,hb2,hb3⟩:=hR.live b _ hg
     obtain ⟨g1,g2,c,el',fr,g3,gf,g4,g5,g6⟩:=hb1
     have hm:min xs.length len<=xs.length:=Nat.min_le_left _ _
     have hf:=hfirst E.P _ hm
     have hall':allCells (xs.take (min xs.length len))=true:=by
      unfold allCells at hall ⊢
      rw [List.all_eq_true] at hall ⊢
      intro x hx
      exact hall x (List.mem_of_mem_take hx)
     have hlt:(xs.take (min xs.length len)).length=min xs.length len:=by simp
     have hwl:(ws.take (min xs.length len*j.size)).length=(xs.take (min xs.length len)).length*j.size:=by
      rw [hlt,List.length_take,hws]
      have:min xs.length len*j.size<=xs.length*j.size:=Nat.mul_le_mul_right _ hm
      omega
     have hwD':DRel σ.next ι H ((ws.take (min xs.length len*j.size))[·]?) j.size (xs.take (min xs.length len)) 0:=by
      apply DRel.of_get
      intro q e he
      have hq:q < min xs.length len:=by
       rcases Nat.lt_or_ge q (min xs.length len) with h'|h'
       ·exact h'
       ·rw [List.getElem?_eq_none (by omega)] at he; cases he
      rw [List.getElem?_take,if_pos hq] at he
      obtain ⟨a1,a2⟩:=hwD.get he
      refine ⟨a1.congr ?_,a2⟩
      intro k hk1 hk2
      show (ws.take _)[k]?=ws[k]?
      have:(q+1)*j.size<=min xs.length len*j.size:=Nat.mul_le_mul_right _ hq
      rw [Nat.add_mul] at this
      rw [List.getElem?_take,if_pos (by omega)]
     have hcell:=DRel.isCell hwD' hwl hall'
     have hle:(ι b).base+off*j.size+(ws.take (min xs.length len*j.size)).length<=c.size:=by
      have h1:(off+min xs.length len)*j.size<=els.length*j.size:=Nat.mul_le_mul_right _ hoff
      have h2:els.length*j.size<=(ι b).cap*j.size:=Nat.mul_le_mul_right _ g2
      rw [Nat.add_mul] at h1; rw [hwl,hlt]; omega
     obtain ⟨w',r1,r2,r3⟩:=run_storeCells E.P (ι b).blk ((ι b).base+off*j.size) el' fr (ws.take (min xs.length len*j.size)) w c 0 g3 gf hcell (by omega)
     have hheap:w'.heap[(ι b).blk]?=some (.cells (splice c ((ι b).base+off*j.size) (ws.take (min xs.length len*j.size))) el' fr):=by
      rw [r2]; simp [hb3]
     refine ⟨goInt (min xs.length len:Nat),w',ι,H,?_,.sc _,?_,Ext.refl _ _ _⟩
     ·have e1:Nat.min xs.length len=min xs.length len:=rfl
      simp [Builtin.copy_,ha,hu,hd,hlen,hz,e1,hf,g1,r1]
     ·refine hR.set_cells hg (by rw [r2]; simp) ?_ r3 hheap ?_
      ·intro c' hne
       rw [r2]; simp [Ne.symm hne]
      ·refine ⟨g1,by rw [overlay_length]; exact g2,_,_,fr,hheap,by rw [splice_size]; exact gf,by rw [splice_size]; exact g4,?_,g6⟩
       refine overlay_rel g5 hwD' hwl (by rw [hlt]; exact hoff) ?_
       have h2:els.length*j.size<=(ι b).cap*j.size:=Nat.mul_le_mul_right _ g2
       omega
    ·cases h
   ·cases h
  ·rename_i b off len
   obtain ⟨rfl,hb,hcap⟩:=hdst.view_inv
   split at h
   ·rename_i sz' els hg
    simp only [] at h
    split at h
    ·rename_i hc
     obtain ⟨rfl,hoff,hall⟩:=hc
     cases h
     obtain ⟨hb1,hb2,hb3⟩:=hR.live b _ hg
     obtain ⟨g1,g2,c,el',fr,g3,gf,g4,g5,g6⟩:=hb1
     have hm:min xs.length len<=xs.length:=Nat.min_le_left _ _
     have hf:=hfirst E.P _ hm
     have hall':allCells (xs.take (min xs.length len))=true:=by
      unfold allCells at hall ⊢
      rw [List.all_eq_true] at hall ⊢
      intro x hx
      exact hall x (List.mem_of_mem_take hx)
     have hlt:(xs.take (min xs.length len)).length=min xs.length len:=by simp
     have hwl:(ws.take (min xs.length len*j.size)).length=(xs.take (min xs.length len)).length*j.size:=by
      rw [hlt,List.length_take,hws]
      have:min xs.length len*j.size<=xs.length*j.size:=Nat.mul_le_mul_right _ hm
      omega
     have hwD':DRel σ.next ι H ((ws.take (min xs.length len*j.size))[·]?) j.size (xs.take (min xs.length len)) 0:=by
      apply DRel.of_get
      intro q e he
      have hq:q < min xs.length len:=by
       rcases Nat.lt_or_ge q (min xs.length len) with h'|h'
       ·exact h'
       ·rw [List.getElem?_eq_none (by omega)] at he; cases he
      rw [List.getElem?_take,if_pos hq] at he
      obtain ⟨a1,a2⟩:=hwD.get he
      refine ⟨a1.congr ?_,a2⟩
      intro k hk1 hk2
      show (ws.take _)[k]?=ws[k]?
      have:(q+1)*j.size<=min xs.length len*j.size:=Nat.mul_le_mul_right _ hq
      rw [Nat.add_mul] at this
      rw [List.getElem?_take,if_pos (by omega)]
     have hcell:=DRel.isCell hwD' hwl hall'
     have hle:(ι b).base+off*j.size+(ws.take (min xs.length len*j.size)).length<=c.size:=by
      have h1:(off+min xs.length len)*j.size<=els.length*j.size:=Nat.mul_le_mul_right _ hoff
      have h2:els.length*j.size<=(ι b).cap*j.size:=Nat.mul_le_mul_right _ g2
      rw [Nat.add_mul] at h1; rw [hwl,hlt]; omega
     obtain ⟨w',r1,r2,r3⟩:=run_storeCells E.P (ι b).blk ((ι b).base+off*j.size) el' fr (ws.take (min xs.length len*j.size)) w c 0 g3 gf hcell (by omega)
     have hheap:w'.heap[(ι b).blk]?=some (.cells (splice c ((ι b).base+off*j.size) (ws.take (min xs.length len*j.size))) el' fr):=by
      rw [r2]; simp [hb3]
     refine ⟨goInt (min xs.length len:Nat),w',ι,H,?_,.sc _,?_,Ext.refl _ _ _⟩
     ·have e1:Nat.min xs.length len=min xs.length len:=rfl
      simp [Builtin.copy_,ha,hu,hd,hlen,hz,e1,hf,g1,r1]
     ·refine hR.set_cells hg (by rw [r2]; simp) ?_ r3 hheap ?_
      ·intro c' hne
       rw [r2]; simp [Ne.symm hne]
      ·refine ⟨g1,by rw [overlay_length]; exact g2,_,_,fr,hheap,by rw [splice_size]; exact gf,by rw [splice_size]; exact g4,?_,g6⟩
       refine overlay_rel g5 hwD' hwl (by rw [hlt]; exact hoff) ?_
       have h2:els.length*j.size<=(ι b).cap*j.size:=Nat.mul_le_mul_right _ g2
       omega
    ·cases h
   ·cases h
  ·rename_i sz' tt els
   obtain ⟨b,o,cap,rfl,hl,hD,_⟩:=hdst.data_inv
   split at h
   ·rename_i hc
    cases h
    have h0:=hc.1
    refine SndV.same hR (v':=goInt 0) ?_ (.sc _)
    have:=hfirst E.P 0 (Nat.zero_le _)
    have e1:Nat.min xs.length els.length=0:=by rw [h0]; exact Nat.min_zero _
    simp [Builtin.copy_,ha,hu,hd,hlen,hz,e1,this,storeCells]
   ·cases h
  ·cases h
 ·cases h
end
end Abs
end
