/- Part of the abstract layer; it proves no statement by itself. -/
import Derived.Test.YtkhjmhdpaikokaaGreatDoorAbsZ
set_option linter.unusedVariables false
set_option linter.unusedSimpArgs false
set_option linter.unusedSectionVars false
noncomputable section
namespace Abs
open Go
abbrev Ev:=List (Nat×AVal)
def look?:Ev->Nat->Option AVal
 | [],_=>none
 | (d,v)::r,t=>if t=d then some v else look? r t
variable {ds:List ADef}
def actOf (ds:List ADef) (n:Nat):Ev->AAct
 | []=>⟨.leaf,n,ds⟩
 | (d,v)::r=>(actOf ds n r).put (some d) (some v)
def fitN (n:Nat):Option Nat->Bool
 | some d=>Nat.blt d n && Nat.blt n 1000000
 | none=>true
theorem actOf_n (ds:List ADef) (n:Nat):∀ e,(actOf ds n e).n=n/\(actOf ds n e).defers=ds
  | []=>⟨rfl,rfl⟩
  | (d, v) :: r => by
      obtain ⟨h1,h2⟩:=actOf_n ds n r
      obtain ⟨g1,g2⟩:=(actOf ds n r).put_n (some d) (some v)
      exact ⟨g1.trans h1,g2.trans h2⟩
theorem fits_actOf (n:Nat) (e:Ev) (d:Option Nat):(actOf ds n e).fits d=fitN n d:=by
 cases d with
 | none=>rfl
 | some d=>simp [AAct.fits,fitN,(actOf_n ds n e).1]
def okE (e:Ev):Prop:=∀ d v,(d,v)∈e->d < 1000000
theorem get_actOf {n:Nat}:∀ {e:Ev},(∀ d v,(d,v)∈e->d < 1000000)->∀ t,(actOf ds n e).tmps.get t=look? e t
  | [],_,t=>by simp [actOf,look?,T.get_leaf]
  | (d, v) :: r, h, t => by
      have hd:d < 1000000:=h d v (by simp)
      show ((actOf ds n r).put (some d) (some v)).tmps.get t=_
      rw [AAct.put_eq]
      simp only []
      rw [T.get_put _ _ _ _ _ (by omega),get_actOf (fun d v h'=>h d v (by simp [h']))]
      rfl
theorem put_none (a:AAct) (x:Option AVal):a.put none x=a:=by cases a; rfl
theorem actOf_le {n:Nat} {e e':Ev} (h:okE e) (h':okE e') (hl:∀ t v,look? e t=some v->look? e' t=some v):(actOf ds n e).Le (actOf ds n e'):=by
 refine ⟨by rw [(actOf_n ds n e).1,(actOf_n ds n e').1],by rw [(actOf_n ds n e).2,(actOf_n ds n e').2],fun t v ht=>?_⟩
 rw [get_actOf h] at ht
 rw [get_actOf h']
 exact hl t v ht
def evE (G:Nat->AVal) (e:Ev):ARho
 | .tmp t=>look? e t
 | .const v=>some (absV v)
 | .global g=>some (G g)
 | .func f=>some (.func (.func f) [] [])
theorem ev_actOf {n:Nat} {e:Ev} (h:okE e) (G:Nat->AVal):(actOf ds n e).ev G=evE G e:=by
 funext x
 cases x with
 | tmp t=>exact get_actOf h t
 | _=>rfl
abbrev SPred:=AExit->Ev->AStore->Prop
def liftS (ds:List ADef) (n:Nat) (Q:SPred):APred:=fun ex a σ=>∃ e,okE e/\(actOf ds n e).Le a/\Q ex e σ
def putE (e:Ev):Option Nat->AVal->Ev
 | some d,v=>(d,v)::e
 | none,_=>e
def sGo (E:Env) (n:Nat) (dst:Option Nat) (K:SPred) (k:Ev->AStore->Prop) (e:Ev) (σ:AStore):ARes->Prop
  | .val v σ'=>fitN n dst=true/\k (putE e dst v) σ'
  | .vals l=>fitN n dst=true/\∀ p∈l,k (putE e dst p.1) p.2
  | .skip σ'=>fitN n dst=true/\k (putE e dst undefA) σ'
  | .enter f args => fitN n dst = true ∧ ACallsT E f args σ fun en σ' =>
      match en with
      | .ret v=>k (putE e dst v) σ'
      | .pan v=>K (.pan v) e σ'
  | .pan v=>K (.pan v) e σ
  | .dfr _|.recov|.bad=>False
def sYield (ops:Array Oper) (e:Ev) (j:Nat):Option (Option Bool):=
 match (ops[j]?).bind (·.dst) with
 | some t=>match look? e t with
  | some (.sc (.bool b))=>some (some b)
  | some (.tuple _)=>some none
  | _=>none
 | none=>none
def sStep (E:Env) (n:Nat) (ops:Array Oper) (o:Oper) (K:SPred) (k:Ev->AStore->Prop) (e:Ev) (σ:AStore):Prop:=
 match o.guard with
 | none=>sGo E n o.dst K k e σ (aOp E false o.op (evE E.G e) σ)
 | some (j,want)=>
  match sYield ops e j with
  | some b=>(b=some want->sGo E n o.dst K k e σ (aOp E false o.op (evE E.G e) σ))/\(b≠some want->fitN n o.dst=true/\k (putE e o.dst undefA) σ)
  | none=>False
def sOps (E:Env) (n:Nat) (ops:Array Oper) (K:SPred):List Oper->Ev->AStore->Prop
 | [],e,σ=>K .normal e σ
 | o::r,e,σ=>sStep E n ops o K (sOps E n ops K r) e σ
def thenS (k:Ev->AStore->Prop) (Q:SPred):SPred
 | .normal,e,σ=>k e σ
 | ex,e,σ=>Q ex e σ
def blkS (id:Nat) (Q:SPred):SPred
 | .exit id',e,σ=>if id'=id then Q .normal e σ else Q (.exit id') e σ
 | ex,e,σ=>Q ex e σ
def SWp (E:Env) (n:Nat) (c:Code) (Q:SPred) (e:Ev) (σ:AStore):Prop:=okE e->AWp E c (liftS E.ds n Q) (actOf E.ds n e) σ
def W (E:Env) (n:Nat):Code->SPred->Ev->AStore->Prop
 | .skip,Q,e,σ=>Q .normal e σ
 | .label _,Q,e,σ=>Q .normal e σ
 | .region _ ops false,Q,e,σ=>sOps E n ops Q ops.toList e σ
 | .seq x y,Q,e,σ=>W E n x (thenS (W E n y Q) Q) e σ
 | .cond c x y,Q,e,σ=>
  match evE E.G e c with
  | some (.sc (.bool b))=>(b=true->W E n x Q e σ)/\(b=false->W E n y Q e σ)
  | _=>False
 | .block id c,Q,e,σ=>W E n c (blkS id Q) e σ
 | .exit id,Q,e,σ=>Q (.exit id) e σ
 | .goto l,Q,e,σ=>Q (.goto l) e σ
 | .ret,Q,e,σ=>Q .ret e σ
 | c,Q,e,σ=>SWp E n c Q e σ
theorem fitN_lt {n d:Nat} (h:fitN n (some d)=true):d < 1000000:=by
 simp only [fitN,Bool.and_eq_true,Nat.blt_eq] at h; omega
theorem okE_put {n:Nat} {e:Ev} (h:okE e) {d:Option Nat} (hf:fitN n d=true) (v:AVal):okE (putE e d v):=by
 cases d with
 | none=>exact h
 | some d=>
  intro d' v' hm
  simp only [putE,List.mem_cons,Prod.mk.injEq] at hm
  rcases hm with ⟨rfl,_⟩|hm
  ·exact fitN_lt hf
  ·exact h d' v' hm
theorem put_putE (n:Nat) (e:Ev) (d:Option Nat) (v:AVal):(actOf ds n e).put d (some v)=actOf ds n (putE e d v):=by
 cases d with
 | none=>exact put_none _ _
 | some d=>rfl
section
variable {E:Env} {n:Nat}
theorem sYield_eq {ops:Array Oper} {e:Ev} (h:okE e) {j:Nat} {b:Option Bool} (hb:sYield ops e j=some b):aYield ops (actOf ds n e) j=some b:=by
 unfold sYield at hb
 unfold aYield
 split at hb
 ·rename_i t ht
  rw [ht]
  simp only []
  rw [get_actOf h]
  split at hb
  ·rename_i b' hl
   rw [hl]; exact hb
  ·rename_i b' hl
   rw [hl]; exact hb
  ·cases hb
 ·cases hb
theorem SWp.mono {c:Code} {Q Q':SPred} {e:Ev} {σ:AStore} (h:SWp E n c Q e σ) (hq:∀ ex e σ,okE e->Q ex e σ->Q' ex e σ):SWp E n c Q' e σ:=
 fun he=>(h he).mono fun _ _ _ ⟨e,h1,h2,h3⟩=>⟨e,h1,h2,hq _ _ _ h1 h3⟩
theorem SWp.less {c:Code} {Q:SPred} {e e':Ev} {σ:AStore} (h:SWp E n c Q e σ) (he:okE e) (hl:∀ t v,look? e t=some v->look? e' t=some v):SWp E n c Q e' σ:=
 fun he'=>(h he).weaken (actOf_le he he' hl)
theorem SWp.of {c:Code} {Q:SPred} {a:AAct} {e:Ev} {σ:AStore} (he:okE e) (hl:(actOf E.ds n e).Le a) (h:SWp E n c Q e σ):AWp E c (liftS E.ds n Q) a σ:=(h he).weaken hl
end
end Abs
end
