/- Part of the abstract layer; it proves no statement by itself. -/
import Derived.Test.YtkhjmhdpaikokaaGreatDoorAbsV8
import Derived.Test.YtkhjmhdpaikokaaGreatDoorAbsRow
import Derived.Test.YtkhjmhdpaikokaaGreatDoorAbsMm
import Derived.Below
set_option linter.unusedVariables false
set_option linter.unusedSimpArgs false
set_option linter.unusedSectionVars false
noncomputable section
namespace Abs
open Go
structure WD where
 w:World
 ds:List ADef
instance:Coe World WD:=⟨fun w=>⟨w,[]⟩⟩
section
variable {E:Env} {n:Nat}
theorem AWp.unds {ds:List ADef} {c:Code} {K:APred} {a:AAct} {σ:AStore} (h:AWp {E with ds:=ds} c K a σ):AWp E c K a σ:=by
 intro ι H w a' hR ha hr
 refine wpIn_mono (h ι H w a' (hR.toDs ds) ha hr) ?_
 rintro e a1 w1 ⟨ι',H',σ',a2,ae,h1,h2,h3,h4,h5⟩
 exact ⟨ι',H',σ',a2,ae,h1,h2,h3,h4.unds,h5⟩
def Top (E:Env) (n:Nat) (c:Code) (K:APred) (e:Ev) (σ:AStore):Prop:=okC n c=true->okE e->AWp E c K (actOf E.ds n e) σ
def lowS (E:Env) (n:Nat) (K:APred):SPred:=fun ex e σ=>okE e->∀ a,(actOf E.ds n e).Le a->K ex a σ
theorem Top_end {c:Code} {K:APred} {e:Ev} {σ:AStore} (h:Z E n c (lowS E n K) e σ):Top E n c K e σ:=by
 intro hc he
 refine (h hc he).mono ?_
 rintro ex a σ ⟨e,h1,h2,h3⟩
 exact h3 h1 a h2
theorem Top_seq {x y:Code} {K:APred} {e:Ev} {σ:AStore} (h:Z E n x (thenS (Top E n y K) (lowS E n K)) e σ):Top E n (.seq x y) K e σ:=by
 intro hc he
 simp only [okC,Bool.and_eq_true] at hc
 refine AWp.seq ((h hc.1 he).mono ?_)
 rintro ex a σ ⟨e,h1,h2,h3⟩
 cases ex with
 | normal=>exact (h3 hc.2 h1).weaken h2
 | _=>exact h3 h1 a h2
theorem Top_of {Ed:List ADef->Env} (hEd:∀ ds,{E with ds:=ds}=Ed ds) {ds:List ADef} {c:Code} {K:APred} {e:Ev} {σ:AStore} {a:AAct} (hc:okC n c=true) (he:okE e) (h:Top (Ed ds) n c K e σ) (hl:(actOf ds n e).Le a):AWp E c K a σ:=by
 rw [<-hEd ds] at h
 exact AWp.weaken hl (AWp.unds (h hc he))
theorem aGo_mono {dst:Option Tmp} {K K':APred} {k k':AAct->AStore->Prop} {a:AAct} {σ:AStore} (hK:∀ v a σ,K (.pan v) a σ->K' (.pan v) a σ) (hk:∀ a σ,k a σ->k' a σ) {r:ARes} (h:aGo E dst K k a σ r):aGo E dst K' k' a σ r:=by
 cases r with
 | val v σ'=>exact ⟨h.1,hk _ _ h.2⟩
 | vals l=>exact ⟨h.1,fun p hp=>hk _ _ (h.2 p hp)⟩
 | skip σ'=>exact ⟨h.1,hk _ _ h.2⟩
 | enter f args=>
  refine ⟨h.1,ACallsT.mono h.2 ?_⟩
  intro en σ' hh
  cases en with
  | ret v=>exact hk _ _ hh
  | pan v=>exact hK _ _ _ hh
 | dfr d=>exact ⟨h.1,h.2.1,hk _ _ h.2.2⟩
 | pan v=>exact hK _ _ _ h
 | recov=>exact h
 | bad=>exact h
theorem aStep_mono {ops:Array Oper} {o:Oper} {K K':APred} {k k':AAct->AStore->Prop} {a:AAct} {σ:AStore} (hK:∀ v a σ,K (.pan v) a σ->K' (.pan v) a σ) (hk:∀ a σ,k a σ->k' a σ) (h:aStep E ops o K k a σ):aStep E ops o K' k' a σ:=by
 unfold aStep at h ⊢
 split
 ·rename_i hg; rw [hg] at h; exact aGo_mono hK hk h
 ·rename_i j want hg
  rw [hg] at h
  simp only [] at h
  cases hy:aYield ops a j with
  | none=>rw [hy] at h; exact h.elim
  | some b=>rw [hy] at h; exact ⟨fun hb=>aGo_mono hK hk (h.1 hb),fun hb=>⟨(h.2 hb).1,hk _ _ (h.2 hb).2⟩⟩
theorem aOps_app {ops:Array Oper} {K:APred} {l2:List Nat}:∀ (l1:List Nat) (a:AAct) (σ:AStore),aOps E ops (fun ex a σ=>match ex with|.normal=>aOps E ops K l2 a σ|ex=>K ex a σ) l1 a σ->aOps E ops K (l1++l2) a σ
  | [],a,σ,h=>h
  | i :: l1, a, σ, h => by
      simp only [aOps,List.cons_append] at h ⊢
      split at h
      · exact aOps_app l1 a σ h
      · exact aStep_mono (fun v a σ h=>h) (fun a σ h=>aOps_app l1 a σ h) h
theorem vOps_soundK {ds : List ADef} {ops : Array Oper} {K : SPred} {K' : APred} (hn : ∀ e σ, okE e → K .normal e σ → K' .normal (actOf ds n e) σ) (hp : ∀ v a σ, liftS ds n K (.pan v) a σ → K' (.pan v) a σ) :
    ∀ (l:List Nat) (os:List Oper) (e:Ev) (σ:AStore),l.map (ops[·]?)=os.map some->fitOps n os=true->okE e->vOps E ops K os e σ->aOps E ops K' l (actOf ds n e) σ
  | [], os, e, σ, hl, _, he, h => by
      cases os with
      | nil=>exact hn e σ he h
      | cons o os=>simp at hl
  | i :: l, os, e, σ, hl, hf, he, h => by
      cases os with
      | nil=>simp at hl
      | cons o os=>
        simp only [List.map_cons,List.cons.injEq] at hl
        simp only [fitOps,List.all_cons,Bool.and_eq_true] at hf
        obtain ⟨hi,hl⟩:=hl
        simp only [aOps,hi]
        exact aStep_mono hp (fun _ _ h=>h) (vStep_sound (k':=aOps E ops K' l) he hf.1 (fun e σ he h=>vOps_soundK hn hp l os e σ hl hf.2 he h) h)
theorem Top_dfr {Ed:List ADef->Env} (hEd:∀ ds,{E with ds:=ds}=Ed ds) (hrd:E.rd=none) {id:Nat} {ops:Array Oper} {rest:Code} {K:APred} {e:Ev} {σ:AStore}
  (pre:List Oper) (o:Oper) (hops:ops.toList=pre++[o]) (hg:o.guard=none)
  (h:vOps E ops (fun ex e σ=>match ex with
   | .normal=>∃ d,aOp E false o.op (evE E.G e) σ=.dfr d/\Top (Ed (d::E.ds)) n rest K (putE e o.dst undefA) σ
   | ex=>lowS E n K ex e σ) pre e σ):Top E n (.seq (.region id ops false) rest) K e σ:=by
 intro hc he
 simp only [okC,Bool.and_eq_true] at hc
 have hf:fitOps n ops.toList=true:=hc.1
 rw [hops] at hf
 simp only [fitOps,List.all_append,List.all_cons,List.all_nil,Bool.and_eq_true,Bool.and_true] at hf
 obtain ⟨f1,f2⟩:=hf
 have hsz:ops.size=pre.length+1:=by
  have:=congrArg List.length hops
  simpa using this
 refine AWp.seq (AWp.region ?_)
 have hget:∀ i:Nat,ops[i]?=(pre++[o])[i]?:=fun i=>by rw [<-hops]; simp
 rw [hsz,List.range_succ]
 refine aOps_app _ _ _ ?_
 have hl1:(List.range pre.length).map (ops[·]?)=pre.map some:=by
  apply List.ext_getElem?
  intro i
  simp only [List.getElem?_map]
  by_cases hi:i < pre.length
  ·simp [hi,hget,List.getElem?_append]
  ·rw [List.getElem?_eq_none (by simp; omega),List.getElem?_eq_none (by omega)]; rfl
 refine vOps_soundK (n:=n) (ds:=E.ds) ?_ ?_ (List.range pre.length) pre e σ hl1 f1 he h
 ·rintro e σ g1 ⟨d,g4,g5⟩
  show aOps E ops _ [pre.length] (actOf E.ds n e) σ
  simp only [aOps]
  have ho:ops[pre.length]?=some o:=by simp [hget]
  rw [ho]
  simp only [aStep,hg]
  rw [ev_actOf g1,g4]
  refine ⟨by rw [fits_actOf]; exact f2,hrd,?_⟩
  have he2:okE (putE e o.dst undefA):=okE_put g1 f2 _
  have hEG:(Ed (d::E.ds)).ds=d::E.ds:=by rw [<-hEd]
  refine Top_of hEd hc.2 he2 g5 ?_
  rw [<-put_putE]
  have h1:({actOf E.ds n e with defers:=d::(actOf E.ds n e).defers}:AAct)=actOf (d::E.ds) n e:=by
   rw [(actOf_n E.ds n e).2]
   clear g4 g5 he2 h he hl1
   induction e with
   | nil=>rfl
   | cons p e ih=>
    have ih:=ih (fun a v hm=>g1 a v (List.mem_cons_of_mem _ hm))
    obtain ⟨t,v⟩:=p
    show _=(actOf (d::E.ds) n e).put (some t) (some v)
    rw [<-ih,AAct.put_eq]
    show ({(actOf E.ds n e).put (some t) (some v) with defers:=_}:AAct)=_
    rw [AAct.put_eq]
  rw [h1]
  exact AAct.Le.refl _
 ·rintro v a σ ⟨e,g1,g2,g3⟩
  exact g3 g1 a g2
theorem aResult_of_v {rs:List ResultVar} {a:AAct} {e:Ev} {σ:AStore} {ds:List ADef} {R:AVal->Prop} (h1:okE e) (h2:(actOf ds n e).Le a) (h3:dRd R ((vResults E rs e σ).map oneOf)):∃ v,aResult E rs a σ=some v/\R v:=by
 cases h4:vResults E rs e σ with
 | none=>rw [h4] at h3; exact h3.elim
 | some vs=>
  rw [h4] at h3
  refine ⟨oneOf vs,?_,h3⟩
  unfold aResult
  rw [vResults_eq h1 h2 h4]
  match vs with
  | []=>rfl
  | [v]=>rfl
  | _::_::_=>rfl
theorem low_fin0 {fn:Func} {rs:List ResultVar} (hr:fn.results.toList=rs) (hds:E.ds=[]) {R:AEnd->AStore->Prop} {ex:AExit} {e:Ev} {σ:AStore} (h:vFin E rs R ex e σ):lowS E n (aEndD E fn R) ex e σ:=by
 subst hr
 intro he a hl
 have hd:a.defers=[]:=(hl.2.1.symm.trans (actOf_n _ n e).2).trans hds
 cases ex with
 | normal=>show ALeaves E fn a R a.defers none σ; rw [hd]; exact aResult_of_v (R:=fun v=>R (.ret v) σ) he hl h
 | ret=>show ALeaves E fn a R a.defers none σ; rw [hd]; exact aResult_of_v (R:=fun v=>R (.ret v) σ) he hl h
 | pan v=>show ALeaves E fn a R a.defers (some v) σ; rw [hd]; exact h
 | exit id=>exact h.elim
 | goto l=>exact h.elim
theorem Top_seq0 {fn:Func} {rs:List ResultVar} (hr:fn.results.toList=rs) (hds:E.ds=[]) {R:AEnd->AStore->Prop} {x y:Code} {e:Ev} {σ:AStore} (h:Z E n x (thenS (Top E n y (aEndD E fn R)) (vFin E rs R)) e σ):Top E n (.seq x y) (aEndD E fn R) e σ:=by
 refine Top_seq (Z_mono h ?_)
 intro ex e σ he hh
 cases ex with
 | normal=>exact hh
 | _=>exact low_fin0 hr hds hh
theorem ACallsD.unds {ds:List ADef} {f:FuncId} {args:List AVal} {σ:AStore} {R:AEnd->AStore->Prop} (h:ACallsD {E with ds:=ds} f args σ R):ACallsD E f args σ R:=by
 intro ι H w args' u hR ha
 refine CallsDIn.mono (h ι H w args' u (hR.toDs ds) ha) ?_
 rintro e u' w' ⟨hu,ι',H',σ',ae,h1,h2,h3,h4⟩
 exact ⟨hu,ι',H',σ',ae,h1,h2,h3.unds,h4⟩
theorem ACalls.of_Top {E':Env} (hE:{E with ds:=[]}=E') (hrd:E.rd=none) {f:FuncId} (fn:Func) (c:Code) {args:List AVal} {σ:AStore} {R:AEnd->AStore->Prop} (hf:E.P.funcs[f]?=some fn) (hb:fn.body=some c) (hm:fn.ntmps=n) (hok:okC n c=true)
  (hn:Nat.ble args.length n=true) (hl:Nat.blt args.length 1000=true) (h:Top E' n c (aEndD E' fn R) (initE args 0) σ):ACalls E f args σ R:=by
 subst hE hm
 have hn:=Nat.le_of_ble_eq_true hn
 rw [Nat.blt_eq] at hl
 refine ACalls.unds (ds:=[]) (ACalls.of_wpD (E:={E with ds:=[]}) hrd hf hb hn hl ?_)
 exact AWp.weaken (a:=aInit args fn.ntmps) (b:=actOf [] fn.ntmps (initE args 0)) (init_le args fn.ntmps hl) (h hok (okE_initE args 0 (by omega)))
theorem ACallsD.of_V' {E':Env} (hE:{E with ds:=[]}=E') (hrd:E.rd=none) {f:FuncId} (fn:Func) (c:Code) (rs:List ResultVar) {args:List AVal} {σ:AStore} {R:AEnd->AStore->Prop} (hf:E.P.funcs[f]?=some fn) (hb:fn.body=some c) (hr:fn.results.toList=rs) (hm:fn.ntmps=n) (hok:okC n c=true)
  (hn:Nat.ble args.length n=true) (hl:Nat.blt args.length 1000=true)
  (h:V E' n c (vFin E' rs R) (initE args 0) σ):ACallsD E f args σ R:=by
 subst hE hm hr
 have hn:=Nat.le_of_ble_eq_true hn
 rw [Nat.blt_eq] at hl
 refine ACallsD.unds (ds:=[]) (ACallsD.of_wp (E:={E with ds:=[]}) hrd hf hb hn hl ?_)
 refine AWp.weaken (a:=aInit args fn.ntmps) (b:=actOf [] fn.ntmps (initE args 0)) (init_le args fn.ntmps hl) ?_
 refine (V_sound c h hok (okE_initE args 0 (by omega))).mono ?_
 rintro ex a σ ⟨e,h1,h2,h3⟩
 have hd:a.defers=[]:=h2.2.1.symm.trans (actOf_n _ _ e).2
 cases ex with
 | normal=>exact ⟨hd,aResult_of_v (R:=fun v=>R (.ret v) σ) h1 h2 h3⟩
 | ret=>exact ⟨hd,aResult_of_v (R:=fun v=>R (.ret v) σ) h1 h2 h3⟩
 | pan v=>exact ⟨hd,h3⟩
 | exit id=>exact h3.elim
 | goto l=>exact h3.elim
end
end Abs
namespace Abs
open Go
def mid (P:Ev->AStore->Prop) (Q:SPred):SPred
 | .normal,e,σ=>P e σ
 | ex,e,σ=>Q ex e σ
section
variable {E:Env} {n:Nat} {P:Ev->AStore->Prop} {Q:SPred} {e:Ev} {σ:AStore}
theorem mid_normal:mid P Q .normal e σ=P e σ:=rfl
theorem mid_ret:mid P Q .ret e σ=Q .ret e σ:=rfl
theorem Z_mid {x y:Code} (P:Ev->AStore->Prop) (h1:Z E n x (mid P Q) e σ) (h2:∀ e σ,P e σ->V E n y Q e σ):Z E n x (thenS (V E n y Q) Q) e σ:=by
 intro hc he
 refine (h1 hc he).mono ?_
 rintro ex a σ ⟨e,h3,h4,h5⟩
 refine ⟨e,h3,h4,?_⟩
 cases ex with
 | normal=>exact h2 e σ h5
 | _=>exact h5
end
attribute [go_sem ↓] mid_normal mid_ret
end Abs
namespace Abs
open Go
section
variable {E:Env} {n:Nat} {rs:List ResultVar} {g:FuncId} {as':List AVal} {R:AEnd->AStore->Prop} {e:Ev} {σ:AStore}
theorem Top_dfr1 {Ed:List ADef->Env} (hEd:∀ ds,{E with ds:=ds}=Ed ds) (hrd:E.rd=none) {id:Nat} {a b:Oper} {rest:Code} {K:APred} (hg:b.guard=none)
  (h:vOps E #[a,b] (fun ex e σ=>match ex with
   | .normal=>∃ d,aOp E false b.op (evE E.G e) σ=.dfr d/\Top (Ed (d::E.ds)) n rest K (putE e b.dst undefA) σ
   | ex=>lowS E n K ex e σ) [a] e σ):Top E n (.seq (.region id #[a,b] false) rest) K e σ:=Top_dfr hEd hrd [a] b rfl hg h
end
end Abs
end
noncomputable section
namespace Abs
open Go
def mapD (E:Env) (t:TypeId):Option (TypeDesc×Value):=(mapOf E t).map fun p=>(p.1.desc,p.2.zero)
section
variable {E:Env} {lit:Bool} {ρ:ARho} {σ:AStore} {d:TypeDesc} {z:Value}
theorem mapD_spec {t:TypeId} (h:mapD E t=some (d,z)):∃ ki ei,mapOf E t=some (ki,ei)/\ki.desc=d/\ei.zero=z:=by
 unfold mapD at h
 cases hm:mapOf E t with
 | none=>rw [hm] at h; cases h
 | some p=>rw [hm] at h; cases h; exact ⟨p.1,p.2,rfl,rfl,rfl⟩
def opLk (σ:AStore) (d:TypeDesc) (z:Value) (ok:Bool):Option AVal->Option AVal->ARes
 | some a,some k=>.ofV σ (aLookup d z ok a k σ)
 | _,_=>.bad
theorem op_lookup {t:TypeId} {x k:Operand} {ok:Bool} (h:mapD E t=some (d,z)):aOp E lit (.lookup t x k ok) ρ σ=opLk σ d z ok (ρ x) (ρ k):=by
 obtain ⟨ki,ei,h1,rfl,rfl⟩:=mapD_spec h
 simp only [aOp,h1]
 cases ρ x<;>cases ρ k<;>rfl
theorem opLk_some {a k:AVal} {ok:Bool}:opLk σ d z ok (some a) (some k)=.ofV σ (aLookup d z ok a k σ):=rfl
def opMs (σ:AStore) (d:TypeDesc):Option AVal->Option AVal->Option AVal->ARes
 | some a,some k,some v=>.ofS (aMapSet d a k v σ)
 | _,_,_=>.bad
theorem op_mapUpdate {t:TypeId} {m k x:Operand} (h:mapD E t=some (d,z)):aOp E lit (.mapUpdate t m k x) ρ σ=opMs σ d (ρ m) (ρ k) (ρ x):=by
 obtain ⟨ki,ei,h1,rfl,rfl⟩:=mapD_spec h
 simp only [aOp,h1]
 cases ρ m<;>cases ρ k<;>cases ρ x<;>rfl
theorem op_insert {t:TypeId} {m k x:Operand} (h:mapD E t=some (d,z)):aOp E lit (.insert t m k x) ρ σ=opMs σ d (ρ m) (ρ k) (ρ x):=by
 obtain ⟨ki,ei,h1,rfl,rfl⟩:=mapD_spec h
 simp only [aOp,h1]
 cases ρ m<;>cases ρ k<;>cases ρ x<;>rfl
theorem opMs_some {a k v:AVal}:opMs σ d (some a) (some k) (some v)=.ofS (aMapSet d a k v σ):=rfl
theorem op_makeMap {t:TypeId}:aOp E lit (.makeMap t none) ρ σ=.val (.map σ.next) (σ.alloc (.map [] 0)):=rfl
def lkOut (ok:Bool) (z:Value):Option AVal->AVal
 | some v=>if ok then .tuple [v,.sc (.bool true)] else v
 | none=>if ok then .tuple [absV z,.sc (.bool false)] else absV z
def lkAt (d:TypeDesc) (z:Value) (ok:Bool) (k:Value):Option ABlk->Option AVal
 | some (.map kvs _)=>(aFind d k kvs 0).map fun r=>lkOut ok z (r.map (·.2))
 | _=>none
theorem aLookup_map {ok:Bool} {b:Nat} {k:Value} (hp:plainKey d=true):aLookup d z ok (.map b) (.sc k) σ=lkAt d z ok k (σ.get b):=by
 simp only [aLookup,hp,if_true]
 cases hg:σ.get b with
 | none=>rfl
 | some x=>
  cases x<;>try rfl
  rename_i kvs c
  simp only [lkAt]
  cases aFind d k kvs 0 with
  | none=>rfl
  | some r=>cases r with
   | none=>cases ok<;>rfl
   | some p=>cases ok<;>rfl
theorem lkAt_map {ok:Bool} {k:Value} {kvs:List (AVal×AVal)} {c:Nat}:lkAt d z ok k (some (.map kvs c))=(aFind d k kvs 0).map fun r=>lkOut ok z (r.map (·.2)):=rfl
def msAt (σ:AStore) (b:Nat) (d:TypeDesc) (k:Value) (v:AVal):Option ABlk->Option AStore
 | some (.map kvs c)=>(aFind d k kvs 0).map fun
  | some (i,_)=>σ.set b (.map (kvs.set i (.sc k,v)) c)
  | none=>σ.set b (.map (kvs++[(.sc k,v)]) (c+1))
 | _=>none
theorem aMapSet_map {b:Nat} {k:Value} {v:AVal} (hp:plainKey d=true):aMapSet d (.map b) (.sc k) v σ=msAt σ b d k v (σ.get b):=by
 simp only [aMapSet,hp,if_true]
 cases hg:σ.get b with
 | none=>rfl
 | some x=>
  cases x<;>try rfl
  rename_i kvs c
  simp only [msAt]
  cases aFind d k kvs 0 with
  | none=>rfl
  | some r=>cases r<;>rfl
end
theorem ba_beq (a b:ByteArray):(a==b)=decide (a=b):=by
 cases a with|mk a=>cases b with|mk b=>
 show (a==b)=_
 by_cases h:a=b
 ·subst h; simp
 ·have:(a==b)=false:=by simpa using h
  rw [this]; simp [h]
theorem ba_list (a b:ByteArray):(a.toList==b.toList)=decide (a=b):=by
 by_cases h:a=b
 ·subst h; simp
 ·have:a.toList≠b.toList:=fun hc=>h (by
   rw [ByteArray.toList_eq,ByteArray.toList_eq] at hc
   exact ByteArray.ext (Array.toList_inj.mp hc))
  simp [h,this]
def strM (m:List (ByteArray×AVal)):List (AVal×AVal):=m.map fun p=>(.sc (.string p.1),p.2)
def getM:List (ByteArray×AVal)->ByteArray->Option (Nat×AVal)
 | [],_=>none
 | p::m,k=>if p.1=k then some (0,p.2) else (getM m k).map fun q=>(q.1+1,q.2)
theorem aFind_str {k:ByteArray}:∀ (m:List (ByteArray×AVal)) (i:Nat),aFind .string (.string k) (strM m) i=some ((getM m k).map fun q=>(i+q.1,q.2))
  | [],i=>rfl
  | p :: m, i => by
      show (match Instr.sameNow .string (.string k) (.string p.1) with
        | some true=>some (some (i,p.2))
        | some false=>aFind .string (.string k) (strM m) (i+1)
        | none=>none)=_
      have hs:Instr.sameNow .string (.string k) (.string p.1)=some (decide (p.1=k)):=by
        show some (k==p.1)=_
        rw [ba_beq,decide_eq_decide.mpr (show k=p.1 ↔ p.1=k from eq_comm)]
      rw [hs]
      unfold getM
      by_cases h:p.1=k
      · simp [h]
      · simp only [h,decide_false,if_false]
        rw [aFind_str m (i+1)]
        cases getM m k with
        | none=>rfl
        | some q=>simp; omega
section
variable {E:Env} {lit:Bool} {ρ:ARho} {σ:AStore} {d:TypeDesc} {z:Value}
theorem eff_mapUpdate {t:TypeId} {a b c:Operand}:isEff E (.mapUpdate t a b c)=true:=rfl
def rgAt (σ:AStore) (b:Nat):Option ABlk->Option (AVal×AStore)
 | some (.map _ c)=>some (.ptr σ.next 0 0,σ.alloc (.miter b c []))
 | _=>none
def opRgM (σ:AStore):Option AVal->ARes
 | some (.map b)=>.ofO (rgAt σ b (σ.get b))
 | some (.sc (.map none))=>.ofO (some (.ptr σ.next 0 0,σ.alloc .mitern))
 | _=>.bad
theorem kindD_map {t:TypeId} (h:kindD E t=some .map):∃ i a b,E.ty t=some i/\i.desc=.map a b:=by
 unfold kindD at h
 cases hE:E.ty t with
 | none=>rw [hE] at h; cases h
 | some i=>
  rw [hE] at h
  cases hd:i.desc<;>simp_all
theorem op_rangeM {t:TypeId} {x:Operand} (h:kindD E t=some .map):aOp E lit (.range t x) ρ σ=opRgM σ (ρ x):=by
 obtain ⟨i,a,b,h1,h2⟩:=kindD_map h
 simp only [aOp,h1]
 cases ρ x with
 | none=>rfl
 | some v=>
  simp only [h2,opRgM]
  cases v<;>try rfl
  ·rename_i v
   cases v<;>try rfl
   rename_i a
   cases a<;>rfl
theorem opRgM_map {b:Nat}:opRgM σ (some (.map b))=.ofO (rgAt σ b (σ.get b)):=rfl
theorem rgAt_map {b c:Nat} {kvs:List (AVal×AVal)}:rgAt σ b (some (.map kvs c))=some (.ptr σ.next 0 0,σ.alloc (.miter b c [])):=rfl
def opNx (σ:AStore) (isS:Bool):Option AVal->ARes
 | some a=>.ofL (aNext a isS σ)
 | none=>.bad
theorem op_next {it:Operand} {isS:Bool}:aOp E lit (.next it isS) ρ σ=opNx σ isS (ρ it):=by
 simp only [aOp]
 cases ρ it<;>rfl
def nxMap (σ:AStore) (b m since:Nat) (seen:List Value):Option ABlk->Option (List (AVal×AStore))
 | some (.map kvs c)=>if c=since then (match unseen seen kvs with
  | some []=>some [(.tuple [.sc (.bool false)],σ)]
  | some l=>some (l.map fun kv=>(.tuple [.sc (.bool true),kv.1,kv.2],σ.set b (.miter m since (seen++[keyV kv.1]))))
  | none=>none) else none
 | _=>none
def nxAt (σ:AStore) (b:Nat):Option ABlk->Option (List (AVal×AStore))
 | some (.miter m since seen)=>nxMap σ b m since seen (σ.get m)
 | some .mitern=>some [(.tuple [.sc (.bool false)],σ)]
 | _=>none
theorem opNx_map {b:Nat}:opNx σ false (some (.ptr b 0 0))=.ofL (nxAt σ b (σ.get b)):=by
 simp only [opNx,aNext]
 cases hg:σ.get b with
 | none=>rfl
 | some x=>
  cases x<;>try rfl
theorem nxAt_miter {b m since:Nat} {seen:List Value}:nxAt σ b (some (.miter m since seen))=nxMap σ b m since seen (σ.get m):=rfl
theorem nxAt_mitern {b:Nat}:nxAt σ b (some .mitern)=some [(.tuple [.sc (.bool false)],σ)]:=rfl
def opEn (σ:AStore):Option AVal->ARes
 | some a=>.ofV σ (aEntry a σ)
 | none=>.bad
theorem op_entry {it:Operand}:aOp E lit (.entry it) ρ σ=opEn σ (ρ it):=by
 simp only [aOp]
 cases ρ it<;>rfl
theorem opEn_some {a:AVal}:opEn σ (some a)=.ofV σ (aEntry a σ):=rfl
theorem ofL_some {l:List (AVal×AStore)}:ARes.ofL (some l)=.vals l:=rfl
def opCvB (σ:AStore):Option AVal->ARes
 | some (.sc (.string b))=>.val (.slice σ.next 0 b.size) (σ.alloc (.cells 1 (bytesOf b)))
 | _=>.bad
def bytesD (E:Env) (s d:TypeId):Bool:=
 match E.ty s,E.ty d with
 | some i,some j=>match i.desc,j.desc with
  | .string,.slice e=>match E.ty e with
   | some k=>match k.desc with
    | .int .u8=>true
    | _=>false
   | none=>false
  | _,_=>false
 | _,_=>false
theorem op_convB {s d:TypeId} {x:Operand} (h:bytesD E s d=true) (hx:∀ v,ρ x=some v->∃ b,v=.sc (.string b)):aOp E lit (.convert s d x) ρ σ=opCvB σ (ρ x):=by
 unfold bytesD at h
 simp only [aOp]
 cases h1:E.ty s with
 | none=>rw [h1] at h; cases h
 | some i=>
  cases h2:E.ty d with
  | none=>rw [h1,h2] at h; cases h
  | some j=>
   rw [h1,h2] at h
   try simp only [] at h
   cases hi:i.desc<;>rw [hi] at h<;>(try simp only [] at h)<;>first|(cases h; done)|skip
   cases hj:j.desc<;>rw [hj] at h<;>(try simp only [] at h)<;>first|(cases h; done)|skip
   rename_i e
   cases h3:E.ty e with
   | none=>rw [h3] at h; cases h
   | some k=>
    rw [h3] at h
    simp only [] at h
    have hk:k.desc=.int .u8:=by
     cases hk:k.desc<;>rw [hk] at h<;>(try simp only [] at h)<;>first|(cases h; done)|skip
     rename_i q; cases q<;>first|rfl|(cases h; done)
    cases hr:ρ x with
    | none=>rfl
    | some v=>
     obtain ⟨b,rfl⟩:=hx v hr
     simp only [aConv,hi,hj,h3,hk]
     rfl
def opCvG (E:Env) (s d:TypeId) (σ:AStore):Option AVal->ARes
 | some a=>match E.ty s,E.ty d with
  | some i,some j=>.ofO (aConv E.ty i.desc j.desc a σ)
  | _,_=>.bad
 | none=>.bad
theorem op_convG {s d:TypeId} {x:Operand}:aOp E lit (.convert s d x) ρ σ=opCvG E s d σ (ρ x):=by
 simp only [aOp,opCvG]
 cases E.ty s<;>cases E.ty d<;>cases ρ x<;>rfl
theorem opCvG_str {s d:TypeId} {b:ByteArray} (h:bytesD E s d=true):opCvG E s d σ (some (.sc (.string b)))=.val (.slice σ.next 0 b.size) (σ.alloc (.cells 1 (bytesOf b))):=by
 rw [<-op_convG (lit:=true) (ρ:=fun _=>some (.sc (.string b))) (x:=.tmp 0)]
 rw [op_convB h (fun v hv=>by cases hv; exact ⟨b,rfl⟩)]
 rfl
def arrD (E:Env) (t:TypeId):Option (Nat×Bool×Nat):=(arrayOf E t).map fun p=>(p.1,p.2.isA,p.2.size)
def opIxA (σ:AStore) (p:Nat×Bool×Nat):Option AVal->Option AVal->ARes
 | some a,some i=>.ofV σ (aIndexV p.1 p.2.1 p.2.2 a i)
 | _,_=>.bad
theorem op_index_arr {t:TypeId} {x i:Operand} {p:Nat×Bool×Nat} (h:arrD E t=some p):aOp E lit (.index t x i) ρ σ=opIxA σ p (ρ x) (ρ i):=by
 unfold arrD at h
 simp only [aOp]
 cases h1:arrayOf E t with
 | none=>rw [h1] at h; cases h
 | some q=>
  rw [h1] at h
  cases h
  cases ρ x<;>cases ρ i<;>rfl
theorem opIxA_some {p:Nat×Bool×Nat} {a i:AVal}:opIxA σ p (some a) (some i)=.ofV σ (aIndexV p.1 p.2.1 p.2.2 a i):=rfl
def ixV (isA:Bool) (m:Nat) (x:AVal):Option Nat->Option AVal
 | some j=>aPart isA m (j*m) x
 | none=>none
theorem aIndexV_eq {len m:Nat} {isA:Bool} {x ix:AVal}:aIndexV len isA m x ix=ixV isA m x (aIdx ix len):=by
 unfold aIndexV; cases aIdx ix len<;>rfl
theorem ixV_some {m j:Nat} {isA:Bool} {x:AVal}:ixV isA m x (some j)=aPart isA m (j*m) x:=rfl
end
section
variable {E:Env} {lit:Bool} {ρ:ARho} {σ:AStore}
def bldAD (E:Env) (t:TypeId):Option (Nat×Value):=
 match E.ty t with
 | some i=>match i.desc with
  | .array _ e=>(E.ty e).map fun j=>(j.size,i.zero)
  | _=>none
 | none=>none
def opBuildA (σ:AStore) (p:Nat×Value):Option (List (Nat×AVal))->ARes
 | some ps=>.ofV σ (aBuildA p.1 p.2 ps)
 | none=>.bad
theorem op_buildA {t:TypeId} {ps:Array (Nat×Operand)} {p:Nat×Value} (h:bldAD E t=some p):aOp E lit (.build t ps) ρ σ=opBuildA σ p (partsSome ρ ps.toList):=by
 unfold bldAD at h
 simp only [aOp]
 cases hE:E.ty t with
 | none=>rw [hE] at h; cases h
 | some i=>
  rw [hE] at h
  simp only [] at h
  cases hd:i.desc<;>rw [hd] at h<;>(try simp only [] at h)<;>first|(cases h; done)|skip
  rename_i n e
  cases he:E.ty e with
  | none=>rw [he] at h; cases h
  | some j=>
   rw [he] at h
   cases h
   cases partsSome ρ ps.toList with
   | none=>rfl
   | some l=>simp only [opBuildA,hd,he]
theorem opBuildA_some {p:Nat×Value} {l:List (Nat×AVal)}:opBuildA σ p (some l)=.ofV σ (aBuildA p.1 p.2 l):=rfl
end
attribute [go_sem] opBuildA_some
attribute [go_sem] nxAt_mitern op_entry opEn_some opCvG_str opLk_some opMs_some op_makeMap lkAt_map eff_mapUpdate opRgM_map rgAt_map op_next opNx_map nxAt_miter ofL_some opIxA_some aIndexV_eq ixV_some
end Abs
end
noncomputable section
namespace Abs
open Go Go.RowKit
def FTab.gate (F F0:FTab) (mask:Nat):FTab:=⟨F0.fn,fun f args=>match mask.testBit f with
 | true=>F.ctr f args
 | false=>F0.ctr f args,F0.pure,F0.fz,F0.tz,fun f args=>match mask.testBit f with
 | true=>F.ctrT f args
 | false=>F0.ctrT f args⟩
theorem FOk.gate {E:Env} {F F0:FTab} (h:FOk E F) (h0:FOk E F0) (mask:Nat):FOk E (F.gate F0 mask):=by
 refine ⟨h0.fn,?_,h0.glob,?_⟩
 ·intro f args ends hc
  simp only [FTab.gate] at hc
  split at hc
  ·exact h.ctr f args ends hc
  ·exact h0.ctr f args ends hc
 ·intro f args ends hc
  simp only [FTab.gate] at hc
  split at hc
  ·exact h.ctrT f args ends hc
  ·exact h0.ctrT f args ends hc
theorem FOk.memoG {E:Env} {F G:FTab} (hrd:E.rd=none) (hF:FOk E F) (hG:FOk E G) {n:Nat} {m:Mem} (h:memOk E G n m=true):FOk E (F.memo [m]):=by
 refine ⟨hF.fn,?_,hF.glob,hF.ctrT⟩
 intro f args ends hc σ
 simp only [FTab.memo] at hc
 split at hc
 ·rename_i es he
  cases hc
  have:=findM_some he
  simp at this
  subst this
  exact memOk_sound hrd hG h σ
 ·exact hF.ctr f args ends hc σ
end Abs
end
