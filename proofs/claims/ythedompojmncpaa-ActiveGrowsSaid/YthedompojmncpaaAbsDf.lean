/- Part of the abstract layer; it proves no statement by itself. -/
import Derived.Test.YthedompojmncpaaAbsVB
import Derived.Test.YthedompojmncpaaAbsEn
noncomputable section
namespace Abs
set_option linter.unusedVariables false
set_option linter.unusedSimpArgs false
set_option linter.unusedSectionVars false
open Go
structure WD where
 w:World
 ds:List ADef
instance:Coe World WD:=⟨fun w=>⟨w,[]⟩⟩
section
variable {E:Env} {n:Nat}
theorem AWp.unds {ds:List ADef} {c:Code} {K:APred} {a:AAct} {σ:AStore} (h:AWp {E with ds:=ds} c K a σ):AWp E c K a σ:=by
 intro ι H w a' hR ha hr
 refine wpIn_mono (h ι H w a' (hR.toDs ds) ha hr) ?_
 rintro e a1 w1 ⟨ι',H',σ',a2,ae,h1,h2,h3,h4,h5⟩
 exact ⟨ι',H',σ',a2,ae,h1,h2,h3,h4.unds,h5⟩
def Top (E:Env) (n:Nat) (c:Code) (K:APred) (e:Ev) (σ:AStore):Prop:=okC n c=true->okE e->AWp E c K (actOf E.ds n e) σ
def lowS (E:Env) (n:Nat) (K:APred):SPred:=fun ex e σ=>okE e->∀ a,(actOf E.ds n e).Le a->K ex a σ
theorem Top_end {c:Code} {K:APred} {e:Ev} {σ:AStore} (h:Z E n c (lowS E n K) e σ):Top E n c K e σ:=by
 intro hc he
 refine (h hc he).mono ?_
 rintro ex a σ ⟨e,h1,h2,h3⟩
 exact h3 h1 a h2
theorem Top_seq {x y:Code} {K:APred} {e:Ev} {σ:AStore} (h:Z E n x (thenS (Top E n y K) (lowS E n K)) e σ):Top E n (.seq x y) K e σ:=by
 intro hc he
 simp only [okC,Bool.and_eq_true] at hc
 refine AWp.seq ((h hc.1 he).mono ?_)
 rintro ex a σ ⟨e,h1,h2,h3⟩
 cases ex with
 | normal=>exact (h3 hc.2 h1).weaken h2
 | _=>exact h3 h1 a h2
theorem Top_of {Ed:List ADef->Env} (hEd:∀ ds,{E with ds:=ds}=Ed ds) {ds:List ADef} {c:Code} {K:APred} {e:Ev} {σ:AStore} {a:AAct} (hc:okC n c=true) (he:okE e) (h:Top (Ed ds) n c K e σ) (hl:(actOf ds n e).Le a):AWp E c K a σ:=by
 rw [<-hEd ds] at h
 exact AWp.weaken hl (AWp.unds (h hc he))
theorem aGo_mono {dst:Option Tmp} {K K':APred} {k k':AAct->AStore->Prop} {a:AAct} {σ:AStore} (hK:∀ v a σ,K (.pan v) a σ->K' (.pan v) a σ) (hk:∀ a σ,k a σ->k' a σ) {r:ARes} (h:aGo E dst K k a σ r):aGo E dst K' k' a σ r:=by
 cases r with
 | val v σ'=>exact ⟨h.1,hk _ _ h.2⟩
 | vals l=>exact ⟨h.1,fun p hp=>hk _ _ (h.2 p hp)⟩
 | skip σ'=>exact ⟨h.1,hk _ _ h.2⟩
 | enter f args=>
  refine ⟨h.1,ACallsT.mono h.2 ?_⟩
  intro en σ' hh
  cases en with
  | ret v=>exact hk _ _ hh
  | pan v=>exact hK _ _ _ hh
 | dfr d=>exact ⟨h.1,h.2.1,hk _ _ h.2.2⟩
 | pan v=>exact hK _ _ _ h
 | recov=>exact h
 | bad=>exact h
theorem aStep_mono {ops:Array Oper} {o:Oper} {K K':APred} {k k':AAct->AStore->Prop} {a:AAct} {σ:AStore} (hK:∀ v a σ,K (.pan v) a σ->K' (.pan v) a σ) (hk:∀ a σ,k a σ->k' a σ) (h:aStep E ops o K k a σ):aStep E ops o K' k' a σ:=by
 unfold aStep at h ⊢
 split
 ·rename_i hg; rw [hg] at h; exact aGo_mono hK hk h
 ·rename_i j want hg
  rw [hg] at h
  simp only [] at h
  cases hy:aYield ops a j with
  | none=>rw [hy] at h; exact h.elim
  | some b=>rw [hy] at h; exact ⟨fun hb=>aGo_mono hK hk (h.1 hb),fun hb=>⟨(h.2 hb).1,hk _ _ (h.2 hb).2⟩⟩
theorem aOps_app {ops:Array Oper} {K:APred} {l2:List Nat}:∀ (l1:List Nat) (a:AAct) (σ:AStore),aOps E ops (fun ex a σ=>match ex with|.normal=>aOps E ops K l2 a σ|ex=>K ex a σ) l1 a σ->aOps E ops K (l1++l2) a σ
  | [],a,σ,h=>h
  | i :: l1, a, σ, h => by
      simp only [aOps,List.cons_append] at h ⊢
      split at h
      · exact aOps_app l1 a σ h
      · exact aStep_mono (fun v a σ h=>h) (fun a σ h=>aOps_app l1 a σ h) h
theorem vOps_soundK {ds : List ADef} {ops : Array Oper} {K : SPred} {K' : APred} (hn : ∀ e σ, okE e → K .normal e σ → K' .normal (actOf ds n e) σ) (hp : ∀ v a σ, liftS ds n K (.pan v) a σ → K' (.pan v) a σ) :
    ∀ (l:List Nat) (os:List Oper) (e:Ev) (σ:AStore),l.map (ops[·]?)=os.map some->fitOps n os=true->okE e->vOps E ops K os e σ->aOps E ops K' l (actOf ds n e) σ
  | [], os, e, σ, hl, _, he, h => by
      cases os with
      | nil=>exact hn e σ he h
      | cons o os=>simp at hl
  | i :: l, os, e, σ, hl, hf, he, h => by
      cases os with
      | nil=>simp at hl
      | cons o os=>
        simp only [List.map_cons,List.cons.injEq] at hl
        simp only [fitOps,List.all_cons,Bool.and_eq_true] at hf
        obtain ⟨hi,hl⟩:=hl
        simp only [aOps,hi]
        exact aStep_mono hp (fun _ _ h=>h) (vStep_sound (k':=aOps E ops K' l) he hf.1 (fun e σ he h=>vOps_soundK hn hp l os e σ hl hf.2 he h) h)
theorem Top_dfr {Ed:List ADef->Env} (hEd:∀ ds,{E with ds:=ds}=Ed ds) (hrd:E.rd=none) {id:Nat} {ops:Array Oper} {rest:Code} {K:APred} {e:Ev} {σ:AStore}
  (pre:List Oper) (o:Oper) (hops:ops.toList=pre++[o]) (hg:o.guard=none)
  (h:vOps E ops (fun ex e σ=>match ex with
   | .normal=>∃ d,aOp E false o.op (evE E.G e) σ=.dfr d/\Top (Ed (d::E.ds)) n rest K (putE e o.dst undefA) σ
   | ex=>lowS E n K ex e σ) pre e σ):Top E n (.seq (.region id ops false) rest) K e σ:=by
 intro hc he
 simp only [okC,Bool.and_eq_true] at hc
 have hf:fitOps n ops.toList=true:=hc.1
 rw [hops] at hf
 simp only [fitOps,List.all_append,List.all_cons,List.all_nil,Bool.and_eq_true,Bool.and_true] at hf
 obtain ⟨f1,f2⟩:=hf
 have hsz:ops.size=pre.length+1:=by
  have:=congrArg List.length hops
  simpa using this
 refine AWp.seq (AWp.region ?_)
 have hget:∀ i:Nat,ops[i]?=(pre++[o])[i]?:=fun i=>by rw [<-hops]; simp
 rw [hsz,List.range_succ]
 refine aOps_app _ _ _ ?_
 have hl1:(List.range pre.length).map (ops[·]?)=pre.map some:=by
  apply List.ext_getElem?
  intro i
  simp only [List.getElem?_map]
  by_cases hi:i < pre.length
  ·simp [hi,hget,List.getElem?_append]
  ·rw [List.getElem?_eq_none (by simp; omega),List.getElem?_eq_none (by omega)]; rfl
 refine vOps_soundK (n:=n) (ds:=E.ds) ?_ ?_ (List.range pre.length) pre e σ hl1 f1 he h
 ·rintro e σ g1 ⟨d,g4,g5⟩
  show aOps E ops _ [pre.length] (actOf E.ds n e) σ
  simp only [aOps]
  have ho:ops[pre.length]?=some o:=by simp [hget]
  rw [ho]
  simp only [aStep,hg]
  rw [ev_actOf g1,g4]
  refine ⟨by rw [fits_actOf]; exact f2,hrd,?_⟩
  have he2:okE (putE e o.dst undefA):=okE_put g1 f2 _
  have hEG:(Ed (d::E.ds)).ds=d::E.ds:=by rw [<-hEd]
  refine Top_of hEd hc.2 he2 g5 ?_
  rw [<-put_putE]
  have h1:({actOf E.ds n e with defers:=d::(actOf E.ds n e).defers}:AAct)=actOf (d::E.ds) n e:=by
   rw [(actOf_n E.ds n e).2]
   clear g4 g5 he2 h he hl1
   induction e with
   | nil=>rfl
   | cons p e ih=>
    have ih:=ih (fun a v hm=>g1 a v (List.mem_cons_of_mem _ hm))
    obtain ⟨t,v⟩:=p
    show _=(actOf (d::E.ds) n e).put (some t) (some v)
    rw [<-ih,AAct.put_eq]
    show ({(actOf E.ds n e).put (some t) (some v) with defers:=_}:AAct)=_
    rw [AAct.put_eq]
  rw [h1]
  exact AAct.Le.refl _
 ·rintro v a σ ⟨e,g1,g2,g3⟩
  exact g3 g1 a g2
def vFinD (E:Env) (rs:List ResultVar) (g:FuncId) (as:List AVal) (R:AEnd->AStore->Prop):SPred
 | .normal,e,σ|.ret,e,σ=>ACallsD E g as σ fun en σ'=>match en with
  | .ret _=>dRd (fun v=>R (.ret v) σ') ((vResults E rs e σ').map oneOf)
  | .pan v=>R (.pan v) σ'
 | _,_,_=>False
theorem aResult_of_v {rs:List ResultVar} {a:AAct} {e:Ev} {σ:AStore} {ds:List ADef} {R:AVal->Prop} (h1:okE e) (h2:(actOf ds n e).Le a) (h3:dRd R ((vResults E rs e σ).map oneOf)):∃ v,aResult E rs a σ=some v/\R v:=by
 cases h4:vResults E rs e σ with
 | none=>rw [h4] at h3; exact h3.elim
 | some vs=>
  rw [h4] at h3
  refine ⟨oneOf vs,?_,h3⟩
  unfold aResult
  rw [vResults_eq h1 h2 h4]
  match vs with
  | []=>rfl
  | [v]=>rfl
  | _::_::_=>rfl
theorem low_fin0 {fn:Func} {rs:List ResultVar} (hr:fn.results.toList=rs) (hds:E.ds=[]) {R:AEnd->AStore->Prop} {ex:AExit} {e:Ev} {σ:AStore} (h:vFin E rs R ex e σ):lowS E n (aEndD E fn R) ex e σ:=by
 subst hr
 intro he a hl
 have hd:a.defers=[]:=(hl.2.1.symm.trans (actOf_n _ n e).2).trans hds
 cases ex with
 | normal=>show ALeaves E fn a R a.defers none σ; rw [hd]; exact aResult_of_v (R:=fun v=>R (.ret v) σ) he hl h
 | ret=>show ALeaves E fn a R a.defers none σ; rw [hd]; exact aResult_of_v (R:=fun v=>R (.ret v) σ) he hl h
 | pan v=>show ALeaves E fn a R a.defers (some v) σ; rw [hd]; exact h
 | exit id=>exact h.elim
 | goto l=>exact h.elim
theorem low_fin1 {fn:Func} {rs:List ResultVar} (hr:fn.results.toList=rs) {g:FuncId} {cap as:List AVal} (hds:E.ds=[⟨.func g,cap,as⟩]) (hfn:E.fns g=true) {R:AEnd->AStore->Prop} {ex:AExit} {e:Ev} {σ:AStore}
  (h:vFinD E rs g (as++cap) R ex e σ):lowS E n (aEndD E fn R) ex e σ:=by
 subst hr
 intro he a hl
 have hd:a.defers=[⟨.func g,cap,as⟩]:=(hl.2.1.symm.trans (actOf_n _ n e).2).trans hds
 have key:ACallsD E g (as++cap) σ (fun en σ'=>match en with
  | .ret _=>dRd (fun v=>R (.ret v) σ') ((vResults E fn.results.toList e σ').map oneOf)
  | .pan v=>R (.pan v) σ')->ALeaves E fn a R a.defers none σ:=by
  intro h
  rw [hd]
  refine ⟨hfn,(ACallsM.of_D (m:=none) h).mono ?_⟩
  rintro en m' σ' ⟨rfl,hh⟩
  cases en with
  | ret v=>exact aResult_of_v (R:=fun v=>R (.ret v) σ') he hl hh
  | pan v=>exact hh
 cases ex with
 | normal=>exact key h
 | ret=>exact key h
 | pan v=>exact h.elim
 | exit id=>exact h.elim
 | goto l=>exact h.elim
theorem Top_seq0 {fn:Func} {rs:List ResultVar} (hr:fn.results.toList=rs) (hds:E.ds=[]) {R:AEnd->AStore->Prop} {x y:Code} {e:Ev} {σ:AStore} (h:Z E n x (thenS (Top E n y (aEndD E fn R)) (vFin E rs R)) e σ):Top E n (.seq x y) (aEndD E fn R) e σ:=by
 refine Top_seq (Z_mono h ?_)
 intro ex e σ he hh
 cases ex with
 | normal=>exact hh
 | _=>exact low_fin0 hr hds hh
theorem Top_fin1 {fn:Func} {rs:List ResultVar} (hr:fn.results.toList=rs) {g:FuncId} {cap as:List AVal} (hds:E.ds=[⟨.func g,cap,as⟩]) (hfn:E.fns g=true) {R:AEnd->AStore->Prop} {c:Code} {e:Ev} {σ:AStore}
  (h:Z E n c (vFinD E rs g (as++cap) R) e σ):Top E n c (aEndD E fn R) e σ:=
 Top_end (Z_mono h fun _ _ _ _ hh=>low_fin1 hr hds hfn hh)
theorem ACallsD.unds {ds:List ADef} {f:FuncId} {args:List AVal} {σ:AStore} {R:AEnd->AStore->Prop} (h:ACallsD {E with ds:=ds} f args σ R):ACallsD E f args σ R:=by
 intro ι H w args' u hR ha
 refine CallsDIn.mono (h ι H w args' u (hR.toDs ds) ha) ?_
 rintro e u' w' ⟨hu,ι',H',σ',ae,h1,h2,h3,h4⟩
 exact ⟨hu,ι',H',σ',ae,h1,h2,h3.unds,h4⟩
theorem ACalls.of_Top {E':Env} (hE:{E with ds:=[]}=E') (hrd:E.rd=none) {f:FuncId} (fn:Func) (c:Code) {args:List AVal} {σ:AStore} {R:AEnd->AStore->Prop} (hf:E.P.funcs[f]?=some fn) (hb:fn.body=some c) (hm:fn.ntmps=n) (hok:okC n c=true)
  (hn:Nat.ble args.length n=true) (hl:Nat.blt args.length 1000=true) (h:Top E' n c (aEndD E' fn R) (initE args 0) σ):ACalls E f args σ R:=by
 subst hE hm
 have hn:=Nat.le_of_ble_eq_true hn
 rw [Nat.blt_eq] at hl
 refine ACalls.unds (ds:=[]) (ACalls.of_wpD (E:={E with ds:=[]}) hrd hf hb hn hl ?_)
 exact AWp.weaken (a:=aInit args fn.ntmps) (b:=actOf [] fn.ntmps (initE args 0)) (init_le args fn.ntmps hl) (h hok (okE_initE args 0 (by omega)))
theorem ACallsD.of_V' {E':Env} (hE:{E with ds:=[]}=E') (hrd:E.rd=none) {f:FuncId} (fn:Func) (c:Code) (rs:List ResultVar) {args:List AVal} {σ:AStore} {R:AEnd->AStore->Prop} (hf:E.P.funcs[f]?=some fn) (hb:fn.body=some c) (hr:fn.results.toList=rs) (hm:fn.ntmps=n) (hok:okC n c=true)
  (hn:Nat.ble args.length n=true) (hl:Nat.blt args.length 1000=true)
  (h:V E' n c (vFin E' rs R) (initE args 0) σ):ACallsD E f args σ R:=by
 subst hE hm hr
 have hn:=Nat.le_of_ble_eq_true hn
 rw [Nat.blt_eq] at hl
 refine ACallsD.unds (ds:=[]) (ACallsD.of_wp (E:={E with ds:=[]}) hrd hf hb hn hl ?_)
 refine AWp.weaken (a:=aInit args fn.ntmps) (b:=actOf [] fn.ntmps (initE args 0)) (init_le args fn.ntmps hl) ?_
 refine (V_sound c h hok (okE_initE args 0 (by omega))).mono ?_
 rintro ex a σ ⟨e,h1,h2,h3⟩
 have hd:a.defers=[]:=h2.2.1.symm.trans (actOf_n _ _ e).2
 cases ex with
 | normal=>exact ⟨hd,aResult_of_v (R:=fun v=>R (.ret v) σ) h1 h2 h3⟩
 | ret=>exact ⟨hd,aResult_of_v (R:=fun v=>R (.ret v) σ) h1 h2 h3⟩
 | pan v=>exact ⟨hd,h3⟩
 | exit id=>exact h3.elim
 | goto l=>exact h3.elim
end
end Abs
namespace Abs
open Go
def mid (P:Ev->AStore->Prop) (Q:SPred):SPred
 | .normal,e,σ=>P e σ
 | ex,e,σ=>Q ex e σ
section
variable {E:Env} {n:Nat} {P:Ev->AStore->Prop} {Q:SPred} {e:Ev} {σ:AStore}
theorem mid_normal:mid P Q .normal e σ=P e σ:=rfl
theorem mid_ret:mid P Q .ret e σ=Q .ret e σ:=rfl
theorem Z_mid {x y:Code} (P:Ev->AStore->Prop) (h1:Z E n x (mid P Q) e σ) (h2:∀ e σ,P e σ->V E n y Q e σ):Z E n x (thenS (V E n y Q) Q) e σ:=by
 intro hc he
 refine (h1 hc he).mono ?_
 rintro ex a σ ⟨e,h3,h4,h5⟩
 refine ⟨e,h3,h4,?_⟩
 cases ex with
 | normal=>exact h2 e σ h5
 | _=>exact h5
end
attribute [go_sem ↓] mid_normal mid_ret
end Abs
namespace Abs
open Go
section
variable {E:Env} {n:Nat} {rs:List ResultVar} {g:FuncId} {as':List AVal} {R:AEnd->AStore->Prop} {e:Ev} {σ:AStore}
theorem vFinD_ret:vFinD E rs g as' R .ret e σ=ACallsD E g as' σ (fun en σ'=>match en with
  | .ret _=>dRd (fun v=>R (.ret v) σ') ((vResults E rs e σ').map oneOf)
  | .pan v=>R (.pan v) σ'):=rfl
theorem Top_dfr1 {Ed:List ADef->Env} (hEd:∀ ds,{E with ds:=ds}=Ed ds) (hrd:E.rd=none) {id:Nat} {a b:Oper} {rest:Code} {K:APred} (hg:b.guard=none)
  (h:vOps E #[a,b] (fun ex e σ=>match ex with
   | .normal=>∃ d,aOp E false b.op (evE E.G e) σ=.dfr d/\Top (Ed (d::E.ds)) n rest K (putE e b.dst undefA) σ
   | ex=>lowS E n K ex e σ) [a] e σ):Top E n (.seq (.region id #[a,b] false) rest) K e σ:=Top_dfr hEd hrd [a] b rfl hg h
end
attribute [go_sem ↓] vFinD_ret
end Abs
end
