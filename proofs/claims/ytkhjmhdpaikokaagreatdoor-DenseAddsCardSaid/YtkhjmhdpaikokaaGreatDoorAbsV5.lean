/- Part of the abstract layer; it proves no statement by itself. -/
import Derived.Test.YtkhjmhdpaikokaaGreatDoorAbsSY
import Derived.Test.YtkhjmhdpaikokaaGreatDoorAbsX
set_option linter.unusedVariables false
set_option linter.unusedSimpArgs false
set_option linter.unusedSectionVars false
noncomputable section
namespace Abs
open Go
def putR (E:Env) (K:SPred) (k:Ev->AStore->Prop) (e:Ev) (dst:Option Nat):AEnd->AStore->Prop
 | .ret v,σ'=>k (putE e dst v) σ'
 | .pan v,σ'=>K (.pan v) e σ'
def vGo (E:Env) (dst:Option Nat) (K:SPred) (k:Ev->AStore->Prop) (e:Ev) (σ:AStore):ARes->Prop
 | .val v σ'=>k (putE e dst v) σ'
 | .vals l=>∀ p∈l,k (putE e dst p.1) p.2
 | .skip σ'=>k (putE e dst undefA) σ'
 | .enter f args=>ACallsT E f args σ (putR E K k e dst)
 | .pan v=>K (.pan v) e σ
 | .dfr _|.recov|.bad=>False
def vIf (b:Option (Option Bool)) (want:Bool) (p q:Prop):Prop:=
 match b with
 | some b=>(b=some want->p)/\(b≠some want->q)
 | none=>False
def vStep (E:Env) (ops:Array Oper) (o:Oper) (K:SPred) (k:Ev->AStore->Prop) (e:Ev) (σ:AStore):Prop:=
 match o.guard with
 | none=>vGo E o.dst K k e σ (aOp E false o.op (evE E.G e) σ)
 | some (j,want)=>vIf (sYield ops e j) want (vGo E o.dst K k e σ (aOp E false o.op (evE E.G e) σ)) (k (putE e o.dst undefA) σ)
def vOps (E:Env) (ops:Array Oper) (K:SPred):List Oper->Ev->AStore->Prop
 | [],e,σ=>K .normal e σ
 | o::r,e,σ=>vStep E ops o K (vOps E ops K r) e σ
def fitOps (n:Nat) (ops:List Oper):Bool:=ops.all fun o=>fitN n o.dst
structure SRec where
 i:Nat
 op:Op
 e:Ev
 v:AVal
def sHolds (E:Env) (r:SRec) (σ:AStore):Prop:=aRead E r.op (evE E.G r.e) σ=some r.v
def sRecs (E:Env) (m:Nat) (σ:AStore):List SRec->Prop
 | []=>True
 | r::rs=>(match m.testBit r.i with|true=>True|false=>sHolds E r σ)/\sRecs E m σ rs
def dRet (E:Env) (m:Nat) (K:SPred) (k:Ev->Bool->AStore->Prop) (recs:List SRec) (e:Ev) (dst:Option Nat) (q:Bool) (σ:AStore):AEnd->AStore->Prop
 | .ret v,σ'=>(q=true/\σ'=σ/\k (putE e dst v) true σ')\/(sRecs E m σ' recs/\k (putE e dst v) false σ')
 | .pan v,σ'=>K (.pan v) [] σ'
def dGo (E:Env) (m:Nat) (dst:Option Nat) (K:SPred) (k:Ev->Bool->AStore->Prop) (recs:List SRec) (e:Ev) (q:Bool) (σ:AStore):ARes->Prop
 | .val v σ'=>sRecs E m σ' recs/\k (putE e dst v) false σ'
 | .vals l=>∀ p∈l,sRecs E m p.2 recs/\k (putE e dst p.1) false p.2
 | .skip σ'=>sRecs E m σ' recs/\k (putE e dst undefA) false σ'
 | .enter f args=>ACallsT E f args σ (dRet E m K k recs e dst q σ)
 | .pan v=>K (.pan v) [] σ
 | .dfr _|.recov|.bad=>False
def dRd (k:AVal->Prop):Option AVal->Prop
 | some v=>k v
 | none=>False
def vDr (E:Env) (ops:Array Oper) (anc:List (Nat×Nat)) (K:SPred):List Nat->List SRec->Ev->Bool->AStore->Prop
 | [],_,e,_,σ=>K .normal e σ
 | i::rest,recs,e,q,σ=>
  match ops[i]? with
  | none=>False
  | some o=>
   match o.guard with
   | none=>
    match isEff E o.op with
    | true=>dGo E (look anc i) o.dst K (fun e q σ=>vDr E ops anc K rest recs e q σ) recs e q σ (aOp E true o.op (evE E.G e) σ)
    | false=>dRd (fun v=>vDr E ops anc K rest (⟨i,o.op,e,v⟩::recs) (putE e o.dst v) q σ) (aRead E o.op (evE E.G e) σ)
   | some (j,want)=>
    vIf (sYield ops e j) want
     (match isEff E o.op with
     | true=>dGo E (look anc i) o.dst K (fun e q σ=>vDr E ops anc K rest recs e q σ) recs e q σ (aOp E true o.op (evE E.G e) σ)
     | false=>dRd (fun v=>vDr E ops anc K rest (⟨i,o.op,e,v⟩::recs) (putE e o.dst v) q σ) (aRead E o.op (evE E.G e) σ))
     (vDr E ops anc K rest recs (putE e o.dst undefA) q σ)
def okC (n:Nat):Code->Bool
 | .region _ ops _=>fitOps n ops.toList
 | .seq x y=>okC n x && okC n y
 | .cond _ x y=>okC n x && okC n y
 | .block _ c=>okC n c
 | .loop c=>okC n c
 | .scope c=>okC n c
 | _=>true
def hd:Code->Bool
 | .region _ _ false=>true
 | .skip|.label _|.exit _|.goto _|.ret=>true
 | .seq x _=>hd x
 | _=>false
def Z (E:Env) (n:Nat) (c:Code) (Q:SPred) (e:Ev) (σ:AStore):Prop:=okC n c=true->SWp E n c Q e σ
def vSeq (b:Bool) (p q:Prop):Prop:=
 match b with
 | true=>p
 | false=>q
def V (E:Env) (n:Nat):Code->SPred->Ev->AStore->Prop
 | .skip,Q,e,σ=>Q .normal e σ
 | .label _,Q,e,σ=>Q .normal e σ
 | .region _ ops false,Q,e,σ=>vOps E ops Q ops.toList e σ
 | .seq x y,Q,e,σ=>vSeq (hd x) (V E n x (thenS (V E n y Q) Q) e σ) (Z E n (.seq x y) Q e σ)
 | .exit id,Q,e,σ=>Q (.exit id) e σ
 | .goto l,Q,e,σ=>Q (.goto l) e σ
 | .ret,Q,e,σ=>Q .ret e σ
 | c,Q,e,σ=>Z E n c Q e σ
section
variable {E:Env} {n:Nat} {ds:List ADef}
theorem vGo_sound {K:SPred} {k:Ev->AStore->Prop} {k':AAct->AStore->Prop} {dst:Option Nat} {e:Ev} {σ:AStore} (he:okE e) (hf:fitN n dst=true)
  (hk:∀ e σ,okE e->k e σ->k' (actOf ds n e) σ) {r:ARes} (h:vGo E dst K k e σ r):aGo E dst (liftS ds n K) k' (actOf ds n e) σ r:=by
 cases r with
 | val v σ'=>exact ⟨by rw [fits_actOf]; exact hf,by rw [put_putE]; exact hk _ _ (okE_put he hf v) h⟩
 | vals l=>exact ⟨by rw [fits_actOf]; exact hf,fun p hp=>by rw [put_putE]; exact hk _ _ (okE_put he hf _) (h p hp)⟩
 | skip σ'=>exact ⟨by rw [fits_actOf]; exact hf,by rw [put_putE]; exact hk _ _ (okE_put he hf _) h⟩
 | enter f args=>
  refine ⟨by rw [fits_actOf]; exact hf,ACallsT.mono h ?_⟩
  intro en σ' hh
  cases en with
  | ret v=>show k' ((actOf ds n e).put dst (some v)) σ'; rw [put_putE]; exact hk _ _ (okE_put he hf _) hh
  | pan v=>exact ⟨e,he,AAct.Le.refl _,hh⟩
 | dfr d=>exact h.elim
 | pan v=>exact ⟨e,he,AAct.Le.refl _,h⟩
 | recov=>exact h.elim
 | bad=>exact h.elim
theorem vStep_sound {ops:Array Oper} {o:Oper} {K:SPred} {k:Ev->AStore->Prop} {k':AAct->AStore->Prop} {e:Ev} {σ:AStore} (he:okE e) (hf:fitN n o.dst=true)
  (hk:∀ e σ,okE e->k e σ->k' (actOf ds n e) σ) (h:vStep E ops o K k e σ):aStep E ops o (liftS ds n K) k' (actOf ds n e) σ:=by
 unfold vStep at h
 unfold aStep
 rw [ev_actOf he]
 split at h
 ·rename_i hg
  rw [hg]
  exact vGo_sound he hf hk h
 ·rename_i j want hg
  rw [hg]
  unfold vIf at h
  split at h
  ·rename_i b hb
   simp only [sYield_eq he hb]
   exact ⟨fun hw=>vGo_sound he hf hk (h.1 hw),fun hw=>⟨by rw [fits_actOf]; exact hf,by rw [put_putE]; exact hk _ _ (okE_put he hf _) (h.2 hw)⟩⟩
  ·exact h.elim
theorem vOps_sound {ops:Array Oper} {K:SPred}:∀ (l:List Nat) (os:List Oper) (e:Ev) (σ:AStore),l.map (ops[·]?)=os.map some->fitOps n os=true->okE e->vOps E ops K os e σ->aOps E ops (liftS ds n K) l (actOf ds n e) σ
  | [], os, e, σ, hl, _, he, h => by
      cases os with
      | nil=>exact ⟨e,he,AAct.Le.refl _,h⟩
      | cons o os=>simp at hl
  | i :: l, os, e, σ, hl, hf, he, h => by
      cases os with
      | nil=>simp at hl
      | cons o os=>
        simp only [List.map_cons,List.cons.injEq] at hl
        simp only [fitOps,List.all_cons,Bool.and_eq_true] at hf
        obtain ⟨hi,hl⟩:=hl
        simp only [aOps,hi]
        exact vStep_sound he hf.1 (fun e σ he h=>vOps_sound l os e σ hl hf.2 he h) h
def toRec (ds:List ADef) (n:Nat) (r:SRec):Rec:=⟨r.i,r.op,actOf ds n r.e,r.v⟩
theorem sRecs_ok {m:Nat} {σ:AStore}:∀ {rs:List SRec},(∀ r∈rs,okE r.e)->sRecs E m σ rs->recsOk E m σ (rs.map (toRec ds n))
  | [],_,_=>trivial
  | r :: rs, ho, h => by
      refine ⟨?_,sRecs_ok (fun r hr=>ho r (by simp [hr])) h.2⟩
      have h1:=h.1
      simp only [toRec]
      cases hb:m.testBit r.i with
      | true=>trivial
      | false=>
        rw [hb] at h1
        show aRead E r.op ((actOf ds n r.e).ev E.G) σ=some r.v
        rw [ev_actOf (ho r (by simp))]
        exact h1
theorem recsOk_all {m:Nat} {σ:AStore}:∀ {rs:List Rec},(∀ r∈rs,r.holds E σ)->recsOk E m σ rs
  | [],_=>trivial
  | r :: rs, h => by
      refine ⟨?_,recsOk_all (fun r hr=>h r (by simp [hr]))⟩
      cases m.testBit r.i with
      | true=>trivial
      | false=>exact h r (by simp)
theorem okE_nil:okE []:=fun _ _ h=>by simp at h
theorem nil_le (os:List Oper) (e:Ev) (he:okE e) (hf:fitOps n os=true):(actOf ds n []).Le (clearAll os (actOf ds n e)):=by
 have h:=clearAll_le os (actOf ds n e) (fun o ho=>by rw [fits_actOf]; simp only [fitOps,List.all_eq_true] at hf; exact hf o ho)
 refine ⟨by rw [h.1,(actOf_n ds n e).1]; exact (actOf_n ds n []).1,by rw [h.2.1,(actOf_n ds n e).2]; exact (actOf_n ds n []).2,fun t v ht=>?_⟩
 rw [get_actOf okE_nil] at ht
 cases ht
theorem vDr_sound {ops : Array Oper} {anc : List (Nat × Nat)} {K : SPred} {a0 : AAct} (h0 : (actOf ds n []).Le a0) (hfit : ∀ (i : Nat) (o : Oper), ops[i]? = some o → fitN n o.dst = true) :
    ∀ (l:List Nat) (recs:List SRec) (e:Ev) (q:Bool) (σ:AStore),okE e->(∀ r∈recs,okE r.e)->(q=true->∀ r∈recs,sHolds E r σ)->vDr E ops anc K l recs e q σ->
      aDr E ops anc (liftS ds n K) a0 l (recs.map (toRec ds n)) (actOf ds n e) σ
  | [],recs,e,q,σ,he,_,_,h=>⟨e,he,AAct.Le.refl _,h⟩
  | i :: rest, recs, e, q, σ, he, hro, hq, h => by
      unfold vDr at h
      unfold aDr
      cases ho:ops[i]? with
      | none=>rw [ho] at h; exact h.elim
      | some o=>
        rw [ho] at h
        simp only [] at h ⊢
        have hf:=hfit i o ho
        have ih:=vDr_sound (anc:=anc) (K:=K) h0 hfit rest
        have go : (match isEff E o.op with
            | true=>dGo E (look anc i) o.dst K (fun e q σ=>vDr E ops anc K rest recs e q σ) recs e q σ (aOp E true o.op (evE E.G e) σ)
            | false=>dRd (fun v=>vDr E ops anc K rest (⟨i,o.op,e,v⟩::recs) (putE e o.dst v) q σ) (aRead E o.op (evE E.G e) σ))->
            (match isEff E o.op with
              | true=>aGoD E (liftS ds n K) a0 (fun x σ'=>recsOk E (look anc i) σ' (recs.map (toRec ds n))/\aDr E ops anc (liftS ds n K) a0 rest (recs.map (toRec ds n)) ((actOf ds n e).put o.dst x) σ') σ (aOp E true o.op ((actOf ds n e).ev E.G) σ)
              | false=>match aRead E o.op ((actOf ds n e).ev E.G) σ with
                | some v=>aDr E ops anc (liftS ds n K) a0 rest (⟨i,o.op,actOf ds n e,v⟩::recs.map (toRec ds n)) ((actOf ds n e).put o.dst (some v)) σ
                | none=>False):=by
          intro h
          rw [ev_actOf he]
          cases heff:isEff E o.op with
          | false=>
            rw [heff] at h
            simp only [] at h ⊢
            cases hr:aRead E o.op (evE E.G e) σ with
            | none=>rw [hr] at h; exact h.elim
            | some v=>
              rw [hr] at h
              simp only [put_putE]
              refine ih (⟨i,o.op,e,v⟩::recs) (putE e o.dst v) q σ (okE_put he hf v) ?_ ?_ h
              · intro r hr'
                simp only [List.mem_cons] at hr'
                rcases hr' with rfl|hr'
                · exact he
                · exact hro r hr'
              · intro hqq r hr'
                simp only [List.mem_cons] at hr'
                rcases hr' with rfl|hr'
                · exact hr
                · exact hq hqq r hr'
          | true=>
            rw [heff] at h
            simp only [] at h ⊢
            have chk : ∀ {v : AVal} {σ' : AStore}, sRecs E (look anc i) σ' recs ∧ vDr E ops anc K rest recs (putE e o.dst v) false σ' →
                recsOk E (look anc i) σ' (recs.map (toRec ds n))/\aDr E ops anc (liftS ds n K) a0 rest (recs.map (toRec ds n)) ((actOf ds n e).put o.dst (some v)) σ':=by
              intro v σ' hh
              refine ⟨sRecs_ok hro hh.1,?_⟩
              rw [put_putE]
              exact ih recs _ false σ' (okE_put he hf v) hro (fun hc=>by cases hc) hh.2
            generalize aOp E true o.op (evE E.G e) σ=r at h
            cases r with
            | val v σ'=>exact chk h
            | vals ll=>intro p hp; exact chk (h p hp)
            | skip σ'=>exact chk h
            | enter f args=>
              refine ACallsT.mono h ?_
              intro en σ' hh
              cases en with
              | ret v=>
                rcases hh with ⟨hqt,rfl,hh⟩|hh
                · refine ⟨?_,?_⟩
                  · refine recsOk_all ?_
                    intro r hr
                    simp only [List.mem_map] at hr
                    obtain ⟨s,hs,rfl⟩:=hr
                    show aRead E s.op ((actOf ds n s.e).ev E.G) σ'=some s.v
                    rw [ev_actOf (hro s hs)]
                    exact hq hqt s hs
                  · rw [put_putE]
                    exact ih recs _ true σ' (okE_put he hf v) hro (fun _=>hq hqt) hh
                · exact chk hh
              | pan v=>exact ⟨[],okE_nil,h0,hh⟩
            | pan v=>exact ⟨[],okE_nil,h0,h⟩
            | dfr d=>exact h.elim
            | recov=>exact h.elim
            | bad=>exact h.elim
        cases hg:o.guard with
        | none=>rw [hg] at h; exact go h
        | some jw=>
          obtain ⟨j,want⟩:=jw
          rw [hg] at h
          simp only [] at h ⊢
          unfold vIf at h
          cases hy:sYield ops e j with
          | none=>rw [hy] at h; exact h.elim
          | some b=>
            rw [hy] at h
            simp only [sYield_eq he hy] at h ⊢
            refine ⟨fun hb=>go (h.1 hb),fun hb=>?_⟩
            rw [put_putE]
            exact ih recs _ q σ (okE_put he hf _) hro hq (h.2 hb)
theorem V_sound:∀ (c:Code) {Q:SPred} {e:Ev} {σ:AStore},V E n c Q e σ->Z E n c Q e σ
  | .skip,Q,e,σ,h=>fun _ he=>AWp.skip ⟨e,he,AAct.Le.refl _,h⟩
  | .label _,Q,e,σ,h=>fun _ he=>AWp.label ⟨e,he,AAct.Le.refl _,h⟩
  | .exit _,Q,e,σ,h=>fun _ he=>AWp.exit ⟨e,he,AAct.Le.refl _,h⟩
  | .goto _,Q,e,σ,h=>fun _ he=>AWp.goto ⟨e,he,AAct.Le.refl _,h⟩
  | .ret,Q,e,σ,h=>fun _ he=>AWp.ret ⟨e,he,AAct.Le.refl _,h⟩
  | .region _ ops true,Q,e,σ,h=>h
  | .loop _,Q,e,σ,h=>h
  | .scope _,Q,e,σ,h=>h
  | .rangeFunc ..,Q,e,σ,h=>h
  | .refuse ..,Q,e,σ,h=>h
  | .cond ..,Q,e,σ,h=>h
  | .block ..,Q,e,σ,h=>h
  | .region _ ops false, Q, e, σ, h => fun hc he => by
      refine AWp.region (vOps_sound _ ops.toList e σ ?_ hc he h)
      apply List.ext_getElem?
      intro i
      simp only [List.getElem?_map]
      by_cases hi:i < ops.size
      · simp [hi]
      · rw [List.getElem?_eq_none (by simp; omega),List.getElem?_eq_none (by simp; omega)]; rfl
  | .seq x y, Q, e, σ, h => by
      unfold V at h
      cases hh:hd x with
      | false=>rw [hh] at h; exact h
      | true=>
        rw [hh] at h
        intro hc he
        simp only [okC,Bool.and_eq_true] at hc
        refine AWp.seq ((V_sound x (Q:=thenS (V E n y Q) Q) h hc.1 he).mono ?_)
        rintro ex a σ ⟨e,h1,h2,h3⟩
        cases ex with
        | normal=>exact SWp.of h1 h2 (V_sound y h3 hc.2)
        | _=>exact ⟨e,h1,h2,h3⟩
theorem Z_seq {x y:Code} {Q:SPred} {e:Ev} {σ:AStore} (h:V E n x (thenS (V E n y Q) Q) e σ):Z E n (.seq x y) Q e σ:=by
 intro hc he
 simp only [okC,Bool.and_eq_true] at hc
 refine AWp.seq ((V_sound x (Q:=thenS (V E n y Q) Q) h hc.1 he).mono ?_)
 rintro ex a σ ⟨e,h1,h2,h3⟩
 cases ex with
 | normal=>exact SWp.of h1 h2 (V_sound y h3 hc.2)
 | _=>exact ⟨e,h1,h2,h3⟩
theorem Z_cond {c:Operand} {x y:Code} {Q:SPred} {e:Ev} {σ:AStore} {b:Bool} (hb:evE E.G e c=some (.sc (.bool b))) (h1:b=true->V E n x Q e σ) (h2:b=false->V E n y Q e σ):Z E n (.cond c x y) Q e σ:=by
 intro hc he
 simp only [okC,Bool.and_eq_true] at hc
 exact AWp.cond (b:=b) (by rw [ev_actOf he]; exact hb) (fun hh=>V_sound x (h1 hh) hc.1 he) (fun hh=>V_sound y (h2 hh) hc.2 he)
theorem Z_block {id:Nat} {c:Code} {Q:SPred} {e:Ev} {σ:AStore} (h:V E n c (blkS id Q) e σ):Z E n (.block id c) Q e σ:=by
 intro hc he
 refine AWp.block ((V_sound c (Q:=blkS id Q) h hc he).mono ?_)
 rintro ex a σ ⟨e,h1,h2,h3⟩
 cases ex with
 | exit id'=>
  simp only [AExit.inBlock]
  simp only [blkS] at h3
  split at h3
  ·rename_i hid; rw [if_pos hid]; exact ⟨e,h1,h2,h3⟩
  ·rename_i hid; rw [if_neg hid]; exact ⟨e,h1,h2,h3⟩
 | _=>exact ⟨e,h1,h2,h3⟩
theorem Z_draw {id:Nat} {ops:Array Oper} (hm:E.P.follows .mixedOrders=true) (canon:List Nat) (anc:List (Nat×Nat)) (h1:drawOk E ops canon=true) (h2:ancs ops canon []=anc) {Q:SPred} {e:Ev} {σ:AStore}
  (h:vDr E ops anc Q canon [] e true σ):Z E n (.region id ops true) Q e σ:=by
 intro hf he
 subst h2
 have hf:fitOps n ops.toList=true:=hf
 refine AWp.region_draw hm ⟨h1,?_,vDr_sound (nil_le _ _ he hf) ?_ canon [] e true σ he (by simp) (by simp) h⟩
 ·unfold fitsAll
  unfold fitOps at hf
  rw [List.all_eq_true] at hf ⊢
  intro o ho
  rw [fits_actOf]
  exact hf o ho
 ·intro i o ho
  unfold fitOps at hf
  rw [List.all_eq_true] at hf
  exact hf o (by have:=Array.mem_of_getElem? ho; simpa using this)
theorem Z_mono {c:Code} {Q Q':SPred} {e:Ev} {σ:AStore} (h:Z E n c Q e σ) (hq:∀ ex e σ,okE e->Q ex e σ->Q' ex e σ):Z E n c Q' e σ:=
 fun hc=>(h hc).mono hq
def subE:Ev->Ev->Prop
 | [],_=>True
 | (t,v)::r,e=>look? e t=some v/\subE r e
theorem subE_look:∀ {s e:Ev},subE s e->∀ t v,look? s t=some v->look? e t=some v
  | [],_,_,t,v,h=>by cases h
  | (t', v') :: r, e, h, t, v, hl => by
      unfold look? at hl
      split at hl
      · rename_i ht; cases hl; subst ht; exact h.1
      · exact subE_look h.2 t v hl
def okT (e:Ev):Bool:=e.all fun p=>Nat.blt p.1 1000000
theorem okT_ok {e:Ev} (h:okT e=true):okE e:=by
 intro d v hm
 unfold okT at h
 rw [List.all_eq_true] at h
 have:=h (d,v) hm
 simpa [Nat.blt_eq] using this
def again {ι:Type} (S:ι->Ev) (I:ι->AStore->Prop) (m:ι->Nat) (m0:Nat) (Q:SPred):SPred
 | .normal,e,σ=>∃ j,m j < m0/\I j σ/\subE (S j) e
 | ex,e,σ=>Q ex e σ
theorem Z_less {c:Code} {Q:SPred} {e e':Ev} {σ:AStore} (h:Z E n c Q e σ) (hk:okT e=true) (hl:subE e e'):Z E n c Q e' σ:=
 fun hc=>(h hc).less (okT_ok hk) (subE_look hl)
theorem Z_loop {ι:Type} {c:Code} {Q:SPred} (S:ι->Ev) (I:ι->AStore->Prop) (m:ι->Nat) (okS:∀ i,okT (S i)=true) {e:Ev} {σ:AStore} (i0:ι) (h0:subE (S i0) e) (hσ:I i0 σ)
  (round:∀ i σ,I i σ->V E n c (again S I m (m i) Q) (S i) σ):Z E n (.loop c) Q e σ:=by
 intro hc he
 have hc:okC n c=true:=hc
 refine AWp.weaken (actOf_le (okT_ok (okS i0)) he (subE_look h0)) ?_
 refine AWp.loop (fun k a σ=>∃ i,m i=k/\a=actOf E.ds n (S i)/\I i σ) (m i0) ⟨i0,rfl,rfl,hσ⟩ ?_
 rintro k a σ ⟨i,rfl,rfl,hI⟩
 refine (V_sound c (round i σ hI) hc (okT_ok (okS i))).mono ?_
 rintro ex a σ ⟨e,h1,h2,h3⟩
 cases ex with
 | normal=>
  obtain ⟨j,hj,hσ,hl⟩:=h3
  have hle:=actOf_le (ds:=E.ds) (n:=n) (okT_ok (okS j)) h1 (subE_look hl)
  exact ⟨actOf E.ds n (S j),m j,⟨hle.1.trans h2.1,hle.2.1.trans h2.2.1,fun t v ht=>h2.2.2 t v (hle.2.2 t v ht)⟩,hj,j,rfl,rfl,hσ⟩
 | _=>exact ⟨e,h1,h2,h3⟩
def after {ι:Type} (S:ι->Ev) (I:ι->AStore->Prop) (Q:SPred):SPred
 | .normal,e,σ=>∃ j,I j σ/\subE (S j) e
 | ex,e,σ=>Q ex e σ
theorem Z_cut {ι:Type} {x y:Code} {Q:SPred} (S:ι->Ev) (I:ι->AStore->Prop) (okS:∀ i,okT (S i)=true) {e:Ev} {σ:AStore}
  (h1:V E n x (after S I Q) e σ) (h2:∀ i σ,I i σ->V E n y Q (S i) σ):Z E n (.seq x y) Q e σ:=by
 intro hc he
 simp only [okC,Bool.and_eq_true] at hc
 refine AWp.seq ((V_sound x h1 hc.1 he).mono ?_)
 rintro ex a σ ⟨e,h3,h4,h5⟩
 cases ex with
 | normal=>
  obtain ⟨j,hj,hl⟩:=h5
  have:=Z_less (V_sound y (h2 j σ hj)) (okS j) hl
  exact SWp.of h3 h4 (this hc.2)
 | _=>exact ⟨e,h3,h4,h5⟩
def initE:List AVal->Nat->Ev
 | [],_=>[]
 | v::vs,k=>(k,v)::initE vs (k+1)
theorem aInitT_eq:∀ (args:List AVal) (k:Nat) (t:T AVal) (x:Nat),k+args.length < 2 ^ 20 - 1->(aInitT args k t).get x=if k<=x/\x < k+args.length then args[x - k]? else t.get x
  | [], k, t, x, _ => by
      rw [if_neg (by simp)]; rfl
  | v :: vs, k, t, x, h => by
      simp only [List.length_cons] at h
      show (aInitT vs (k+1) (T.put 20 t k (some v))).get x=_
      rw [aInitT_eq vs (k+1) _ x (by omega),T.get_put _ _ _ _ _ (by omega)]
      by_cases h1:k+1<=x/\x < k+1+vs.length
      · rw [if_pos h1,if_pos (by simp only [List.length_cons]; omega)]
        rw [show x - k=(x - (k+1))+1 by omega]; rfl
      · rw [if_neg h1]
        by_cases h2:x=k
        · subst h2; simp
        · rw [if_neg h2,if_neg (by simp only [List.length_cons]; omega)]
theorem look_initE:∀ (args:List AVal) (k x:Nat),look? (initE args k) x=if k<=x/\x < k+args.length then args[x - k]? else none
  | [],k,x=>by rw [if_neg (by simp)]; rfl
  | v :: vs, k, x => by
      unfold initE look?
      split
      · rename_i h; subst h; simp
      · rename_i h
        rw [look_initE vs]
        by_cases h1:k+1<=x/\x < k+1+vs.length
        · rw [if_pos h1,if_pos (by simp only [List.length_cons]; omega)]
          rw [show x - k=(x - (k+1))+1 by omega]; rfl
        · rw [if_neg h1,if_neg (by simp only [List.length_cons]; omega)]
theorem okE_initE:∀ (args:List AVal) (k:Nat),k+args.length < 1000000->okE (initE args k)
  | [],_,_=>okE_nil
  | v :: vs, k, h => by
      simp only [List.length_cons] at h
      intro d w hm
      simp only [initE,List.mem_cons,Prod.mk.injEq] at hm
      rcases hm with ⟨rfl,_⟩|hm
      · omega
      · exact okE_initE vs (k+1) (by omega) d w hm
theorem init_le (args:List AVal) (n:Nat) (h:args.length < 1000):(actOf [] n (initE args 0)).Le (aInit args n):=by
 refine ⟨(actOf_n _ n _).1,(actOf_n _ n _).2,fun t v ht=>?_⟩
 rw [get_actOf (okE_initE args 0 (by omega)),look_initE] at ht
 show (aInitT args 0 .leaf).get t=some v
 rw [aInitT_eq args 0 .leaf t (by omega)]
 by_cases h1:0<=t/\t < 0+args.length
 ·rw [if_pos h1] at ht ⊢; exact ht
 ·rw [if_neg h1] at ht; cases ht
def vResults (E:Env) (rs:List ResultVar) (e:Ev) (σ:AStore):Option (List AVal):=
 match rs with
 | []=>some []
 | .tmp t::rest=>
  match look? e t,vResults E rest e σ with
  | some v,some vs=>some (v::vs)
  | _,_=>none
 | .cell t ty::rest=>
  match look? e t,E.ty ty,vResults E rest e σ with
  | some p,some i,some vs=>
   match aLoad i.isA i.size p σ with
   | some v=>some (v::vs)
   | none=>none
  | _,_,_=>none
def oneOf:List AVal->AVal
 | [v]=>v
 | vs=>.tuple vs
def vEnd (E:Env) (fn:Func) (R:AEnd->AStore->Prop):SPred
 | .normal,e,σ|.ret,e,σ=>dRd (fun v=>R (.ret v) σ) ((vResults E fn.results.toList e σ).map oneOf)
 | .pan v,_,σ=>R (.pan v) σ
 | _,_,_=>False
theorem vResults_eq:∀ {rs:List ResultVar} {a:AAct} {e:Ev} {σ:AStore} {vs:List AVal},okE e->(actOf ds n e).Le a->vResults E rs e σ=some vs->aResults E rs a σ=some vs
  | [],a,e,σ,vs,_,_,h=>h
  | .tmp t :: rest, a, e, σ, vs, he, hl, h => by
      unfold vResults at h
      unfold aResults
      cases h1:look? e t with
      | none=>rw [h1] at h; cases h
      | some v=>
        cases h2:vResults E rest e σ with
        | none=>rw [h1,h2] at h; cases h
        | some ws=>
          rw [h1,h2] at h
          rw [hl.2.2 t v (by rw [get_actOf he]; exact h1),vResults_eq he hl h2]
          exact h
  | .cell t ty :: rest, a, e, σ, vs, he, hl, h => by
      unfold vResults at h
      unfold aResults
      cases h1:look? e t with
      | none=>rw [h1] at h; cases h
      | some v=>
        cases h2:vResults E rest e σ with
        | none=>rw [h1,h2] at h; cases h3:E.ty ty<;>rw [h3] at h<;>cases h
        | some ws=>
          cases h3:E.ty ty with
          | none=>rw [h1,h2,h3] at h; cases h
          | some i=>
            rw [h1,h2,h3] at h
            rw [hl.2.2 t v (by rw [get_actOf he]; exact h1),vResults_eq he hl h2]
            exact h
theorem Rel.toDs {ι:Inj} {H:Imm} {σ:AStore} {w:World} (h:Rel E ι H σ w) (ds:List ADef):Rel {E with ds:=ds} ι H σ w:=⟨h.imm,h.live,h.inj,h.glob,h.keep,h.tys⟩
theorem Rel.unds {ds:List ADef} {ι:Inj} {H:Imm} {σ:AStore} {w:World} (h:Rel {E with ds:=ds} ι H σ w):Rel E ι H σ w:=⟨h.imm,h.live,h.inj,h.glob,h.keep,h.tys⟩
theorem ACalls.unds {ds:List ADef} {f:FuncId} {args:List AVal} {σ:AStore} {R:AEnd->AStore->Prop} (h:ACalls {E with ds:=ds} f args σ R):ACalls E f args σ R:=by
 intro ι H w args' hR ha
 refine (h ι H w args' (hR.toDs ds) ha).mono ?_
 rintro e w' ⟨ι',H',σ',ae,h1,h2,h3,h4⟩
 exact ⟨ι',H',σ',ae,h1,h2,h3.unds,h4⟩
theorem ACalls.of_V0 (hrd:E.rd=none) (hds:E.ds=[]) {f:FuncId} (fn:Func) (c:Code) {args:List AVal} {σ:AStore} {R:AEnd->AStore->Prop} (hf:E.P.funcs[f]?=some fn) (hb:fn.body=some c) (hok:okC fn.ntmps c=true)
  (hn:Nat.ble args.length fn.ntmps=true) (hl:Nat.blt args.length 1000=true)
  (h:V E fn.ntmps c (vEnd E fn R) (initE args 0) σ):ACalls E f args σ R:=by
 have hn:=Nat.le_of_ble_eq_true hn
 rw [Nat.blt_eq] at hl
 refine ACalls.of_wp hrd hf hb hn hl ?_
 refine AWp.weaken (a:=aInit args fn.ntmps) (b:=actOf E.ds fn.ntmps (initE args 0)) (by rw [hds]; exact init_le args fn.ntmps hl) ?_
 refine (V_sound c h hok (okE_initE args 0 (by omega))).mono ?_
 rintro ex a σ ⟨e,h1,h2,h3⟩
 have hd:a.defers=[]:=(h2.2.1.symm.trans (actOf_n _ _ e).2).trans hds
 have fin:∀ {a:AAct},(actOf E.ds fn.ntmps e).Le a->dRd (fun v=>R (.ret v) σ) ((vResults E fn.results.toList e σ).map oneOf)->∃ v,aResult E fn.results.toList a σ=some v/\R (.ret v) σ:=by
  intro a h2 h3
  cases h4:vResults E fn.results.toList e σ with
  | none=>rw [h4] at h3; exact h3.elim
  | some vs=>
   rw [h4] at h3
   refine ⟨oneOf vs,?_,h3⟩
   unfold aResult
   rw [vResults_eq h1 h2 h4]
   match vs with
   | []=>rfl
   | [v]=>rfl
   | _::_::_=>rfl
 cases ex with
 | normal=>exact ⟨hd,fin h2 h3⟩
 | ret=>exact ⟨hd,fin h2 h3⟩
 | pan v=>exact ⟨hd,h3⟩
 | exit id=>exact h3.elim
 | goto l=>exact h3.elim
theorem ACalls.of_V {E':Env} (hE:{E with ds:=[]}=E') (hrd:E.rd=none) {f:FuncId} (fn:Func) (c:Code) {args:List AVal} {σ:AStore} {R:AEnd->AStore->Prop} (hf:E.P.funcs[f]?=some fn) (hb:fn.body=some c) (hok:okC fn.ntmps c=true)
  (hn:Nat.ble args.length fn.ntmps=true) (hl:Nat.blt args.length 1000=true)
  (h:V E' fn.ntmps c (vEnd E' fn R) (initE args 0) σ):ACalls E f args σ R:=by
 subst hE
 exact ACalls.unds (ACalls.of_V0 (E:={E with ds:=[]}) hrd rfl fn c hf hb hok hn hl h)
end
end Abs
end
