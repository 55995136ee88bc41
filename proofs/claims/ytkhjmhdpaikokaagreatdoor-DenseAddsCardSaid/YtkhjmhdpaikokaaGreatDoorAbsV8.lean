/- Part of the abstract layer; it proves no statement by itself. -/
import Derived.Test.YtkhjmhdpaikokaaGreatDoorAbsRow
import Derived.Test.YtkhjmhdpaikokaaGreatDoorAbsV3
set_option linter.unusedVariables false
set_option linter.unusedSimpArgs false
set_option linter.unusedSectionVars false
noncomputable section
namespace Abs
open Go
inductive DT where
 | fin
 | one (i:Nat) (t:DT)
 | two (i:Nat) (t:DT) (j:Nat) (u:DT)
def treeOk (E:Env) (ops:Array Oper) (anc:List (Nat×Nat)):DT->List Nat->Bool
 | .fin,s=>match s with
  | []=>true
  | _::_=>false
 | .one i t,s=>match Fr.alts E ops anc s with
  | [p]=>Nat.beq p.1 i && treeOk E ops anc t p.2
  | _=>false
 | .two i t j u,s=>match Fr.alts E ops anc s with
  | [p,q]=>(Nat.beq p.1 i && treeOk E ops anc t p.2) && (Nat.beq q.1 j && treeOk E ops anc u q.2)
  | _=>false
def vSt (E:Env) (ops:Array Oper) (anc:List (Nat×Nat)) (K:SPred) (i:Nat) (k:List SRec->Ev->Bool->AStore->Prop) (recs:List SRec) (e:Ev) (q:Bool) (σ:AStore):Prop:=
 match ops[i]? with
 | none=>False
 | some o=>
  match o.guard with
  | none=>
   match isEff E o.op with
   | true=>dGo E (look anc i) o.dst K (k recs) recs e q σ (aOp E true o.op (evE E.G e) σ)
   | false=>dRd (fun v=>k (⟨i,o.op,e,v⟩::recs) (putE e o.dst v) q σ) (aRead E o.op (evE E.G e) σ)
  | some (j,want)=>
   vIf (sYield ops e j) want
    (match isEff E o.op with
    | true=>dGo E (look anc i) o.dst K (k recs) recs e q σ (aOp E true o.op (evE E.G e) σ)
    | false=>dRd (fun v=>k (⟨i,o.op,e,v⟩::recs) (putE e o.dst v) q σ) (aRead E o.op (evE E.G e) σ))
    (k recs (putE e o.dst undefA) q σ)
def vT (E:Env) (ops:Array Oper) (anc:List (Nat×Nat)) (K:SPred):DT->List SRec->Ev->Bool->AStore->Prop
 | .fin,_,e,_,σ=>K .normal e σ
 | .one i t,recs,e,q,σ=>vSt E ops anc K i (vT E ops anc K t) recs e q σ
 | .two i t j u,recs,e,q,σ=>vSt E ops anc K i (vT E ops anc K t) recs e q σ/\vSt E ops anc K j (vT E ops anc K u) recs e q σ
section
variable {E:Env} {n:Nat} {ds:List ADef}
theorem needR_sub {op:Op} {recs:List Rec} {r:Rec} (h:r∈Fr.needR op recs):r∈recs:=by
 unfold Fr.needR at h
 split at h
 ·exact (List.mem_filter.1 h).1
 ·exact h
theorem recsOk_sub {m:Nat} {σ:AStore}:∀ {rs rs':List Rec},(∀ r∈rs',r∈rs)->recsOk E m σ rs->recsOk E m σ rs'
  | rs,[],_,_=>trivial
  | rs, r :: rs', hs, h => by
      refine ⟨?_,recsOk_sub (fun r hr=>hs r (by simp [hr])) h⟩
      rcases recsOk_mem h r (hs r (by simp)) with h1|h1
      · rw [h1]; trivial
      · cases m.testBit r.i with
        | true=>trivial
        | false=>exact h1
theorem keepR_map {m:Nat}:∀ (recs:List SRec),∃ recs2:List SRec,Fr.keepR m (recs.map (toRec ds n))=recs2.map (toRec ds n)/\∀ r∈recs2,r∈recs
  | []=>⟨[],rfl,by simp⟩
  | r :: rs => by
      obtain ⟨r2,h1,h2⟩:=keepR_map rs
      simp only [List.map_cons,Fr.keepR]
      cases hb:m.testBit (toRec ds n r).i with
      | true=>exact ⟨r2,h1,fun x hx=>by simp [h2 x hx]⟩
      | false => exact ⟨r :: r2, by rw [h1]; rfl, fun x hx => by
          simp only [List.mem_cons] at hx ⊢
          rcases hx with hx|hx
          · exact .inl hx
          · exact .inr (h2 x hx)⟩
def Anti (k:List SRec->Ev->Bool->AStore->Prop):Prop:=∀ recs recs' e q σ,(∀ r∈recs',r∈recs)->k recs e q σ->k recs' e q σ
theorem sRecs_mem {m:Nat} {σ:AStore}:∀ {rs:List SRec},sRecs E m σ rs->∀ r∈rs,m.testBit r.i=true\/sHolds E r σ
  | [],_,_,h=>by simp at h
  | x :: rs, hk, r, hr => by
      simp only [List.mem_cons] at hr
      rcases hr with rfl|hr
      · have:=hk.1
        cases ht:m.testBit r.i with
        | true=>exact .inl rfl
        | false=>rw [ht] at this; exact .inr this
      · exact sRecs_mem hk.2 r hr
theorem sRecs_sub {m:Nat} {σ:AStore}:∀ {rs rs':List SRec},(∀ r∈rs',r∈rs)->sRecs E m σ rs->sRecs E m σ rs'
  | rs,[],_,_=>trivial
  | rs, r :: rs', hs, h => by
      refine ⟨?_,sRecs_sub (fun r hr=>hs r (by simp [hr])) h⟩
      rcases sRecs_mem h r (hs r (by simp)) with h1|h1
      · rw [h1]; trivial
      · cases m.testBit r.i with
        | true=>trivial
        | false=>exact h1
theorem vIf_mono {b:Option (Option Bool)} {w:Bool} {p q p' q':Prop} (hp:p->p') (hq:q->q') (h:vIf b w p q):vIf b w p' q':=by
 unfold vIf at h ⊢
 split
 ·rename_i b hb; exact ⟨fun hh=>hp (h.1 hh),fun hh=>hq (h.2 hh)⟩
 ·exact h
theorem dGo_mono {m:Nat} {dst:Option Nat} {K:SPred} {k k':Ev->Bool->AStore->Prop} {recs recs':List SRec} (hs:∀ r∈recs',r∈recs) (hk:∀ e q σ,k e q σ->k' e q σ) {e:Ev} {q:Bool} {σ:AStore} {r:ARes}
  (h:dGo E m dst K k recs e q σ r):dGo E m dst K k' recs' e q σ r:=by
 cases r with
 | val v σ'=>exact ⟨sRecs_sub hs h.1,hk _ _ _ h.2⟩
 | vals l=>exact fun p hp=>⟨sRecs_sub hs (h p hp).1,hk _ _ _ (h p hp).2⟩
 | skip σ'=>exact ⟨sRecs_sub hs h.1,hk _ _ _ h.2⟩
 | enter f args=>
  refine ACallsT.mono h ?_
  intro en σ' hh
  cases en with
  | ret v=>
   rcases hh with ⟨h1,h2,h3⟩|⟨h1,h2⟩
   ·exact .inl ⟨h1,h2,hk _ _ _ h3⟩
   ·exact .inr ⟨sRecs_sub hs h1,hk _ _ _ h2⟩
  | pan v=>exact hh
 | pan v=>exact h
 | dfr d=>exact h
 | recov=>exact h
 | bad=>exact h
theorem vSt_anti {ops:Array Oper} {anc:List (Nat×Nat)} {K:SPred} {i:Nat} {k:List SRec->Ev->Bool->AStore->Prop} (hk:Anti k):Anti (vSt E ops anc K i k):=by
  intro recs recs' e q σ hs h
  unfold vSt at h ⊢
  split
  · rename_i ho; rw [ho] at h; exact h
  · rename_i o ho
    rw [ho] at h
    simp only [] at h
    have go : (match isEff E o.op with
        | true=>dGo E (look anc i) o.dst K (k recs) recs e q σ (aOp E true o.op (evE E.G e) σ)
        | false=>dRd (fun v=>k (⟨i,o.op,e,v⟩::recs) (putE e o.dst v) q σ) (aRead E o.op (evE E.G e) σ))->
        (match isEff E o.op with
        | true=>dGo E (look anc i) o.dst K (k recs') recs' e q σ (aOp E true o.op (evE E.G e) σ)
        | false=>dRd (fun v=>k (⟨i,o.op,e,v⟩::recs') (putE e o.dst v) q σ) (aRead E o.op (evE E.G e) σ)):=by
      intro h
      cases heff:isEff E o.op with
      | true=>rw [heff] at h; exact dGo_mono hs (fun e q σ=>hk _ _ _ _ _ hs) h
      | false=>
        rw [heff] at h
        simp only [] at h ⊢
        cases hr:aRead E o.op (evE E.G e) σ with
        | none=>rw [hr] at h; exact h
        | some v=>
          rw [hr] at h
          refine hk _ _ _ _ _ ?_ h
          intro r hr'
          simp only [List.mem_cons] at hr' ⊢
          rcases hr' with hr'|hr'
          · exact .inl hr'
          · exact .inr (hs r hr')
    cases hg:o.guard with
    | none=>rw [hg] at h; exact go h
    | some jw=>
      obtain ⟨j,want⟩:=jw
      rw [hg] at h
      exact vIf_mono go (hk _ _ _ _ _ hs) h
theorem vT_anti {ops:Array Oper} {anc:List (Nat×Nat)} {K:SPred}:∀ t:DT,Anti (vT E ops anc K t)
 | .fin=>fun _ _ _ _ _ _ h=>h
 | .one i t=>vSt_anti (vT_anti t)
 | .two i t j u=>fun _ _ _ _ _ hs h=>⟨vSt_anti (vT_anti t) _ _ _ _ _ hs h.1,vSt_anti (vT_anti u) _ _ _ _ _ hs h.2⟩
theorem vSt_sound {ops : Array Oper} {anc : List (Nat × Nat)} {K : SPred} {a0 : AAct} (h0 : (actOf ds n []).Le a0) {i : Nat} (hfit : ∀ (i : Nat) (o : Oper), ops[i]? = some o → fitN n o.dst = true)
    {k:List SRec->Ev->Bool->AStore->Prop} {k':List Rec->AAct->AStore->Prop} (hanti:Anti k)
    (hk:∀ recs e q σ,okE e->(∀ r∈recs,okE r.e)->(q=true->∀ r∈recs,sHolds E r σ)->k recs e q σ->k' (recs.map (toRec ds n)) (actOf ds n e) σ)
    {recs:List SRec} {e:Ev} {q:Bool} {σ:AStore} (he:okE e) (hro:∀ r∈recs,okE r.e) (hq:q=true->∀ r∈recs,sHolds E r σ) (h:vSt E ops anc K i k recs e q σ):
    Fr.aSt E ops anc (liftS ds n K) a0 i k' (recs.map (toRec ds n)) (actOf ds n e) σ:=by
  unfold vSt at h
  unfold Fr.aSt
  cases ho:ops[i]? with
  | none=>rw [ho] at h; exact h.elim
  | some o=>
    rw [ho] at h
    simp only [] at h ⊢
    have hf:=hfit i o ho
    have go : (match isEff E o.op with
        | true=>dGo E (look anc i) o.dst K (k recs) recs e q σ (aOp E true o.op (evE E.G e) σ)
        | false=>dRd (fun v=>k (⟨i,o.op,e,v⟩::recs) (putE e o.dst v) q σ) (aRead E o.op (evE E.G e) σ))->
        (match isEff E o.op with
          | true=>aGoD E (liftS ds n K) a0 (fun x σ'=>recsOk E (look anc i) σ' (Fr.needR o.op (recs.map (toRec ds n)))/\k' (Fr.keepR (look anc i) (recs.map (toRec ds n))) ((actOf ds n e).put o.dst x) σ') σ (aOp E true o.op ((actOf ds n e).ev E.G) σ)
          | false=>match aRead E o.op ((actOf ds n e).ev E.G) σ with
            | some v=>k' (⟨i,o.op,actOf ds n e,v⟩::recs.map (toRec ds n)) ((actOf ds n e).put o.dst (some v)) σ
            | none=>False):=by
      intro h
      rw [ev_actOf he]
      cases heff:isEff E o.op with
      | false=>
        rw [heff] at h
        simp only [] at h ⊢
        cases hr:aRead E o.op (evE E.G e) σ with
        | none=>rw [hr] at h; exact h.elim
        | some v=>
          rw [hr] at h
          simp only [put_putE]
          refine hk (⟨i,o.op,e,v⟩::recs) (putE e o.dst v) q σ (okE_put he hf v) ?_ ?_ h
          · intro r hr'
            simp only [List.mem_cons] at hr'
            rcases hr' with rfl|hr'
            · exact he
            · exact hro r hr'
          · intro hqq r hr'
            simp only [List.mem_cons] at hr'
            rcases hr' with rfl|hr'
            · exact hr
            · exact hq hqq r hr'
      | true=>
        rw [heff] at h
        simp only [] at h ⊢
        obtain ⟨recs2,hm1,hm2⟩:=keepR_map (n:=n) (m:=look anc i) recs
        rw [hm1]
        have next:∀ (e':Ev) (q':Bool) (σ':AStore),okE e'->(q'=true->∀ r∈recs,sHolds E r σ')->k recs e' q' σ'->k' (recs2.map (toRec ds n)) (actOf ds n e') σ':=
          fun e' q' σ' he' hq' hh=>hk recs2 e' q' σ' he' (fun r hr=>hro r (hm2 r hr)) (fun hqt r hr=>hq' hqt r (hm2 r hr)) (hanti _ _ _ _ _ hm2 hh)
        have chk : ∀ {v : AVal} {σ' : AStore}, sRecs E (look anc i) σ' recs ∧ k recs (putE e o.dst v) false σ' →
            recsOk E (look anc i) σ' (Fr.needR o.op (recs.map (toRec ds n)))/\k' (recs2.map (toRec ds n)) ((actOf ds n e).put o.dst (some v)) σ':=by
          intro v σ' hh
          refine ⟨recsOk_sub (fun r hr=>needR_sub hr) (sRecs_ok hro hh.1),?_⟩
          rw [put_putE]
          exact next _ false σ' (okE_put he hf v) (fun hc=>by cases hc) hh.2
        generalize aOp E true o.op (evE E.G e) σ=r at h
        cases r with
        | val v σ'=>exact chk h
        | vals ll=>intro p hp; exact chk (h p hp)
        | skip σ'=>exact chk h
        | enter f args=>
          refine ACallsT.mono h ?_
          intro en σ' hh
          cases en with
          | ret v=>
            rcases hh with ⟨hqt,rfl,hh⟩|hh
            · refine ⟨recsOk_all ?_,?_⟩
              · intro r hr
                have hr:=needR_sub hr
                simp only [List.mem_map] at hr
                obtain ⟨s,hs,rfl⟩:=hr
                show aRead E s.op ((actOf ds n s.e).ev E.G) σ'=some s.v
                rw [ev_actOf (hro s hs)]
                exact hq hqt s hs
              · rw [put_putE]
                exact next _ true σ' (okE_put he hf v) (fun _=>hq hqt) hh
            · exact chk hh
          | pan v=>exact ⟨[],okE_nil,h0,hh⟩
        | pan v=>exact ⟨[],okE_nil,h0,h⟩
        | dfr d=>exact h.elim
        | recov=>exact h.elim
        | bad=>exact h.elim
    cases hg:o.guard with
    | none=>rw [hg] at h; exact go h
    | some jw=>
      obtain ⟨j,want⟩:=jw
      rw [hg] at h
      simp only [] at h ⊢
      unfold vIf at h
      cases hy:sYield ops e j with
      | none=>rw [hy] at h; exact h.elim
      | some b=>
        rw [hy] at h
        simp only [sYield_eq he hy] at h ⊢
        refine ⟨fun hb=>go (h.1 hb),fun hb=>?_⟩
        rw [put_putE]
        exact hk recs _ q σ (okE_put he hf _) hro hq (h.2 hb)
theorem vT_sound {ops : Array Oper} {anc : List (Nat × Nat)} {K : SPred} {a0 : AAct} (h0 : (actOf ds n []).Le a0) (hfit : ∀ (i : Nat) (o : Oper), ops[i]? = some o → fitN n o.dst = true) :
    ∀ (t:DT) (m:Nat) (s:List Nat) (recs:List SRec) (e:Ev) (q:Bool) (σ:AStore),s.length<=m->treeOk E ops anc t s=true->okE e->(∀ r∈recs,okE r.e)->(q=true->∀ r∈recs,sHolds E r σ)->vT E ops anc K t recs e q σ->
      Fr.aDrs E ops anc (liftS ds n K) a0 m s (recs.map (toRec ds n)) (actOf ds n e) σ
  | .fin, m, s, recs, e, q, σ, hm, ht, he, hro, hq, h => by
      cases s with
      | cons i s=>cases ht
      | nil=>cases m<;>exact ⟨e,he,AAct.Le.refl _,h⟩
  | .one i t, m, s, recs, e, q, σ, hm, ht, he, hro, hq, h => by
      unfold treeOk at ht
      cases s with
      | nil=>cases ht
      | cons i0 s0=>
        cases m with
        | zero=>simp at hm
        | succ m=>
          intro p hp
          split at ht
          · rename_i p0 hp0
            rw [hp0] at hp
            simp only [List.mem_singleton] at hp
            subst hp
            rw [Bool.and_eq_true] at ht
            obtain rfl:=Nat.eq_of_beq_eq_true ht.1
            have hlen:=Fr.alts_len (E:=E) (ops:=ops) (anc:=anc) (s:=i0::s0) p (by rw [hp0]; simp)
            exact vSt_sound h0 hfit (vT_anti t) (fun recs e q σ he hro hq hh=>vT_sound h0 hfit t m p.2 recs e q σ (by simp at hlen hm; omega) ht.2 he hro hq hh) he hro hq h
          · cases ht
  | .two i t j u, m, s, recs, e, q, σ, hm, ht, he, hro, hq, h => by
      unfold treeOk at ht
      cases s with
      | nil=>cases ht
      | cons i0 s0=>
        cases m with
        | zero=>simp at hm
        | succ m=>
          intro p hp
          split at ht
          · rename_i p0 q0 hp0
            rw [hp0] at hp
            simp only [List.mem_cons,List.not_mem_nil,or_false] at hp
            rw [Bool.and_eq_true,Bool.and_eq_true,Bool.and_eq_true] at ht
            obtain ⟨⟨t1,t2⟩,t3,t4⟩:=ht
            rcases hp with rfl|rfl
            · obtain rfl:=Nat.eq_of_beq_eq_true t1
              have hlen:=Fr.alts_len (E:=E) (ops:=ops) (anc:=anc) (s:=i0::s0) p (by rw [hp0]; simp)
              exact vSt_sound h0 hfit (vT_anti t) (fun recs e q σ he hro hq hh=>vT_sound h0 hfit t m p.2 recs e q σ (by simp at hlen hm; omega) t2 he hro hq hh) he hro hq h.1
            · obtain rfl:=Nat.eq_of_beq_eq_true t3
              have hlen:=Fr.alts_len (E:=E) (ops:=ops) (anc:=anc) (s:=i0::s0) p (by rw [hp0]; simp)
              exact vSt_sound h0 hfit (vT_anti u) (fun recs e q σ he hro hq hh=>vT_sound h0 hfit u m p.2 recs e q σ (by simp at hlen hm; omega) t4 he hro hq hh) he hro hq h.2
          · cases ht
theorem Z_drawT {id:Nat} {ops:Array Oper} (hm:E.P.follows .mixedOrders=true) (canon:List Nat) (anc:List (Nat×Nat)) (t:DT) (h1:Fr.drawOkF ops canon=true) (h2:ancs ops canon []=anc) (h3:treeOk E ops anc t canon=true)
  {Q:SPred} {e:Ev} {σ:AStore} (h:vT E ops anc Q t [] e true σ):Z E n (.region id ops true) Q e σ:=by
 intro hf he
 subst h2
 have hf:fitOps n ops.toList=true:=hf
 have hfit:∀ (i:Nat) (o:Oper),ops[i]?=some o->fitN n o.dst=true:=by
  intro i o ho
  unfold fitOps at hf
  rw [List.all_eq_true] at hf
  exact hf o (by have:=Array.mem_of_getElem? ho; simpa using this)
 refine Fr.region_drawF hm (n:=canon.length) h1 ?_ (vT_sound (nil_le _ _ he hf) hfit t canon.length canon [] e true σ (Nat.le_refl _) h3 he (by simp) (by simp) h)
 unfold fitsAll
 unfold fitOps at hf
 rw [List.all_eq_true] at hf ⊢
 intro o ho
 rw [fits_actOf]
 exact hf o ho
end
section
variable {E:Env} {ops:Array Oper} {anc:List (Nat×Nat)} {K:SPred} {recs:List SRec} {e:Ev} {q:Bool} {σ:AStore} {k:List SRec->Ev->Bool->AStore->Prop}
def vSo (E:Env) (anc:List (Nat×Nat)) (K:SPred) (i:Nat) (k:List SRec->Ev->Bool->AStore->Prop) (recs:List SRec) (e:Ev) (q:Bool) (σ:AStore) (dst:Option Nat) (op:Op):Bool->Prop
 | true=>dGo E (look anc i) dst K (k recs) recs e q σ (aOp E true op (evE E.G e) σ)
 | false=>dRd (fun v=>k (⟨i,op,e,v⟩::recs) (putE e dst v) q σ) (aRead E op (evE E.G e) σ)
def vSg (E:Env) (ops:Array Oper) (anc:List (Nat×Nat)) (K:SPred) (i:Nat) (k:List SRec->Ev->Bool->AStore->Prop) (recs:List SRec) (e:Ev) (q:Bool) (σ:AStore) (dst:Option Nat) (op:Op):Option (Nat×Bool)->Prop
 | none=>vSo E anc K i k recs e q σ dst op (isEff E op)
 | some (j,want)=>vIf (sYield ops e j) want (vSo E anc K i k recs e q σ dst op (isEff E op)) (k recs (putE e dst undefA) q σ)
def vS1 (E:Env) (ops:Array Oper) (anc:List (Nat×Nat)) (K:SPred) (i:Nat) (k:List SRec->Ev->Bool->AStore->Prop) (recs:List SRec) (e:Ev) (q:Bool) (σ:AStore):Option Oper->Prop
 | none=>False
 | some o=>vSg E ops anc K i k recs e q σ o.dst o.op o.guard
theorem vT_fin:vT E ops anc K .fin recs e q σ=K .normal e σ:=rfl
theorem vT_one {i:Nat} {t:DT}:vT E ops anc K (.one i t) recs e q σ=vSt E ops anc K i (vT E ops anc K t) recs e q σ:=rfl
theorem vT_two {i j:Nat} {t u:DT}:vT E ops anc K (.two i t j u) recs e q σ=(vSt E ops anc K i (vT E ops anc K t) recs e q σ/\vSt E ops anc K j (vT E ops anc K u) recs e q σ):=rfl
theorem vSt_eq {i:Nat}:vSt E ops anc K i k recs e q σ=vS1 E ops anc K i k recs e q σ ops[i]?:=by
 simp only [vSt]
 cases ops[i]? with
 | none=>rfl
 | some o=>
  simp only [vS1]
  cases hg:o.guard with
  | none=>simp only [vSg]; cases isEff E o.op<;>rfl
  | some jw=>simp only [vSg]; cases isEff E o.op<;>rfl
theorem vS1_some {i:Nat} {dst:Option Nat} {op:Op} {t:TypeId} {p:String} {a:Array Edge} {g:Option (Nat×Bool)}:
  vS1 E ops anc K i k recs e q σ (some ⟨dst,op,t,p,a,g⟩)=vSg E ops anc K i k recs e q σ dst op g:=rfl
theorem vSg_none {i:Nat} {dst:Option Nat} {op:Op}:vSg E ops anc K i k recs e q σ dst op none=vSo E anc K i k recs e q σ dst op (isEff E op):=rfl
theorem vSo_true {i:Nat} {dst:Option Nat} {op:Op}:vSo E anc K i k recs e q σ dst op true=dGo E (look anc i) dst K (k recs) recs e q σ (aOp E true op (evE E.G e) σ):=rfl
theorem vSo_false {i:Nat} {dst:Option Nat} {op:Op}:vSo E anc K i k recs e q σ dst op false=dRd (fun v=>k (⟨i,op,e,v⟩::recs) (putE e dst v) q σ) (aRead E op (evE E.G e) σ):=rfl
theorem vS1_congr {i:Nat} {o o':Option Oper} (h:o=o'):vS1 E ops anc K i k recs e q σ o=vS1 E ops anc K i k recs e q σ o':=by rw [h]
theorem vSo_congr {i:Nat} {dst:Option Nat} {op:Op} {b b':Bool} (h:b=b'):vSo E anc K i k recs e q σ dst op b=vSo E anc K i k recs e q σ dst op b':=by rw [h]
end
theorem GivesV.useE {E:Env} {f:FuncId} {args:List AVal} {v:AVal} (h:GivesV E f args v) {K:SPred} {k:Ev->Bool->AStore->Prop} {e:Ev} {dst:Option Nat} {m:Nat} {recs:List SRec} {q:Bool} {σ:AStore}
  (hk:sRecs E m σ recs/\k (putE e dst v) false σ):ACalls E f args σ (dRet E m K k recs e dst q σ):=by
 refine (h σ).mono ?_
 rintro en σ' ⟨rfl,rfl⟩
 exact .inr hk
theorem Gives.useE {E:Env} {f:FuncId} {args:List AVal} {P:AVal->Prop} (h:Gives E f args P) {K:SPred} {k:Ev->Bool->AStore->Prop} {e:Ev} {dst:Option Nat} {m:Nat} {recs:List SRec} {q:Bool} {σ:AStore}
  (hk:∀ v,P v->sRecs E m σ recs/\k (putE e dst v) false σ):ACalls E f args σ (dRet E m K k recs e dst q σ):=by
 refine (h σ).mono ?_
 rintro en σ' ⟨rfl,v,hv,rfl⟩
 exact .inr (hk v hv)
attribute [congr] vS1_congr vSo_congr
attribute [go_sem ↓] vT_fin vT_one vT_two vSt_eq
attribute [go_sem] vS1_some vSg_none vSo_true vSo_false
end Abs
end
noncomputable section
namespace Abs
open Go
attribute [go_sem] Nat.testBit_eq_decide_div_mod_eq decide_true decide_false if_true if_false Bool.not_true Bool.not_false Bool.and_true Bool.true_and Bool.and_self and_true true_and and_self or_true true_or List.length_cons List.length_nil List.drop_zero List.drop_succ_cons List.drop_nil List.take_succ_cons List.take_zero List.take_nil List.getElem?_cons_zero List.getElem?_cons_succ List.getElem?_nil List.set_cons_zero List.set_cons_succ List.all_cons List.all_nil List.map_cons List.map_nil Option.bind_some Option.map_some Option.isSome_some Int.toNat_natCast Nat.zero_add Nat.add_zero Nat.one_mul Nat.mul_one Nat.le_refl Int.le_refl Nat.zero_le not_true_eq_false not_false_eq_true ne_eq eq_self Nat.succ_ne_zero List.replicate_succ List.replicate_zero Bool.false_eq_true List.nil_append List.cons_append Nat.le_add_left Nat.lt_add_one Nat.lt_irrefl Nat.add_eq_zero_iff false_and and_false Nat.add_left_cancel_iff Nat.add_right_cancel_iff List.length_append List.length_map List.length_replicate List.length_set List.getElem?_map
attribute [go_sem] putR_ret
end Abs
end
noncomputable section
namespace Abs
open Go
section
variable {E:Env} {n:Nat} {ds:List ADef}
end
section
variable {E:Env} {ops:Array Oper} {anc:List (Nat×Nat)} {K:SPred} {recs:List SRec} {e:Ev} {q:Bool} {σ:AStore}
end
end Abs
end
noncomputable section
namespace Abs
open Go
attribute [go_sem] reduceIte Nat.reduceEqDiff Nat.reduceAdd Nat.reduceSub Nat.reduceMul Nat.reducePow Nat.reduceDiv Nat.reduceMod Nat.reduceBEq Nat.reduceBNe Nat.reduceLT Nat.reduceLeDiff Int.reduceToNat reduceCtorEq
theorem dcf {p:Prop} [i:Decidable p] (h:¬ p):decide p=false:=decide_eq_false h
theorem dct {p:Prop} [i:Decidable p] (h:p):decide p=true:=decide_eq_true h
class Spl (G:Prop) (D₁ P₁ D₂ P₂ A B:outParam Prop):Prop where
 imp:(D₁/\P₁->A)->(D₂/\P₂->B)->G
class SplZ (G:Prop) (E:outParam Env) (e:outParam Ev) (c:outParam Operand) (A B:outParam Prop):Prop where
 dec:∀ (P:Prop) (i:Decidable P),evE E.G e c=some (.sc (.bool (decide P)))->(P->A)->(¬ P->B)->G
 ndec:∀ (P:Prop) (i:Decidable P),evE E.G e c=some (.sc (.bool (!decide P)))->(¬ P->A)->(P->B)->G
section
variable {E:Env} {n:Nat} {c:Operand} {x y z:Code} {Q:SPred} {e:Ev} {σ:AStore} {P:Prop} {p q:Prop}
instance {i:Decidable P}:Spl (vIf (some (some (decide P))) true p q) (decide P=true) P (decide P=false) (¬ P) p q:=⟨fun h1 h2=>vIf_dec (fun h=>h1 ⟨dct h,h⟩) (fun h=>h2 ⟨dcf h,h⟩)⟩
instance {i:Decidable P}:Spl (vIf (some (some (decide P))) false p q) (decide P=false) (¬ P) (decide P=true) P p q:=⟨fun h1 h2=>vIf_decf (fun h=>h1 ⟨dcf h,h⟩) (fun h=>h2 ⟨dct h,h⟩)⟩
instance {i:Decidable P}:Spl (vIf (some (some (!decide P))) true p q) (decide P=false) (¬ P) (decide P=true) P p q:=⟨fun h1 h2=>vIf_ndec (fun h=>h1 ⟨dcf h,h⟩) (fun h=>h2 ⟨dct h,h⟩)⟩
instance {i:Decidable P}:Spl (vIf (some (some (!decide P))) false p q) (decide P=true) P (decide P=false) (¬ P) p q:=⟨fun h1 h2=>vIf_ndecf (fun h=>h1 ⟨dct h,h⟩) (fun h=>h2 ⟨dcf h,h⟩)⟩
instance:SplZ (Z E n (.cond c x y) Q e σ) E e c (V E n x Q e σ) (V E n y Q e σ):=⟨fun _ _ hb h1 h2=>Z_dec hb h1 h2,fun _ _ hb h1 h2=>Z_ndec hb h1 h2⟩
instance:SplZ (Z E n (.seq (.cond c x y) z) Q e σ) E e c (V E n x (thenS (V E n z Q) Q) e σ) (V E n y (thenS (V E n z Q) Q) e σ):=⟨fun _ _ hb h1 h2=>Zs_dec hb h1 h2,fun _ _ hb h1 h2=>Zs_ndec hb h1 h2⟩
theorem vy1 {G D₁ P₁ D₂ P₂ A B:Prop} [s:Spl G D₁ P₁ D₂ P₂ A B] (h1:D₁/\P₁->A) (h2:D₂/\P₂->B):G:=s.imp h1 h2
theorem vz2 {G A B:Prop} [s:SplZ G E e c A B] {i:Decidable P} (h1:P->A) (h2:¬ P->B) (hb:evE E.G e c=some (.sc (.bool (decide P))):=by exact rfl):G:=s.dec P i hb h1 h2
theorem vz3 {G A B:Prop} [s:SplZ G E e c A B] {i:Decidable P} (h1:¬ P->A) (h2:P->B) (hb:evE E.G e c=some (.sc (.bool (!decide P))):=by exact rfl):G:=s.ndec P i hb h1 h2
theorem vy2 {G A B:Prop} [s:SplZ G E e c A B] {i:Decidable P} (h1:decide P=true/\P->A) (h2:decide P=false/\¬ P->B) (hb:evE E.G e c=some (.sc (.bool (decide P))):=by exact rfl):G:=s.dec P i hb (fun h=>h1 ⟨dct h,h⟩) (fun h=>h2 ⟨dcf h,h⟩)
theorem vy3 {G A B:Prop} [s:SplZ G E e c A B] {i:Decidable P} (h1:decide P=false/\¬ P->A) (h2:decide P=true/\P->B) (hb:evE E.G e c=some (.sc (.bool (!decide P))):=by exact rfl):G:=s.ndec P i hb (fun h=>h1 ⟨dcf h,h⟩) (fun h=>h2 ⟨dct h,h⟩)
theorem vzt (h1:V E n x Q e σ) (hb:evE E.G e c=some (.sc (.bool true)):=by exact rfl):Z E n (.cond c x y) Q e σ:=Z_true hb h1
theorem vzf (h1:V E n y Q e σ) (hb:evE E.G e c=some (.sc (.bool false)):=by exact rfl):Z E n (.cond c x y) Q e σ:=Z_false hb h1
theorem vsb {id:Nat} {c y:Code} (h:V E n c (blkS id (thenS (V E n y Q) Q)) e σ):Z E n (.seq (.block id c) y) Q e σ:=Z_seq_block h
theorem vzb {id:Nat} {c:Code} (h:V E n c (blkS id Q) e σ):Z E n (.block id c) Q e σ:=Z_block h
theorem vzq {x y:Code} (h:V E n x (thenS (V E n y Q) Q) e σ):Z E n (.seq x y) Q e σ:=Z_seq h
theorem vz {G H:Prop} (h:H) (r:H->G:=by first|exact fun h=>vzt h|exact fun h=>vzf h|exact vsb|exact vzb|exact vzq):G:=r h
theorem vif {G P₁ P₂ A B:Prop} (a:P₁->A) (b:P₂->B) (r:(P₁->A)->(P₂->B)->G:=by first|exact fun a b=>vz2 a b|exact fun a b=>vz3 a b):G:=r a b
theorem vsu {p:Prop} (h:p:=by (repeat' (first|exact trivial|refine ⟨rfl,?_⟩))):p:=h
theorem vom {p:Prop} (h:p:=by first|omega|(dsimp only; omega)):p:=h
theorem vw {G P₁ P₂ A B A1 B1:Prop} (a:P₁->A1) (b:P₂->B1) (r:A->B->G:=by first|exact fun a b=>vy1 a b|exact fun a b=>vy2 a b|exact fun a b=>vy3 a b)
  (ca:(P₁->A1)->A:=by first|(intro h ⟨hd,hq⟩; exact (fun (_:True)=>by exfalso; omega) (h hq))|(intro h ⟨hd,hq⟩; simp -implicitDefEqProofs only [go_sem,hd]; exact h hq)|(intro h ⟨hd,hq⟩; exact h hq))
  (cb:(P₂->B1)->B:=by first|(intro h ⟨hd,hq⟩; exact (fun (_:True)=>by exfalso; omega) (h hq))|(intro h ⟨hd,hq⟩; simp -implicitDefEqProofs only [go_sem,hd]; exact h hq)|(intro h ⟨hd,hq⟩; exact h hq)):G:=r (ca a) (cb b)
end
class LpC (G:Prop) (E:outParam Env) (n:outParam Nat) (c:outParam Code) (Q:outParam SPred) (e:outParam Ev) (σ:outParam AStore):Prop where
 law:Z E n (.loop c) Q e σ->G
section
variable {E:Env} {n:Nat} {c y:Code} {Q:SPred} {e:Ev} {σ:AStore} {id:Nat}
instance:LpC (Z E n (.loop c) Q e σ) E n c Q e σ:=⟨fun h=>h⟩
instance:LpC (Z E n (.block id (.loop c)) Q e σ) E n c (blkS id Q) e σ:=⟨fun h=>Z_block h⟩
instance:LpC (Z E n (.seq (.block id (.loop c)) y) Q e σ) E n c (blkS id (thenS (V E n y Q) Q)) e σ:=⟨fun h=>Z_seq (Z_block h)⟩
theorem vlp {G:Prop} [l:LpC G E n c Q e σ] {ι:Type} (S:ι->Ev) (I:ι->AStore->Prop) (m:ι->Nat) (okS:∀ i,okT (S i)=true) (i0:ι) (h0:subE (S i0) e) (hσ:I i0 σ)
  (round:∀ i σ,I i σ->V E n c (again S I m (m i) Q) (S i) σ):G:=l.law (Z_loop S I m okS i0 h0 hσ round)
end
end Abs
end
