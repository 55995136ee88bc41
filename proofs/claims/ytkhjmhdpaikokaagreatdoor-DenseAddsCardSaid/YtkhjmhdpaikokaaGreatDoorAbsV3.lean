/- Part of the abstract layer; it proves no statement by itself. -/
import Derived.Test.YtkhjmhdpaikokaaGreatDoorAbsV2
set_option linter.unusedVariables false
set_option linter.unusedSimpArgs false
set_option linter.unusedSectionVars false
noncomputable section
namespace Abs.Fr
open Go Abs
def xSt (E:Env) (call:XCall) (ops:Array Oper) (anc:List (Nat×Nat)) (a0:AAct) (i:Nat) (k:List Rec->AAct->AStore->Option (List Out)) (recs:List Rec) (a:AAct) (σ:AStore):Option (List Out):=
 match ops[i]? with
 | none=>none
 | some o=>
  match (match o.guard with
   | none=>some true
   | some (j,want)=>(aYield ops a j).map (·==some want)) with
  | none=>none
  | some false=>k recs (a.put o.dst (some undefA)) σ
  | some true=>
   match isEff E o.op with
   | false=>match aRead E o.op (a.ev E.G) σ with
    | some v=>k (⟨i,o.op,a,v⟩::recs) (a.put o.dst (some v)) σ
    | none=>none
   | true=>
    match aOp E true o.op (a.ev E.G) σ with
    | .val v σ'=>match xRecs E (look anc i) σ' (needR o.op recs) with
     | true=>k (keepR (look anc i) recs) (a.put o.dst (some v)) σ'
     | false=>none
    | .vals l=>bindO l fun p=>match xRecs E (look anc i) p.2 (needR o.op recs) with
     | true=>k (keepR (look anc i) recs) (a.put o.dst (some p.1)) p.2
     | false=>none
    | .skip σ'=>match xRecs E (look anc i) σ' (needR o.op recs) with
     | true=>k (keepR (look anc i) recs) (a.put o.dst (some undefA)) σ'
     | false=>none
    | .enter f args=>
     match call f args σ with
     | none=>none
     | some outs=>bindO outs fun r=>
      match r.1 with
      | .ret v=>match xRecs E (look anc i) r.2 (needR o.op recs) with
       | true=>k (keepR (look anc i) recs) (a.put o.dst (some v)) r.2
       | false=>none
      | .pan v=>some [(.pan v,a0,r.2)]
    | .pan v=>some [(.pan v,a0,σ)]
    | .dfr _=>none
    | .recov=>none
    | .bad=>none
def xDrs (E:Env) (call:XCall) (ops:Array Oper) (anc:List (Nat×Nat)) (a0:AAct):Nat->List Nat->List Rec->AAct->AStore->Option (List Out)
 | _,[],_,a,σ=>some [(.normal,a,σ)]
 | 0,_::_,_,_,_=>none
 | n+1,i::rest,recs,a,σ=>bindO (alts E ops anc (i::rest)) fun p=>xSt E call ops anc a0 p.1 (xDrs E call ops anc a0 n p.2) recs a σ
section
variable {E:Env} {call:XCall} (hc:CallOk E call)
include hc
theorem xSt_sound {ops : Array Oper} {anc : List (Nat × Nat)} {a0 : AAct} {K : APred} {i : Nat} {k : List Rec → AAct → AStore → Option (List Out)} {k' : List Rec → AAct → AStore → Prop}
    (hk:∀ recs a σ outs,k recs a σ=some outs->(∀ o∈outs,K o.1 o.2.1 o.2.2)->k' recs a σ) {recs:List Rec} {a:AAct} {σ:AStore} {outs:List Out} (h:xSt E call ops anc a0 i k recs a σ=some outs)
    (hK:∀ o∈outs,K o.1 o.2.1 o.2.2):aSt E ops anc K a0 i k' recs a σ:=by
  unfold xSt at h
  unfold aSt
  split at h
  · cases h
  · rename_i o ho
    simp only [ho]
    have rec_:∀ {recs a σ outs'},k recs a σ=some outs'->(∀ o∈outs',o∈outs)->k' recs a σ:=
      fun h' hsub=>hk _ _ _ _ h' (fun o ho=>hK o (hsub o ho))
    have go : (match isEff E o.op with
        | false=>match aRead E o.op (a.ev E.G) σ with
          | some v=>k (⟨i,o.op,a,v⟩::recs) (a.put o.dst (some v)) σ
          | none=>none
        | true=>
          match aOp E true o.op (a.ev E.G) σ with
          | .val v σ'=>match xRecs E (look anc i) σ' (needR o.op recs) with
            | true=>k (keepR (look anc i) recs) (a.put o.dst (some v)) σ'
            | false=>none
          | .vals ll=>bindO ll fun p=>match xRecs E (look anc i) p.2 (needR o.op recs) with
            | true=>k (keepR (look anc i) recs) (a.put o.dst (some p.1)) p.2
            | false=>none
          | .skip σ'=>match xRecs E (look anc i) σ' (needR o.op recs) with
            | true=>k (keepR (look anc i) recs) (a.put o.dst (some undefA)) σ'
            | false=>none
          | .enter f args=>
            match call f args σ with
            | none=>none
            | some outs=>bindO outs fun r=>
              match r.1 with
              | .ret v=>match xRecs E (look anc i) r.2 (needR o.op recs) with
                | true=>k (keepR (look anc i) recs) (a.put o.dst (some v)) r.2
                | false=>none
              | .pan v=>some [(.pan v,a0,r.2)]
          | .pan v=>some [(.pan v,a0,σ)]
          | .dfr _=>none
          | .recov=>none
          | .bad=>none)=some outs->
        (match isEff E o.op with
          | true=>aGoD E K a0 (fun x σ'=>recsOk E (look anc i) σ' (needR o.op recs)/\k' (keepR (look anc i) recs) (a.put o.dst x) σ') σ (aOp E true o.op (a.ev E.G) σ)
          | false=>match aRead E o.op (a.ev E.G) σ with
            | some v=>k' (⟨i,o.op,a,v⟩::recs) (a.put o.dst (some v)) σ
            | none=>False):=by
      intro h
      cases he:isEff E o.op with
      | false=>
        rw [he] at h
        simp only [] at h ⊢
        cases hr:aRead E o.op (a.ev E.G) σ with
        | none=>rw [hr] at h; cases h
        | some v=>rw [hr] at h; exact rec_ h (fun _ h=>h)
      | true=>
        rw [he] at h
        simp only [] at h ⊢
        have chk : ∀ {x : Option AVal} {σ' outs'}, (match xRecs E (look anc i) σ' (needR o.op recs) with
            | true=>k (keepR (look anc i) recs) (a.put o.dst x) σ'
            | false=>none)=some outs'->(∀ o∈outs',o∈outs)->recsOk E (look anc i) σ' (needR o.op recs)/\k' (keepR (look anc i) recs) (a.put o.dst x) σ':=by
          intro x σ' outs' h' hsub
          cases hx:xRecs E (look anc i) σ' (needR o.op recs) with
          | false=>rw [hx] at h'; cases h'
          | true=>rw [hx] at h'; exact ⟨xRecs_sound hx,rec_ h' hsub⟩
        generalize aOp E true o.op (a.ev E.G) σ=r at h
        cases r with
        | val v σ'=>exact chk h (fun _ h=>h)
        | vals ll=>
          intro p hp
          obtain ⟨ys,h1,h2⟩:=bindO_some h p hp
          exact chk h1 h2
        | skip σ'=>exact chk h (fun _ h=>h)
        | enter f args=>
          show ACallsT _ _ _ _ _
          simp only [] at h
          split at h
          · cases h
          · rename_i os' hcall
            refine (hc f args σ os' hcall).mono ?_
            intro e σ' hmem
            obtain ⟨ys,h1,h2⟩:=bindO_some h (e,σ') hmem
            cases e with
            | ret v=>exact chk h1 h2
            | pan v=>cases h1; exact hK (_,_,_) (h2 _ (List.mem_singleton.2 rfl))
        | pan v=>cases h; exact hK (_,_,_) (List.mem_singleton.2 rfl)
        | dfr d=>cases h
        | recov=>cases h
        | bad=>cases h
    cases hg:o.guard with
    | none=>rw [hg] at h; exact go h
    | some jw=>
      obtain ⟨j,want⟩:=jw
      rw [hg] at h
      simp only [] at h ⊢
      cases hy:aYield ops a j with
      | none=>rw [hy] at h; cases h
      | some b=>
        rw [hy] at h
        simp only [Option.map_some] at h
        refine ⟨fun hb=>?_,fun hb=>?_⟩
        · have:(b==some want)=true:=by simp [hb]
          rw [this] at h; exact go h
        · have:(b==some want)=false:=by simp [hb]
          rw [this] at h
          exact rec_ h (fun _ h=>h)
theorem xDrs_sound {ops : Array Oper} {anc : List (Nat × Nat)} {a0 : AAct} {K : APred} : ∀ (n : Nat) (l : List Nat) (recs : List Rec) (a : AAct) (σ : AStore) (outs : List Out), xDrs E call ops anc a0 n l recs a σ = some outs →
    (∀ o∈outs,K o.1 o.2.1 o.2.2)->aDrs E ops anc K a0 n l recs a σ
  | n, [], recs, a, σ, outs, h, hK => by
      have h:some [(AExit.normal,a,σ)]=some outs:=by cases n<;>exact h
      cases h
      have:K .normal a σ:=hK (_,_,_) (List.mem_singleton.2 rfl)
      cases n<;>exact this
  | 0,i::l,recs,a,σ,outs,h,hK=>by cases h
  | n + 1, i :: l, recs, a, σ, outs, h, hK => by
      intro p hp
      have h:bindO (alts E ops anc (i::l)) (fun p=>xSt E call ops anc a0 p.1 (xDrs E call ops anc a0 n p.2) recs a σ)=some outs:=h
      obtain ⟨ys,h1,h2⟩:=bindO_some h p hp
      exact xSt_sound hc (fun _ _ _ _ h hK=>xDrs_sound n p.2 _ _ _ _ h hK) h1 (fun o ho=>hK o (h2 o ho))
end
end Abs.Fr
end
