/- Part of the abstract layer; it proves no statement by itself. -/
import Derived.Test.YthedompojmncpaaGreatAbsVB
noncomputable section
namespace Abs
set_option linter.unusedVariables false
set_option linter.unusedSimpArgs false
set_option linter.unusedSectionVars false
open Go
def noG (Q:SPred):SPred
 | .goto _,_,_=>False
 | ex,e,σ=>Q ex e σ
def scpS {ι:Type} (S:ι->Ev) (I:ι->AStore->Prop) (P:ι->Prop) (l:Nat) (Q:SPred):SPred
 | .goto l',e,σ=>l'=l/\∃ j,P j/\I j σ/\subE (S j) e
 | ex,e,σ=>Q ex e σ
theorem leTrans {a b c:AAct} (h:a.Le b) (h':b.Le c):a.Le c:=⟨h.1.trans h'.1,h.2.1.trans h'.2.1,fun t v hv=>h'.2.2 t v (h.2.2 t v hv)⟩
section
variable {E:Env} {n:Nat} {c rest:Code} {Q:SPred} {e:Ev} {σ:AStore}
theorem noG_ret:noG Q .ret e σ=Q .ret e σ:=rfl
theorem scpS_ret {ι:Type} {S:ι->Ev} {I:ι->AStore->Prop} {P:ι->Prop} {l:Nat}:scpS S I P l Q .ret e σ=Q .ret e σ:=rfl
theorem scpS_goto {ι:Type} {S:ι->Ev} {I:ι->AStore->Prop} {P:ι->Prop} {l l':Nat}:scpS S I P l Q (.goto l') e σ=(l'=l/\∃ j,P j/\I j σ/\subE (S j) e):=rfl
theorem Z_scope0 (h:V E n c (noG Q) e σ):Z E n (.scope c) Q e σ:=by
 intro hc he
 have hc:okC n c=true:=hc
 refine AWp.scopeN 1 ?_
 refine (V_sound c h hc he).mono ?_
 rintro ex a σ ⟨e,h3,h4,h5⟩
 cases ex with
 | goto l=>exact h5.elim
 | _=>exact ⟨e,h3,h4,h5⟩
theorem Z_scope {ι:Type} (l:Nat) (S:ι->Ev) (I:ι->AStore->Prop) (m:ι->Nat) (M:Nat) (okS:∀ i,okT (S i)=true) (hf:findLabel c l=some rest) (hr:okC n rest=true)
  (h1:V E n c (scpS S I (fun j=>m j < M) l Q) e σ) (h2:∀ i σ,I i σ->V E n rest (scpS S I (fun j=>m j < m i) l Q) (S i) σ):Z E n (.scope c) Q e σ:=by
 intro hc he
 have hc:okC n c=true:=hc
 have key:∀ k i a σ,m i < k->I i σ->(actOf E.ds n (S i)).Le a->AScN E c (fun ex a σ=>∃ e,okE e/\(actOf E.ds n e).Le a/\Q ex e σ) k rest a σ:=by
  intro k
  induction k with
  | zero=>intro i a σ hk; omega
  | succ k ih=>
   intro i a σ hk hI hle
   refine AWp.weaken hle ((V_sound rest (h2 i σ hI) hr (okT_ok (okS i))).mono ?_)
   rintro ex a σ ⟨e,h3,h4,h5⟩
   cases ex with
   | goto l'=>
    obtain ⟨rfl,j,hj,hIj,hs⟩:=h5
    simp only [hf]
    exact ih j a σ (by omega) hIj (leTrans (actOf_le (okT_ok (okS j)) h3 (subE_look hs)) h4)
   | _=>exact ⟨e,h3,h4,h5⟩
 refine AWp.scopeN (M+1) ?_
 refine (V_sound c h1 hc he).mono ?_
 rintro ex a σ ⟨e,h3,h4,h5⟩
 cases ex with
 | goto l'=>
  obtain ⟨rfl,j,hj,hIj,hs⟩:=h5
  simp only [hf]
  exact key M j a σ hj hIj (leTrans (actOf_le (okT_ok (okS j)) h3 (subE_look hs)) h4)
 | _=>exact ⟨e,h3,h4,h5⟩
end
attribute [go_sem ↓] noG_ret scpS_ret scpS_goto
end Abs
end
