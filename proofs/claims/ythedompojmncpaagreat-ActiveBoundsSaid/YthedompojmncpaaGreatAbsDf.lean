/- Part of the abstract layer; it proves no statement by itself. -/
import Derived.Test.YthedompojmncpaaGreatAbsVB
import Derived.Test.YthedompojmncpaaGreatAbsEn
noncomputable section
namespace Abs
set_option linter.unusedVariables false
set_option linter.unusedSimpArgs false
set_option linter.unusedSectionVars false
open Go
structure WD where
 w:World
 ds:List ADef
instance:Coe World WD:=⟨fun w=>⟨w,[]⟩⟩
section
variable {E:Env} {n:Nat}
theorem aGo_mono {dst:Option Tmp} {K K':APred} {k k':AAct->AStore->Prop} {a:AAct} {σ:AStore} (hK:∀ v a σ,K (.pan v) a σ->K' (.pan v) a σ) (hk:∀ a σ,k a σ->k' a σ) {r:ARes} (h:aGo E dst K k a σ r):aGo E dst K' k' a σ r:=by
 cases r with
 | val v σ'=>exact ⟨h.1,hk _ _ h.2⟩
 | vals l=>exact ⟨h.1,fun p hp=>hk _ _ (h.2 p hp)⟩
 | skip σ'=>exact ⟨h.1,hk _ _ h.2⟩
 | enter f args=>
  refine ⟨h.1,ACallsT.mono h.2 ?_⟩
  intro en σ' hh
  cases en with
  | ret v=>exact hk _ _ hh
  | pan v=>exact hK _ _ _ hh
 | dfr d=>exact ⟨h.1,h.2.1,hk _ _ h.2.2⟩
 | pan v=>exact hK _ _ _ h
 | recov=>exact h
 | bad=>exact h
theorem aStep_mono {ops:Array Oper} {o:Oper} {K K':APred} {k k':AAct->AStore->Prop} {a:AAct} {σ:AStore} (hK:∀ v a σ,K (.pan v) a σ->K' (.pan v) a σ) (hk:∀ a σ,k a σ->k' a σ) (h:aStep E ops o K k a σ):aStep E ops o K' k' a σ:=by
 unfold aStep at h ⊢
 split
 ·rename_i hg; rw [hg] at h; exact aGo_mono hK hk h
 ·rename_i j want hg
  rw [hg] at h
  simp only [] at h
  cases hy:aYield ops a j with
  | none=>rw [hy] at h; exact h.elim
  | some b=>rw [hy] at h; exact ⟨fun hb=>aGo_mono hK hk (h.1 hb),fun hb=>⟨(h.2 hb).1,hk _ _ (h.2 hb).2⟩⟩
theorem aOps_app {ops:Array Oper} {K:APred} {l2:List Nat}:∀ (l1:List Nat) (a:AAct) (σ:AStore),aOps E ops (fun ex a σ=>match ex with|.normal=>aOps E ops K l2 a σ|ex=>K ex a σ) l1 a σ->aOps E ops K (l1++l2) a σ
  | [],a,σ,h=>h
  | i :: l1, a, σ, h => by
      simp only [aOps,List.cons_append] at h ⊢
      split at h
      · exact aOps_app l1 a σ h
      · exact aStep_mono (fun v a σ h=>h) (fun a σ h=>aOps_app l1 a σ h) h
end
end Abs
namespace Abs
open Go
def mid (P:Ev->AStore->Prop) (Q:SPred):SPred
 | .normal,e,σ=>P e σ
 | ex,e,σ=>Q ex e σ
section
variable {E:Env} {n:Nat} {P:Ev->AStore->Prop} {Q:SPred} {e:Ev} {σ:AStore}
theorem mid_normal:mid P Q .normal e σ=P e σ:=rfl
theorem mid_ret:mid P Q .ret e σ=Q .ret e σ:=rfl
theorem Z_mid {x y:Code} (P:Ev->AStore->Prop) (h1:Z E n x (mid P Q) e σ) (h2:∀ e σ,P e σ->V E n y Q e σ):Z E n x (thenS (V E n y Q) Q) e σ:=by
 intro hc he
 refine (h1 hc he).mono ?_
 rintro ex a σ ⟨e,h3,h4,h5⟩
 refine ⟨e,h3,h4,?_⟩
 cases ex with
 | normal=>exact h2 e σ h5
 | _=>exact h5
end
attribute [go_sem ↓] mid_normal mid_ret
end Abs
namespace Abs
open Go
section
variable {E:Env} {n:Nat} {rs:List ResultVar} {g:FuncId} {as':List AVal} {R:AEnd->AStore->Prop} {e:Ev} {σ:AStore}
end
end Abs
end
