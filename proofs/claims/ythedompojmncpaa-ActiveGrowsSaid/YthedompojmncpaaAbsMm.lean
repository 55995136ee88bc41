/- Part of the abstract layer; it proves no statement by itself. -/
import Derived.Test.YthedompojmncpaaAbsZ
noncomputable section
namespace Abs
set_option linter.unusedVariables false
set_option linter.unusedSimpArgs false
set_option linter.unusedSectionVars false
open Go
structure Mem where
 f:FuncId
 args:List AVal
 ends:List AEnd
def findM (f:FuncId) (args:List AVal):List Mem->Option (List AEnd)
 | []=>none
 | m::ms=>
  match Nat.beq m.f f with
  | true=>match aeqs m.args args with
   | true=>some m.ends
   | false=>findM f args ms
  | false=>findM f args ms
theorem findM_some {f:FuncId} {args:List AVal} {es:List AEnd}:∀ {l:List Mem},findM f args l=some es->(⟨f,args,es⟩:Mem)∈l
  | [],h=>by cases h
  | m :: ms, h => by
      unfold findM at h
      split at h
      · rename_i h1
        split at h
        · rename_i h2
          cases h
          have e1:=Nat.eq_of_beq_eq_true h1
          have e2:=aeqs_eq h2
          subst e1 e2
          simp
        · exact List.mem_cons_of_mem _ (findM_some h)
      · exact List.mem_cons_of_mem _ (findM_some h)
def FTab.memo (F:FTab) (l:List Mem):FTab:=⟨F.fn,fun f args=>match findM f args l with
 | some es=>some es
 | none=>F.ctr f args,F.pure,F.fz,F.tz,F.ctrT⟩
def eqEs:List AEnd->List AEnd->Bool
 | [],[]=>true
 | a::as,b::bs=>eqE a b && eqEs as bs
 | _,_=>false
theorem eqEs_eq:∀ {a b:List AEnd},eqEs a b=true->a=b
  | [],[],_=>rfl
  | [],_::_,h=>by cases h
  | _::_,[],h=>by cases h
  | a :: as, b :: bs, h => by
      simp only [eqEs,Bool.and_eq_true] at h
      have:a=b:=by
        have h1:=h.1
        cases a<;>cases b<;>simp only [eqE] at h1<;>first|cases h1; done|rw [aeq_eq h1]
      rw [this,eqEs_eq h.2]
def memOk (E:Env) (F:FTab) (n:Nat) (m:Mem):Bool:=
 match sfvs m.args with
 | true=>match xEnds (xCall E F n m.f m.args empty) with
  | some es=>eqEs es m.ends
  | none=>false
 | false=>false
theorem memOk_sound {E:Env} {F:FTab} (hrd:E.rd=none) (hF:FOk E F) {n:Nat} {m:Mem} (h:memOk E F n m=true) (σ:AStore):ACalls E m.f m.args σ fun e σ'=>σ'=σ/\e∈m.ends:=by
 unfold memOk at h
 split at h
 ·rename_i hs
  split at h
  ·rename_i es he
   have:=eqEs_eq h
   subst this
   cases hr:xCall E F n m.f m.args empty with
   | none=>rw [hr] at he; cases he
   | some os=>
    rw [hr] at he
    exact xEnds_sound hF.glob hs he ((x_sound hrd hF n).2.2.2.1 m.f m.args empty os hr) σ
  ·cases h
 ·cases h
theorem FOk.memo {E:Env} {F:FTab} (hrd:E.rd=none) (hF:FOk E F) {n:Nat} {m:Mem} (h:memOk E F n m=true):FOk E (F.memo [m]):=by
 refine ⟨hF.fn,?_,hF.glob,hF.ctrT⟩
 intro f args ends hc σ
 simp only [FTab.memo] at hc
 split at hc
 ·rename_i es he
  cases hc
  have:=findM_some he
  simp at this
  subst this
  exact memOk_sound hrd hF h σ
 ·exact hF.ctr f args ends hc σ
end Abs
end
