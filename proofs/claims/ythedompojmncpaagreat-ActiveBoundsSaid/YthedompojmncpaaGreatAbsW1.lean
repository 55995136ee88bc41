/- Part of the abstract layer; it proves no statement by itself. -/
import Derived.Test.YthedompojmncpaaGreatAbsFz
noncomputable section
namespace Abs
set_option linter.unusedVariables false
set_option linter.unusedSimpArgs false
set_option linter.unusedSectionVars false
open Go
section
variable {E:Env} {lit:Bool} {ρ:ARho} {σ:AStore}
def opCV (E:Env) (σ:AStore):Option AVal->Option (List AVal)->ARes
 | some (.func (.func g) first cap),some args=>if E.fns g=true then .enter (.fn g) (first++args++cap) else if E.nes g=true then (match first++args++cap with|[x]=>.val x σ|_=>.bad) else .bad
 | some (.yld b),some args=>match σ.get b with
  | some (.loop _ _ ps _ _ _ nt _)=>if args.length=ps.size/\(ps.toList.all fun t=>Nat.blt t nt)=true/\nt < 1000000 then .enter (.yld b) args else .bad
  | _=>.bad
 | _,_=>.bad
theorem op_callt {t:Nat} {as:Array Operand} {ts:Array TypeId}:aOp E lit (.call ⟨.value (.tmp t),as,ts⟩) ρ σ=opCV E σ (ρ (.tmp t)) (allSome ρ as.toList):=by
  simp only [aOp]
  cases allSome ρ as.toList with
  | none=>cases ρ (.tmp t) with
    | none=>rfl
    | some v => cases v <;> try rfl
                rename_i fn a b; cases fn<;>rfl
  | some args=>
    cases ρ (.tmp t) with
    | none=>rfl
    | some v => cases v <;> try rfl
                rename_i fn a b; cases fn<;>rfl
theorem opCV_func {g:FuncId} {first cap args:List AVal}:opCV E σ (some (.func (.func g) first cap)) (some args)=if E.fns g=true then .enter (.fn g) (first++args++cap) else if E.nes g=true then (match first++args++cap with|[x]=>.val x σ|_=>.bad) else .bad:=rfl
def opMF (σ:AStore) (fn:Fn):Option (List AVal)->Option (List AVal)->ARes
 | some a,some b=>.val (.func fn a b) σ
 | _,_=>.bad
theorem op_makeFunc {fn:Fn} {a b:Array Operand}:aOp E lit (.makeFunc fn a b) ρ σ=opMF σ fn (allSome ρ a.toList) (allSome ρ b.toList):=by
 simp only [aOp]
 cases allSome ρ a.toList<;>cases allSome ρ b.toList<;>rfl
theorem opMF_some {fn:Fn} {a b:List AVal}:opMF σ fn (some a) (some b)=.val (.func fn a b) σ:=rfl
end
attribute [go_sem] op_callt opCV_func op_makeFunc opMF_some
end Abs
namespace Abs
open Go
section
variable {E:Env} {f:FuncId} {args:List AVal} {K:SPred} {e:Ev} {dst:Option Nat} {σ:AStore} {v:AVal}
theorem putR_ret {K:SPred} {k:Ev->AStore->Prop}:putR E K k e dst (.ret v) σ=k (putE e dst v) σ:=rfl
theorem ACalls.use1 (h:ACalls E f args σ fun e σ'=>σ'=σ/\e=.ret v) {k:Ev->AStore->Prop} (hk:k (putE e dst v) σ):ACalls E f args σ (putR E K k e dst):=by
 refine h.mono ?_
 rintro en σ' ⟨rfl,rfl⟩
 exact hk
theorem ACalls.use1D (h:ACalls E f args σ fun e σ'=>σ'=σ/\e=.ret v) {k:Ev->Bool->AStore->Prop} {m:Nat} {recs:List SRec} (hk:k (putE e dst v) true σ):ACalls E f args σ (dRet E m K k recs e dst true σ):=by
 refine h.mono ?_
 rintro en σ' ⟨rfl,rfl⟩
 exact .inl ⟨rfl,rfl,hk⟩
end
def GivesV (E:Env) (f:FuncId) (args:List AVal) (v:AVal):Prop:=∀ σ,ACalls E f args σ fun e σ'=>σ'=σ/\e=.ret v
theorem GivesV.of {E:Env} (hG:∀ g,WF 0 (E.G g)) {f:FuncId} {args:List AVal} (ha:WFs 0 args) {v:AVal} (N:Nat)
  (h:ACalls E f args empty fun e σ0=>∃ u,e=.ret u/\frz σ0 N u=some v):GivesV E f args v:=by
 intro σ
 have:=Gives.of (P:=fun u=>u=v) hG ha N (h.mono fun e σ0 ⟨u,h1,h2⟩=>⟨u,v,h1,h2,rfl⟩) σ
 refine this.mono ?_
 rintro e σ' ⟨h1,u,rfl,h2⟩
 exact ⟨h1,h2⟩
theorem GivesV.use {E:Env} {f:FuncId} {args:List AVal} {v:AVal} (h:GivesV E f args v) {K:SPred} {k:Ev->AStore->Prop} {e:Ev} {dst:Option Nat} {σ:AStore} (hk:k (putE e dst v) σ):ACalls E f args σ (putR E K k e dst):=(h σ).use1 hk
theorem GivesV.useD {E:Env} {f:FuncId} {args:List AVal} {v:AVal} (h:GivesV E f args v) {K:SPred} {k:Ev->Bool->AStore->Prop} {e:Ev} {dst:Option Nat} {m:Nat} {recs:List SRec} {σ:AStore} (hk:k (putE e dst v) true σ):
  ACalls E f args σ (dRet E m K k recs e dst true σ):=(h σ).use1D hk
def resC (σ:AStore):Option AVal->Option (Bool×Nat)->Option (List AVal)->Option (List AVal)
 | some p,some (a,m),some vs=>consO (aLoad a m p σ) (some vs)
 | _,_,_=>none
theorem vResults_cell {E:Env} {σ:AStore} {e:Ev} {t:Nat} {ty:TypeId} {r:List ResultVar}:vResults E (.cell t ty::r) e σ=resC σ (look? e t) (tyA E ty) (vResults E r e σ):=by
 simp only [vResults,tyA]
 cases look? e t<;>cases E.ty ty<;>cases vResults E r e σ<;>try rfl
 rename_i p i vs
 simp only [Option.map_some,resC]
 cases aLoad i.isA i.size p σ<;>rfl
theorem resC_some {σ:AStore} {p:AVal} {a:Bool} {m:Nat} {vs:List AVal}:resC σ (some p) (some (a,m)) (some vs)=consO (aLoad a m p σ) (some vs):=rfl
attribute [go_sem] vResults_cell resC_some
end Abs
end
