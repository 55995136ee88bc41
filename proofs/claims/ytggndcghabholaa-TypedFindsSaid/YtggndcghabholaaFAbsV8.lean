/- Part of the abstract layer; it proves no statement by itself. -/
import Derived.Test.YtggndcghabholaaFAbsW1
import Derived.Test.YtggndcghabholaaFAbsV3
noncomputable section
namespace Abs
set_option linter.unusedVariables false
set_option linter.unusedSimpArgs false
set_option linter.unusedSectionVars false
open Go
section
variable {E : Env} {n : Nat} {ds : List ADef}
end
section
variable {E : Env} {ops : Array Oper} {anc : List (Nat × Nat)} {K : SPred} {recs : List SRec} {e : Ev} {q : Bool} {σ : AStore} {k : List SRec → Ev → Bool → AStore → Prop}
end
theorem GivesV.useE {E : Env} {f : FuncId} {args : List AVal} {v : AVal} (h : GivesV E f args v) {K : SPred} {k : Ev → Bool → AStore → Prop} {e : Ev} {dst : Option Nat} {m : Nat} {recs : List SRec} {q : Bool} {σ : AStore}
  (hk : sRecs E m σ recs ∧ k (putE e dst v) false σ) : ACalls E f args σ (dRet E m K k recs e dst q σ) := by
 refine (h σ).mono ?_
 rintro en σ' ⟨rfl, rfl⟩
 exact .inr hk
theorem Gives.useE {E : Env} {f : FuncId} {args : List AVal} {P : AVal → Prop} (h : Gives E f args P) {K : SPred} {k : Ev → Bool → AStore → Prop} {e : Ev} {dst : Option Nat} {m : Nat} {recs : List SRec} {q : Bool} {σ : AStore}
  (hk : ∀ v, P v → sRecs E m σ recs ∧ k (putE e dst v) false σ) : ACalls E f args σ (dRet E m K k recs e dst q σ) := by
 refine (h σ).mono ?_
 rintro en σ' ⟨rfl, v, hv, rfl⟩
 exact .inr (hk v hv)
end Abs
end
