/-
  Part of the abstract layer (W1): values, stores and steps that stand for those of the model, and the proof that they do. It proves no statement by itself.
-/
import Derived.Test.YtdmelhjbbaaphaaGreatDoorPtAbsFz
noncomputable section
namespace Abs
set_option linter.unusedVariables false
set_option linter.unusedSimpArgs false
set_option linter.unusedSectionVars false
open Go
section
variable {E : Env} {lit : Bool} {ρ : ARho} {σ : AStore}
def opCV (E : Env) (σ : AStore) : Option AVal → Option (List AVal) → ARes
 | some (.func (.func g) first cap), some args => if E.fns g = true then .enter (.fn g) (first ++ args ++ cap) else if E.nes g = true then (match first ++ args ++ cap with | [x] => .val x σ | _ => .bad) else .bad
 | some (.yld b), some args => match σ.get b with
  | some (.loop _ _ ps _ _ _ nt _) => if args.length = ps.size ∧ (ps.toList.all fun t => Nat.blt t nt) = true ∧ nt < 1000000 then .enter (.yld b) args else .bad
  | _ => .bad
 | _, _ => .bad
theorem op_callt {t : Nat} {as : Array Operand} {ts : Array TypeId} : aOp E lit (.call ⟨.value (.tmp t), as, ts⟩) ρ σ = opCV E σ (ρ (.tmp t)) (allSome ρ as.toList) := by
  simp only [aOp]
  cases allSome ρ as.toList with
  | none => cases ρ (.tmp t) with
    | none => rfl
    | some v => cases v <;> try rfl
                rename_i fn a b; cases fn <;> rfl
  | some args =>
    cases ρ (.tmp t) with
    | none => rfl
    | some v => cases v <;> try rfl
                rename_i fn a b; cases fn <;> rfl
theorem opCV_func {g : FuncId} {first cap args : List AVal} : opCV E σ (some (.func (.func g) first cap)) (some args) = if E.fns g = true then .enter (.fn g) (first ++ args ++ cap) else if E.nes g = true then (match first ++ args ++ cap with | [x] => .val x σ | _ => .bad) else .bad := rfl
def opCvI (σ : AStore) (k : IntKind) : Option AVal → ARes
 | some (.sc (.int _ n)) => .val (.sc (.int k (k.wrap n))) σ
 | _ => .bad
theorem op_convInt {s d : TypeId} {x : Operand} {k : IntKind} (hs : (tyA E s).isSome = true) (hd : kindD E d = some (.int k)) : aOp E lit (.convert s d x) ρ σ = opCvI σ k (ρ x) := by
 unfold tyA at hs
 unfold kindD at hd
 simp only [aOp]
 cases h1 : E.ty s with
 | none => rw [h1] at hs; cases hs
 | some i =>
  cases h2 : E.ty d with
  | none => rw [h2] at hd; cases hd
  | some j =>
   rw [h2] at hd
   have hj : j.desc = .int k := by cases hd' : j.desc <;> simp_all
   cases ρ x with
   | none => rfl
   | some v =>
    simp only [hj]
    cases v <;> try rfl
    rename_i v
    cases v <;> rfl
theorem opCvI_int {k k' : IntKind} {n : Int} : opCvI σ k (some (.sc (.int k' n))) = .val (.sc (.int k (k.wrap n))) σ := rfl
end
theorem wrapU {x : Int} (h1 : 0 ≤ x) (h2 : x < 18446744073709551616) : IntKind.u64.wrap x = x := by
 have key : IntKind.u64.wrap x = x % 2 ^ 64 := by simp [IntKind.wrap, IntKind.bits, IntKind.signed]
 rw [key]; omega
attribute [go_sem] op_callt opCV_func opCvI_int
end Abs
namespace Abs
open Go
section
variable {E : Env} {f : FuncId} {args : List AVal} {K : SPred} {e : Ev} {dst : Option Nat} {σ : AStore} {v : AVal}
theorem putR_ret {K : SPred} {k : Ev → AStore → Prop} : putR E K k e dst (.ret v) σ = k (putE e dst v) σ := rfl
theorem ACalls.use1 (h : ACalls E f args σ fun e σ' => σ' = σ ∧ e = .ret v) {k : Ev → AStore → Prop} (hk : k (putE e dst v) σ) : ACalls E f args σ (putR E K k e dst) := by
 refine h.mono ?_
 rintro en σ' ⟨rfl, rfl⟩
 exact hk
theorem ACalls.use1D (h : ACalls E f args σ fun e σ' => σ' = σ ∧ e = .ret v) {k : Ev → Bool → AStore → Prop} {m : Nat} {recs : List SRec} (hk : k (putE e dst v) true σ) : ACalls E f args σ (dRet E m K k recs e dst true σ) := by
 refine h.mono ?_
 rintro en σ' ⟨rfl, rfl⟩
 exact .inl ⟨rfl, rfl, hk⟩
end
def GivesV (E : Env) (f : FuncId) (args : List AVal) (v : AVal) : Prop := ∀ σ, ACalls E f args σ fun e σ' => σ' = σ ∧ e = .ret v
theorem GivesV.of {E : Env} (hG : ∀ g, WF 0 (E.G g)) {f : FuncId} {args : List AVal} (ha : WFs 0 args) {v : AVal} (N : Nat)
  (h : ACalls E f args empty fun e σ0 => ∃ u, e = .ret u ∧ frz σ0 N u = some v) : GivesV E f args v := by
 intro σ
 have := Gives.of (P := fun u => u = v) hG ha N (h.mono fun e σ0 ⟨u, h1, h2⟩ => ⟨u, v, h1, h2, rfl⟩) σ
 refine this.mono ?_
 rintro e σ' ⟨h1, u, rfl, h2⟩
 exact ⟨h1, h2⟩
theorem GivesV.use {E : Env} {f : FuncId} {args : List AVal} {v : AVal} (h : GivesV E f args v) {K : SPred} {k : Ev → AStore → Prop} {e : Ev} {dst : Option Nat} {σ : AStore} (hk : k (putE e dst v) σ) : ACalls E f args σ (putR E K k e dst) := (h σ).use1 hk
theorem GivesV.useD {E : Env} {f : FuncId} {args : List AVal} {v : AVal} (h : GivesV E f args v) {K : SPred} {k : Ev → Bool → AStore → Prop} {e : Ev} {dst : Option Nat} {m : Nat} {recs : List SRec} {σ : AStore} (hk : k (putE e dst v) true σ) :
  ACalls E f args σ (dRet E m K k recs e dst true σ) := (h σ).use1D hk
theorem sc_remU {a b : Nat} (h : b ≠ 0) : scBin .rem (.int .u64 (a : Int)) (.int .u64 (b : Int)) = some (.int .u64 ((a % b : Nat) : Int)) := by
 rw [sc_rem (by omega), ← Int.ofNat_tmod]
theorem sc_quoU {a b : Nat} (h : b ≠ 0) (h2 : a < 18446744073709551616) : scBin .quo (.int .u64 (a : Int)) (.int .u64 (b : Int)) = some (.int .u64 ((a / b : Nat) : Int)) := by
 rw [sc_quo (by omega)]
 have : a / b ≤ a := Nat.div_le_self a b
 have e : (a : Int).tdiv (b : Int) = ((a / b : Nat) : Int) := (Int.ofNat_tdiv a b).symm
 rw [e]
 generalize a / b = c at this ⊢
 rw [wrapU (by omega) (by omega)]
def resC (σ : AStore) : Option AVal → Option (Bool × Nat) → Option (List AVal) → Option (List AVal)
 | some p, some (a, m), some vs => consO (aLoad a m p σ) (some vs)
 | _, _, _ => none
theorem vResults_cell {E : Env} {σ : AStore} {e : Ev} {t : Nat} {ty : TypeId} {r : List ResultVar} : vResults E (.cell t ty :: r) e σ = resC σ (look? e t) (tyA E ty) (vResults E r e σ) := by
 simp only [vResults, tyA]
 cases look? e t <;> cases E.ty ty <;> cases vResults E r e σ <;> try rfl
 rename_i p i vs
 simp only [Option.map_some, resC]
 cases aLoad i.isA i.size p σ <;> rfl
theorem resC_some {σ : AStore} {p : AVal} {a : Bool} {m : Nat} {vs : List AVal} : resC σ (some p) (some (a, m)) (some vs) = consO (aLoad a m p σ) (some vs) := rfl
attribute [go_sem] vResults_cell resC_some
end Abs
end
