/- Part of the abstract layer; it proves no statement by itself. -/
import Derived.Test.YtkhjmhdpaikokaaGreatDoorAbsY
import Derived.KernelRfl
set_option linter.unusedVariables false
set_option linter.unusedSimpArgs false
set_option linter.unusedSectionVars false
noncomputable section
namespace Abs
open Go
def tyOf (P:Program) (t:Nat):Option TyI:=
 match P.info? t with
 | some info=>match P.underlying t with
  | some d=>match info.zero with
   | some z=>some ⟨d,info.size,info.bytes,z⟩
   | none=>none
  | none=>none
 | none=>none
theorem tyOf_ok (P:Program):TyOk P (tyOf P):=by
 intro t i h
 unfold tyOf at h
 cases h1:P.info? t with
 | none=>rw [h1] at h; cases h
 | some info=>
  rw [h1] at h
  simp only [] at h
  cases h2:P.underlying t with
  | none=>rw [h2] at h; cases h
  | some d=>
   rw [h2] at h
   simp only [] at h
   cases h3:info.zero with
   | none=>rw [h3] at h; cases h
   | some z=>rw [h3] at h; cases h; exact ⟨rfl,info,rfl,rfl,rfl,h3⟩
def fnsOf (P:Program) (f:Nat):Bool:=
 match P.funcs[f]? with
 | some fn=>!fn.body.isNone && !(fn.name== "runtime.NumGoroutine")
 | none=>false
theorem fnsOf_ok (P:Program):∀ f,fnsOf P f=true->∃ fn,P.funcs[f]?=some fn/\fn.body.isNone=false/\(fn.name== "runtime.NumGoroutine")=false:=by
 intro f h
 unfold fnsOf at h
 cases h1:P.funcs[f]? with
 | none=>rw [h1] at h; cases h
 | some fn=>
  rw [h1] at h
  simp only [Bool.and_eq_true,Bool.not_eq_true'] at h
  exact ⟨fn,rfl,h.1,h.2⟩
def nesOf (P:Program) (f:Nat):Bool:=
 match P.funcs[f]? with
 | some fn=>fn.body.isNone && (decide (fn.name= "internal/abi.NoEscape") && decide (fn.origin= ""))
 | none=>false
theorem nes_next:Extern.allNextRows.lookup "internal/abi.NoEscape"=none:=by kernel_rfl
theorem nes_next0:Extern.allNextRows.lookup ""=none:=by kernel_rfl
theorem nes_gen:Extern.allGenericRows.lookup "internal/abi.NoEscape"=none:=by kernel_rfl
theorem nes_typed:Extern.allTypedRows.lookup "internal/abi.NoEscape"=none:=by kernel_rfl
theorem nes_row:Extern.allRows.lookup "internal/abi.NoEscape"=some Extern.AbiNoEscape.same:=by kernel_rfl
theorem nesOf_ok (P:Program):∀ f,nesOf P f=true->∃ fn,P.funcs[f]?=some fn/\fn.body.isNone=true/\(fn.name== "runtime.NumGoroutine")=false/\Extern.findNext fn=none/\Extern.find fn=some Extern.AbiNoEscape.same:=by
 intro f h
 unfold nesOf at h
 cases h1:P.funcs[f]? with
 | none=>rw [h1] at h; cases h
 | some fn=>
  rw [h1] at h
  simp only [Bool.and_eq_true,decide_eq_true_eq] at h
  obtain ⟨h2,h3,h4⟩:=h
  refine ⟨fn,rfl,h2,by rw [h3]; decide,?_,?_⟩
  ·simp only [Extern.findNext,h3,h4,nes_next,nes_next0]; rfl
  ·simp only [Extern.find,h3,nes_gen,nes_typed,nes_row]; rfl
def plainG (g:Nat):AVal:=.sc (.pointer (some ⟨g,0,none⟩))
def ftab (P:Program) (imp:List Nat):FTab:=⟨fun f=>P.funcs[f]?,fun _ _=>none,fun f=>!(imp.any (Nat.beq f)),fun _=>false,fun _=>false,fun _ _=>none⟩
end Abs
end
