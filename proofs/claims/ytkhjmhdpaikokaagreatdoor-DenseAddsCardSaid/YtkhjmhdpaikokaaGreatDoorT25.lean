/-
  Functions of the program walked: each is shown to compute a plain function (T25).
-/
import Derived.Test.YtkhjmhdpaikokaaGreatDoorT11
set_option linter.unusedSimpArgs false
set_option linter.unusedVariables false
set_option maxRecDepth 100000
set_option maxHeartbeats 16000000
noncomputable section
namespace Abs
open Go Go.Proofs
theorem only_self {σ:AStore} {b:Nat} {x:ABlk} (h:σ.get b=some x):(σ.only [b]).get b=some x:=by
 have hlt:=AStore.lt_of_get h
 unfold AStore.only AStore.get
 have h1:Nat.blt b σ.next=true:=by rw [Nat.blt_eq]; exact hlt
 simp only [h1]
 unfold onlyT
 simp only [h,onlyT]
 rw [T.get_put _ _ _ _ _ (lt_two_pow_sub _),if_pos rfl]
/-- The names that a scope holds as its own: data, or a slice in local memory. -/
def HasO (σ:AStore) (O:AVal) (o:List ByteArray):Prop:=IsD 1 O (o.map sA)\/∃ b,O=.slice b 0 o.length/\σ.get b=some (.cells 1 (o.map sA))
end Abs
end
