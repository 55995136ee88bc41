/-
  Functions of the program walked: each is shown to compute a plain function (T28).
-/
import Derived.Test.YtggndcghabholaaOT25
noncomputable section
namespace Abs
set_option linter.unusedSimpArgs false
set_option linter.unusedVariables false
set_option maxRecDepth 100000
set_option maxHeartbeats 2000000
open Go Go.Proofs
theorem fcOf_at {l : List Fc} {i : Nat} {f : Fc} {nm : ByteArray} (h : l[i]? = some f) (h0 : fcOf (l.take i) nm = none) : fcOf (l.take (i + 1)) nm = if f.nm = nm then some f else none := by
 obtain ⟨hj, he⟩ := List.getElem?_eq_some_iff.1 h
 rw [List.take_succ_eq_append_getElem hj, he, fcOf_snoc, h0]
end Abs
end
