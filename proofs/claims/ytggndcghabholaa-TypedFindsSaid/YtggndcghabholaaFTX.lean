/-
  Functions of the program walked: each is shown to compute a plain function (TX).
-/
import Derived.Test.YtggndcghabholaaFT1
noncomputable section
namespace Abs
set_option linter.unusedSimpArgs false
set_option linter.unusedVariables false
set_option maxRecDepth 100000
set_option maxHeartbeats 16000000
open Go Go.Proofs
theorem EE_of (w : World) : EE ⟨w, []⟩ = Env.of Try.prog w := rfl
theorem operator5' (w : World) : ACalls (Env.of Try.prog w) 75 [.sc (.int .i64 5)] empty fun e _ => e = .ret (.tuple [.sc (.string ⟨#[43]⟩), .sc (.int .i64 4)]) := by
 rw [← EE_of]
 exact operator5
end Abs
end
