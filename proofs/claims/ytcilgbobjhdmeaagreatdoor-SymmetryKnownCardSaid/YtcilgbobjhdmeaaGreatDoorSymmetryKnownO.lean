/-
  The tables of calls of the law SymmetryKnown are sound (the end).
-/
import Derived.Test.YtcilgbobjhdmeaaGreatDoorSymmetryKnownC17
namespace Go.Proofs.YtcilgbobjhdmeaaGreatDoor.symmetryKnown
open Go
theorem o270 (w : World) : Abs.FOk (Abs.Env.ofG Tryz.prog G w) F270 := Abs.FOk.memoTS rfl (o269 w) ((g83 w).gate (o0 w) gm) (c270a w) (c270b w)
theorem o271 (w : World) : Abs.FOk (Abs.Env.ofG Tryz.prog G w) F271 := Abs.FOk.memoG rfl (o270 w) ((o270 w).gate (o0 w) gm) (c271 w)
theorem o272 (w : World) : Abs.FOk (Abs.Env.ofG Tryz.prog G w) F272 := Abs.FOk.memoG rfl (o271 w) ((o271 w).gate (o0 w) gm) (c272 w)
end Go.Proofs.YtcilgbobjhdmeaaGreatDoor.symmetryKnown
