/-
  The tables of calls of the law RegionPoints are sound: each call returns what its table says.
-/
import Derived.Test.YtdmelhjbbaaphaaGreatDoorRegionPointsC1
import Derived.Test.YtdmelhjbbaaphaaGreatDoorRegionPointsC2
import Derived.Test.YtdmelhjbbaaphaaGreatDoorRegionPointsC3
import Derived.Test.YtdmelhjbbaaphaaGreatDoorRegionPointsC4
namespace Go.Proofs.YtdmelhjbbaaphaaGreatDoor.regionPoints
open Go
theorem o0 (w : World) : Abs.FOk (Abs.Env.of Tryz.prog w) F0 := Abs.ftabZ_ok Tryz.prog [116, 126, 152, 162, 163, 189, 63, 76] [51] [63, 76] w
theorem o1 (w : World) : Abs.FOk (Abs.Env.of Tryz.prog w) F1 := Abs.FOk.memo rfl (o0 w) (c1 w)
theorem o2 (w : World) : Abs.FOk (Abs.Env.of Tryz.prog w) F2 := Abs.FOk.memo rfl (o1 w) (c2 w)
theorem o3 (w : World) : Abs.FOk (Abs.Env.of Tryz.prog w) F3 := Abs.FOk.memoT rfl (o2 w) (c3 w)
theorem o4 (w : World) : Abs.FOk (Abs.Env.of Tryz.prog w) F4 := Abs.FOk.memo rfl (o3 w) (c4 w)
theorem o5 (w : World) : Abs.FOk (Abs.Env.of Tryz.prog w) F5 := Abs.FOk.memoT rfl (o4 w) (c5 w)
theorem o6 (w : World) : Abs.FOk (Abs.Env.of Tryz.prog w) F6 := Abs.FOk.memoT rfl (o5 w) (c6 w)
theorem o7 (w : World) : Abs.FOk (Abs.Env.of Tryz.prog w) F7 := Abs.FOk.memoT rfl (o6 w) (c7 w)
theorem o8 (w : World) : Abs.FOk (Abs.Env.of Tryz.prog w) F8 := Abs.FOk.memoT rfl (o7 w) (c8 w)
theorem o9 (w : World) : Abs.FOk (Abs.Env.of Tryz.prog w) F9 := Abs.FOk.memoT rfl (o8 w) (c9 w)
theorem o10 (w : World) : Abs.FOk (Abs.Env.of Tryz.prog w) F10 := Abs.FOk.memo rfl (o9 w) (c10 w)
theorem o11 (w : World) : Abs.FOk (Abs.Env.of Tryz.prog w) F11 := Abs.FOk.memoT rfl (o10 w) (c11 w)
theorem o12 (w : World) : Abs.FOk (Abs.Env.of Tryz.prog w) F12 := Abs.FOk.memoT rfl (o11 w) (c12 w)
theorem o13 (w : World) : Abs.FOk (Abs.Env.of Tryz.prog w) F13 := Abs.FOk.memoT rfl (o12 w) (c13 w)
theorem o14 (w : World) : Abs.FOk (Abs.Env.of Tryz.prog w) F14 := Abs.FOk.memoT rfl (o13 w) (c14 w)
theorem o15 (w : World) : Abs.FOk (Abs.Env.of Tryz.prog w) F15 := Abs.FOk.memoT rfl (o14 w) (c15 w)
theorem o16 (w : World) : Abs.FOk (Abs.Env.of Tryz.prog w) F16 := Abs.FOk.memoT rfl (o15 w) (c16 w)
theorem o17 (w : World) : Abs.FOk (Abs.Env.of Tryz.prog w) F17 := Abs.FOk.memoT rfl (o16 w) (c17 w)
theorem o18 (w : World) : Abs.FOk (Abs.Env.of Tryz.prog w) F18 := Abs.FOk.memo rfl (o17 w) (c18 w)
theorem o19 (w : World) : Abs.FOk (Abs.Env.of Tryz.prog w) F19 := Abs.FOk.memo rfl (o18 w) (c19 w)
theorem o20 (w : World) : Abs.FOk (Abs.Env.of Tryz.prog w) F20 := Abs.FOk.memoT rfl (o19 w) (c20 w)
theorem o21 (w : World) : Abs.FOk (Abs.Env.of Tryz.prog w) F21 := Abs.FOk.memo rfl (o20 w) (c21 w)
theorem o22 (w : World) : Abs.FOk (Abs.Env.of Tryz.prog w) F22 := Abs.FOk.memo rfl (o21 w) (c22 w)
theorem o23 (w : World) : Abs.FOk (Abs.Env.of Tryz.prog w) F23 := Abs.FOk.memo rfl (o22 w) (c23 w)
end Go.Proofs.YtdmelhjbbaaphaaGreatDoor.regionPoints
