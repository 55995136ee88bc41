/-
  The tables of calls of the law DenseAdds are sound: each call returns what its table says.
-/
import Derived.Test.YtkhjmhdpaikokaaGreatDoorDenseAddsC1
namespace Go.Proofs.YtkhjmhdpaikokaaGreatDoor.denseAdds
open Go
theorem o0 (w:World):Abs.FOk (Abs.Env.ofG Tryz.prog G w) F0:=Abs.ftab_okG Tryz.prog G (Abs.oneG_wf (by kernel_rfl)) [89,130,152,165,166,180] w
theorem o1 (w:World):Abs.FOk (Abs.Env.ofG Tryz.prog G w) F1:=Abs.FOk.memoG rfl (o0 w) ((o0 w).gate (o0 w) gm) (c1 w)
theorem o2 (w:World):Abs.FOk (Abs.Env.ofG Tryz.prog G w) F2:=Abs.FOk.memoG rfl (o1 w) ((o1 w).gate (o0 w) gm) (c2 w)
theorem o3 (w:World):Abs.FOk (Abs.Env.ofG Tryz.prog G w) F3:=Abs.FOk.memoG rfl (o2 w) ((o2 w).gate (o0 w) gm) (c3 w)
theorem o4 (w:World):Abs.FOk (Abs.Env.ofG Tryz.prog G w) F4:=Abs.FOk.memoG rfl (o3 w) ((o3 w).gate (o0 w) gm) (c4 w)
theorem o5 (w:World):Abs.FOk (Abs.Env.ofG Tryz.prog G w) F5:=Abs.FOk.memoG rfl (o4 w) ((o4 w).gate (o0 w) gm) (c5 w)
theorem o6 (w:World):Abs.FOk (Abs.Env.ofG Tryz.prog G w) F6:=Abs.FOk.memoG rfl (o5 w) ((o5 w).gate (o0 w) gm) (c6 w)
theorem o7 (w:World):Abs.FOk (Abs.Env.ofG Tryz.prog G w) F7:=Abs.FOk.memoG rfl (o6 w) ((o6 w).gate (o0 w) gm) (c7 w)
theorem o8 (w:World):Abs.FOk (Abs.Env.ofG Tryz.prog G w) F8:=Abs.FOk.memoG rfl (o7 w) ((o7 w).gate (o0 w) gm) (c8 w)
theorem o9 (w:World):Abs.FOk (Abs.Env.ofG Tryz.prog G w) F9:=Abs.FOk.memoG rfl (o8 w) ((o8 w).gate (o0 w) gm) (c9 w)
theorem o10 (w:World):Abs.FOk (Abs.Env.ofG Tryz.prog G w) F10:=Abs.FOk.memoG rfl (o9 w) ((o9 w).gate (o0 w) gm) (c10 w)
theorem o11 (w:World):Abs.FOk (Abs.Env.ofG Tryz.prog G w) F11:=Abs.FOk.memoG rfl (o10 w) ((o10 w).gate (o0 w) gm) (c11 w)
theorem o12 (w:World):Abs.FOk (Abs.Env.ofG Tryz.prog G w) F12:=Abs.FOk.memoG rfl (o11 w) ((o11 w).gate (o0 w) gm) (c12 w)
theorem o13 (w:World):Abs.FOk (Abs.Env.ofG Tryz.prog G w) F13:=Abs.FOk.memoG rfl (o12 w) ((o12 w).gate (o0 w) gm) (c13 w)
theorem o14 (w:World):Abs.FOk (Abs.Env.ofG Tryz.prog G w) F14:=Abs.FOk.memoG rfl (o13 w) ((o13 w).gate (o0 w) gm) (c14 w)
theorem o15 (w:World):Abs.FOk (Abs.Env.ofG Tryz.prog G w) F15:=Abs.FOk.memoG rfl (o14 w) ((o14 w).gate (o0 w) gm) (c15 w)
theorem o16 (w:World):Abs.FOk (Abs.Env.ofG Tryz.prog G w) F16:=Abs.FOk.memoG rfl (o15 w) ((o15 w).gate (o0 w) gm) (c16 w)
theorem o17 (w:World):Abs.FOk (Abs.Env.ofG Tryz.prog G w) F17:=Abs.FOk.memoG rfl (o16 w) ((o16 w).gate (o0 w) gm) (c17 w)
theorem o18 (w:World):Abs.FOk (Abs.Env.ofG Tryz.prog G w) F18:=Abs.FOk.memoG rfl (o17 w) ((o17 w).gate (o0 w) gm) (c18 w)
theorem o19 (w:World):Abs.FOk (Abs.Env.ofG Tryz.prog G w) F19:=Abs.FOk.memoG rfl (o18 w) ((o18 w).gate (o0 w) gm) (c19 w)
end Go.Proofs.YtkhjmhdpaikokaaGreatDoor.denseAdds
