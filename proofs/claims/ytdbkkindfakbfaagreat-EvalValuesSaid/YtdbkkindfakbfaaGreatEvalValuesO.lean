/-
  The tables of calls of the law EvalValues are sound: each call returns what its table says.
-/
import Derived.Test.YtdbkkindfakbfaaGreatEvalValuesC1
import Derived.Test.YtdbkkindfakbfaaGreatEvalValuesC2
import Derived.Test.YtdbkkindfakbfaaGreatEvalValuesC3
import Derived.Test.YtdbkkindfakbfaaGreatEvalValuesC4
import Derived.Test.YtdbkkindfakbfaaGreatTXe
namespace Go.Proofs.YtdbkkindfakbfaaGreat.evalValues
open Go
theorem o0 (w:World):Abs.FOk (Abs.Env.of Tryz.prog w) F0:=Abs.FOk.handV (f:=93) (args:=[.sc (.int .i64 17)]) (v:=(.tuple [(.sc (.string ⟨#[124,124]⟩)),(.sc (.int .i64 1))])) (Abs.FOk.handV (f:=93) (args:=[.sc (.int .i64 16)]) (v:=(.tuple [(.sc (.string ⟨#[38,38]⟩)),(.sc (.int .i64 2))])) (Abs.FOk.handV (f:=93) (args:=[.sc (.int .i64 15)]) (v:=(.tuple [(.sc (.string ⟨#[62]⟩)),(.sc (.int .i64 3))])) (Abs.FOk.handV (f:=93) (args:=[.sc (.int .i64 14)]) (v:=(.tuple [(.sc (.string ⟨#[62,61]⟩)),(.sc (.int .i64 3))])) (Abs.FOk.handV (f:=93) (args:=[.sc (.int .i64 13)]) (v:=(.tuple [(.sc (.string ⟨#[33,61]⟩)),(.sc (.int .i64 3))])) (Abs.FOk.handV (f:=93) (args:=[.sc (.int .i64 12)]) (v:=(.tuple [(.sc (.string ⟨#[61,61]⟩)),(.sc (.int .i64 3))])) (Abs.FOk.handV (f:=93) (args:=[.sc (.int .i64 11)]) (v:=(.tuple [(.sc (.string ⟨#[60,61]⟩)),(.sc (.int .i64 3))])) (Abs.FOk.handV (f:=93) (args:=[.sc (.int .i64 10)]) (v:=(.tuple [(.sc (.string ⟨#[60]⟩)),(.sc (.int .i64 3))])) (Abs.FOk.handV (f:=93) (args:=[.sc (.int .i64 9)]) (v:=(.tuple [(.sc (.string ⟨#[37]⟩)),(.sc (.int .i64 5))])) (Abs.FOk.handV (f:=93) (args:=[.sc (.int .i64 8)]) (v:=(.tuple [(.sc (.string ⟨#[47]⟩)),(.sc (.int .i64 5))])) (Abs.FOk.handV (f:=93) (args:=[.sc (.int .i64 7)]) (v:=(.tuple [(.sc (.string ⟨#[42]⟩)),(.sc (.int .i64 5))])) (Abs.FOk.handV (f:=93) (args:=[.sc (.int .i64 6)]) (v:=(.tuple [(.sc (.string ⟨#[45]⟩)),(.sc (.int .i64 4))])) (Abs.FOk.handV (f:=93) (args:=[.sc (.int .i64 5)]) (v:=(.tuple [(.sc (.string ⟨#[43]⟩)),(.sc (.int .i64 4))])) (Abs.ftabZ_ok Tryz.prog [26,54,80,115,19,27] [] [19,27] w) (by kernel_rfl) rfl (Abs.operator5' w)) (by kernel_rfl) rfl (Abs.operator6' w)) (by kernel_rfl) rfl (Abs.operator7' w)) (by kernel_rfl) rfl (Abs.operator8' w)) (by kernel_rfl) rfl (Abs.operator9' w)) (by kernel_rfl) rfl (Abs.operator10' w)) (by kernel_rfl) rfl (Abs.operator11' w)) (by kernel_rfl) rfl (Abs.operator12' w)) (by kernel_rfl) rfl (Abs.operator13' w)) (by kernel_rfl) rfl (Abs.operator14' w)) (by kernel_rfl) rfl (Abs.operator15' w)) (by kernel_rfl) rfl (Abs.operator16' w)) (by kernel_rfl) rfl (Abs.operator17' w)
theorem o1 (w:World):Abs.FOk (Abs.Env.of Tryz.prog w) F1:=Abs.FOk.memoG rfl (o0 w) ((o0 w).gate (o0 w) gm) (c1 w)
theorem o2 (w:World):Abs.FOk (Abs.Env.of Tryz.prog w) F2:=Abs.FOk.memoG rfl (o1 w) ((o1 w).gate (o0 w) gm) (c2 w)
theorem o3 (w:World):Abs.FOk (Abs.Env.of Tryz.prog w) F3:=Abs.FOk.memoG rfl (o2 w) ((o2 w).gate (o0 w) gm) (c3 w)
theorem o4 (w:World):Abs.FOk (Abs.Env.of Tryz.prog w) F4:=Abs.FOk.memoG rfl (o3 w) ((o3 w).gate (o0 w) gm) (c4 w)
theorem o5 (w:World):Abs.FOk (Abs.Env.of Tryz.prog w) F5:=Abs.FOk.memoG rfl (o4 w) ((o4 w).gate (o0 w) gm) (c5 w)
theorem o6 (w:World):Abs.FOk (Abs.Env.of Tryz.prog w) F6:=Abs.FOk.memoG rfl (o5 w) ((o5 w).gate (o0 w) gm) (c6 w)
theorem o7 (w:World):Abs.FOk (Abs.Env.of Tryz.prog w) F7:=Abs.FOk.memoG rfl (o6 w) ((o6 w).gate (o0 w) gm) (c7 w)
theorem o8 (w:World):Abs.FOk (Abs.Env.of Tryz.prog w) F8:=Abs.FOk.memoG rfl (o7 w) ((o7 w).gate (o0 w) gm) (c8 w)
theorem o9 (w:World):Abs.FOk (Abs.Env.of Tryz.prog w) F9:=Abs.FOk.memoG rfl (o8 w) ((o8 w).gate (o0 w) gm) (c9 w)
theorem o10 (w:World):Abs.FOk (Abs.Env.of Tryz.prog w) F10:=Abs.FOk.memoG rfl (o9 w) ((o9 w).gate (o0 w) gm) (c10 w)
theorem o11 (w:World):Abs.FOk (Abs.Env.of Tryz.prog w) F11:=Abs.FOk.memoG rfl (o10 w) ((o10 w).gate (o0 w) gm) (c11 w)
theorem o12 (w:World):Abs.FOk (Abs.Env.of Tryz.prog w) F12:=Abs.FOk.memoG rfl (o11 w) ((o11 w).gate (o0 w) gm) (c12 w)
theorem o13 (w:World):Abs.FOk (Abs.Env.of Tryz.prog w) F13:=Abs.FOk.memoTG rfl (o12 w) ((o12 w).gate (o0 w) gm) (c13 w)
theorem o14 (w:World):Abs.FOk (Abs.Env.of Tryz.prog w) F14:=Abs.FOk.memoG rfl (o13 w) ((o13 w).gate (o0 w) gm) (c14 w)
theorem o15 (w:World):Abs.FOk (Abs.Env.of Tryz.prog w) F15:=Abs.FOk.memoG rfl (o14 w) ((o14 w).gate (o0 w) gm) (c15 w)
theorem o16 (w:World):Abs.FOk (Abs.Env.of Tryz.prog w) F16:=Abs.FOk.memoG rfl (o15 w) ((o15 w).gate (o0 w) gm) (c16 w)
theorem o17 (w:World):Abs.FOk (Abs.Env.of Tryz.prog w) F17:=Abs.FOk.memoTG rfl (o16 w) ((o16 w).gate (o0 w) gm) (c17 w)
theorem o18 (w:World):Abs.FOk (Abs.Env.of Tryz.prog w) F18:=Abs.FOk.memoG rfl (o17 w) ((o17 w).gate (o0 w) gm) (c18 w)
theorem o19 (w:World):Abs.FOk (Abs.Env.of Tryz.prog w) F19:=Abs.FOk.memoG rfl (o18 w) ((o18 w).gate (o0 w) gm) (c19 w)
theorem o20 (w:World):Abs.FOk (Abs.Env.of Tryz.prog w) F20:=Abs.FOk.memoG rfl (o19 w) ((o19 w).gate (o0 w) gm) (c20 w)
theorem o21 (w:World):Abs.FOk (Abs.Env.of Tryz.prog w) F21:=Abs.FOk.memoG rfl (o20 w) ((o20 w).gate (o0 w) gm) (c21 w)
theorem o22 (w:World):Abs.FOk (Abs.Env.of Tryz.prog w) F22:=Abs.FOk.memoG rfl (o21 w) ((o21 w).gate (o0 w) gm) (c22 w)
theorem o23 (w:World):Abs.FOk (Abs.Env.of Tryz.prog w) F23:=Abs.FOk.memoG rfl (o22 w) ((o22 w).gate (o0 w) gm) (c23 w)
theorem o24 (w:World):Abs.FOk (Abs.Env.of Tryz.prog w) F24:=Abs.FOk.memoG rfl (o23 w) ((o23 w).gate (o0 w) gm) (c24 w)
theorem o25 (w:World):Abs.FOk (Abs.Env.of Tryz.prog w) F25:=Abs.FOk.memoG rfl (o24 w) ((o24 w).gate (o0 w) gm) (c25 w)
theorem o26 (w:World):Abs.FOk (Abs.Env.of Tryz.prog w) F26:=Abs.FOk.memoG rfl (o25 w) ((o25 w).gate (o0 w) gm) (c26 w)
theorem o27 (w:World):Abs.FOk (Abs.Env.of Tryz.prog w) F27:=Abs.FOk.memoG rfl (o26 w) ((o26 w).gate (o0 w) gm) (c27 w)
theorem o28 (w:World):Abs.FOk (Abs.Env.of Tryz.prog w) F28:=Abs.FOk.memoG rfl (o27 w) ((o27 w).gate (o0 w) gm) (c28 w)
theorem o29 (w:World):Abs.FOk (Abs.Env.of Tryz.prog w) F29:=Abs.FOk.memoG rfl (o28 w) ((o28 w).gate (o0 w) gm) (c29 w)
theorem o30 (w:World):Abs.FOk (Abs.Env.of Tryz.prog w) F30:=Abs.FOk.memoG rfl (o29 w) ((o29 w).gate (o0 w) gm) (c30 w)
end Go.Proofs.YtdbkkindfakbfaaGreat.evalValues
