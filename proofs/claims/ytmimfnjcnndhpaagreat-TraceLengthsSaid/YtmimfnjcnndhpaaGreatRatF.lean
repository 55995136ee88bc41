/-
  Facts about functions, types and operations of the program, each computed from its tables.
-/
import Derived.Test.YtmimfnjcnndhpaaGreatProg
import Derived.Test.YtmimfnjcnndhpaaGreatAbsG29
import Derived.KernelRfl
namespace Abs
set_option linter.unusedSimpArgs false
set_option linter.unusedVariables false
set_option maxRecDepth 100000
set_option maxHeartbeats 2000000
open Go Go.Proofs
noncomputable def EE (w : World) : Env := Env.of Tryz.prog w
theorem zr_134 {w : World} : zeroD (EE w) 134 = some (.sc (.nilFunc)) := by kernel_rfl
theorem fn_97 {w : World} : (EE w).fns 97 = true := by kernel_rfl
theorem ty_134 {w : World} : tyA (EE w) 134 = some (false, 1) := by kernel_rfl
theorem is_132 {w : World} : (tyA (EE w) 132).isSome = true := by kernel_rfl
theorem is_2 {w : World} : (tyA (EE w) 2).isSome = true := by kernel_rfl
theorem cv_2_132 {w : World} {lit : Bool} {ρ : ARho} {σ : AStore} {x : Operand} : aOp (EE w) lit (.convert 2 132 x) ρ σ = opCvI σ Go.IntKind.u64 (ρ x) := op_convInt (by kernel_rfl) (by kernel_rfl)
theorem ec_2_132 {w : World} {x : Operand} : isEff (EE w) (.convert 2 132 x) = false := by kernel_rfl
theorem fa_25_1 {w : World} {lit : Bool} {ρ : ARho} {σ : AStore} {x : Operand} : aOp (EE w) lit (.fieldAddr 25 x 1) ρ σ = opFA σ (some (1, false, 1)) (ρ x) := op_fieldAddr (by kernel_rfl)
theorem ty_2 {w : World} : tyA (EE w) 2 = some (false, 1) := by kernel_rfl
theorem fa_25_0 {w : World} {lit : Bool} {ρ : ARho} {σ : AStore} {x : Operand} : aOp (EE w) lit (.fieldAddr 25 x 0) ρ σ = opFA σ (some (0, false, 1)) (ρ x) := op_fieldAddr (by kernel_rfl)
theorem fn_41 {w : World} : (EE w).fns 41 = true := by kernel_rfl
theorem fn_42 {w : World} : (EE w).fns 42 = true := by kernel_rfl
theorem ty_25 {w : World} : tyA (EE w) 25 = some (true, 2) := by kernel_rfl
theorem fn_16 {w : World} : (EE w).fns 16 = true := by kernel_rfl
theorem zr_25 {w : World} : zeroD (EE w) 25 = some (.agg [(.sc (.int Go.IntKind.i64 (0))), (.sc (.int Go.IntKind.i64 (0)))]) := by kernel_rfl
theorem bd_25 {w : World} {lit : Bool} {ρ : ARho} {σ : AStore} {ps : Array (Nat × Operand)} : aOp (EE w) lit (.build 25 ps) ρ σ = opBuild σ (some ([(0, 1), (1, 1)], [(.sc (.int Go.IntKind.i64 (0))), (.sc (.int Go.IntKind.i64 (0)))])) (partsSome ρ ps.toList) := op_build (by kernel_rfl)
theorem cv_132_2 {w : World} {lit : Bool} {ρ : ARho} {σ : AStore} {x : Operand} : aOp (EE w) lit (.convert 132 2 x) ρ σ = opCvI σ Go.IntKind.i64 (ρ x) := op_convInt (by kernel_rfl) (by kernel_rfl)
theorem ec_132_2 {w : World} {x : Operand} : isEff (EE w) (.convert 132 2 x) = false := by kernel_rfl
theorem kb_4 {w : World} : kindD (EE w) 4 = some .bool := by kernel_rfl
theorem fn_43 {w : World} : (EE w).fns 43 = true := by kernel_rfl
theorem fn_44 {w : World} : (EE w).fns 44 = true := by kernel_rfl
theorem fn_46 {w : World} : (EE w).fns 46 = true := by kernel_rfl
theorem fn_45 {w : World} : (EE w).fns 45 = true := by kernel_rfl
theorem fn_18 {w : World} : (EE w).fns 18 = true := by kernel_rfl
theorem fn_47 {w : World} : (EE w).fns 47 = true := by kernel_rfl
theorem ln_22 {w : World} {σ : AStore} {x : AVal} : opBi (EE w) .len [22] σ (some [x]) = .ofV σ (aLen (.slice 0) x σ) := bi_len (by kernel_rfl)
theorem is_3 {w : World} : (tyA (EE w) 3).isSome = true := by kernel_rfl
theorem ia_22 {w : World} {lit : Bool} {ρ : ARho} {σ : AStore} {x y : Operand} : aOp (EE w) lit (.indexAddr 22 x y) ρ σ = opIA σ ⟨3, 24, (.agg [(.sc (.int Go.IntKind.i64 (0))), (.sc (.int Go.IntKind.i64 (0))), (.sc (.int Go.IntKind.i64 (0)))])⟩ (ρ x) (ρ y) := op_indexAddr (by kernel_rfl)
theorem ty_62 {w : World} : tyA (EE w) 62 = some (true, 3) := by kernel_rfl
theorem zr_62 {w : World} : zeroD (EE w) 62 = some (.agg [(.sc (.int Go.IntKind.i64 (0))), (.sc (.int Go.IntKind.i64 (0))), (.sc (.int Go.IntKind.i64 (0)))]) := by kernel_rfl
theorem fa_62_0 {w : World} {lit : Bool} {ρ : ARho} {σ : AStore} {x : Operand} : aOp (EE w) lit (.fieldAddr 62 x 0) ρ σ = opFA σ (some (0, true, 2)) (ρ x) := op_fieldAddr (by kernel_rfl)
theorem fn_17 {w : World} : (EE w).fns 17 = true := by kernel_rfl
theorem is_26 {w : World} : (tyA (EE w) 26).isSome = true := by kernel_rfl
theorem fn_19 {w : World} : (EE w).fns 19 = true := by kernel_rfl
theorem fn_5 {w : World} : (EE w).fns 5 = true := by kernel_rfl
theorem fn_6 {w : World} : (EE w).fns 6 = true := by kernel_rfl
theorem fn_7 {w : World} : (EE w).fns 7 = true := by kernel_rfl
theorem eq_25 {w : World} : eqD (EE w) 25 = some [true, true] := by kernel_rfl
attribute [go_sem] zr_134 fn_97 ty_134 is_132 is_2 cv_2_132 ec_2_132 fa_25_1 ty_2 fa_25_0 fn_41 fn_42 ty_25 fn_16 zr_25 bd_25 cv_132_2 ec_132_2 kb_4 fn_43 fn_44 fn_46 fn_45 fn_18 fn_47 ln_22 is_3 ia_22 ty_62 zr_62 fa_62_0 fn_17 is_26 fn_19 fn_5 fn_6 fn_7 eq_25
theorem of_42 {w : World} {args : List AVal} {σ : AStore} {R : AEnd → AStore → Prop} (hn : Nat.ble args.length 11 = true) (hl : Nat.blt args.length 1000 = true) {c : Code} (hc : Tryz.f42.body = some c) (hk : okC 11 c = true) (h : V (EE w) 11 c (vFin (EE w) [.tmp 4] R) (initE args 0) σ) : ACalls (EE w) 42 args σ R :=
  ACalls.of_V' (n := 11) rfl Tryz.f42 c _ Tryz.func42 hc (by kernel_rfl) (by kernel_rfl) hk hn hl h
-- DRAW foliot/ratio.gcd$1 3 [0, 1, 2, 3, 4, 5, 6] | [(6, 63), (5, 31), (4, 12), (3, 0), (2, 0), (1, 0), (0, 0)] | true
theorem of_97 {w : World} {args : List AVal} {σ : AStore} {R : AEnd → AStore → Prop} (hn : Nat.ble args.length 15 = true) (hl : Nat.blt args.length 1000 = true) {c : Code} (hc : Tryz.f97.body = some c) (hk : okC 15 c = true) (h : V (EE w) 15 c (vFin (EE w) [.tmp 5] R) (initE args 0) σ) : ACalls (EE w) 97 args σ R :=
  ACalls.of_V' (n := 15) rfl Tryz.f97 c _ Tryz.func97 hc (by kernel_rfl) (by kernel_rfl) hk hn hl h
theorem of_41 {w : World} {args : List AVal} {σ : AStore} {R : AEnd → AStore → Prop} (hn : Nat.ble args.length 10 = true) (hl : Nat.blt args.length 1000 = true) {c : Code} (hc : Tryz.f41.body = some c) (hk : okC 10 c = true) (h : V (EE w) 10 c (vFin (EE w) [.tmp 2] R) (initE args 0) σ) : ACalls (EE w) 41 args σ R :=
  ACalls.of_V' (n := 10) rfl Tryz.f41 c _ Tryz.func41 hc (by kernel_rfl) (by kernel_rfl) hk hn hl h
-- DRAW foliot/ratio.Valid 1 [0, 1, 2, 3, 4, 5, 6, 7, 8, 9, 10, 11, 12, 13, 14, 15, 16, 18, 19, 20, 17, 21, 22, 23, 24] | [(24, 16777215), (23, 8388607), (22, 4194303), (21, 2097151), (17, 131071), (20, 819199), (19, 294911), (18, 32767), (16, 65535), (15, 32767), (14, 16383), (13, 8191), (12, 4095), (11, 2047), (10, 1023), (9, 511), (8, 255), (7, 127), (6, 63), (5, 31), (4, 15), (3, 7), (2, 3), (1, 1), (0, 0)] | true
theorem of_16 {w : World} {args : List AVal} {σ : AStore} {R : AEnd → AStore → Prop} (hn : Nat.ble args.length 27 = true) (hl : Nat.blt args.length 1000 = true) {c : Code} (hc : Tryz.f16.body = some c) (hk : okC 27 c = true) (h : V (EE w) 27 c (vFin (EE w) [.tmp 2] R) (initE args 0) σ) : ACalls (EE w) 16 args σ R :=
  ACalls.of_V' (n := 27) rfl Tryz.f16 c _ Tryz.func16 hc (by kernel_rfl) (by kernel_rfl) hk hn hl h
theorem of_43 {w : World} {args : List AVal} {σ : AStore} {R : AEnd → AStore → Prop} (hn : Nat.ble args.length 11 = true) (hl : Nat.blt args.length 1000 = true) {c : Code} (hc : Tryz.f43.body = some c) (hk : okC 11 c = true) (h : V (EE w) 11 c (vFin (EE w) [.tmp 4] R) (initE args 0) σ) : ACalls (EE w) 43 args σ R :=
  ACalls.of_V' (n := 11) rfl Tryz.f43 c _ Tryz.func43 hc (by kernel_rfl) (by kernel_rfl) hk hn hl h
-- DRAW foliot/ratio.Make 5 [0, 1, 2, 3, 4, 5, 6, 7] | [(7, 127), (6, 7), (5, 24), (4, 0), (3, 0), (2, 3), (1, 0), (0, 0)] | true
theorem of_44 {w : World} {args : List AVal} {σ : AStore} {R : AEnd → AStore → Prop} (hn : Nat.ble args.length 48 = true) (hl : Nat.blt args.length 1000 = true) {c : Code} (hc : Tryz.f44.body = some c) (hk : okC 48 c = true) (h : V (EE w) 48 c (vFin (EE w) [.cell 4 25, .tmp 5] R) (initE args 0) σ) : ACalls (EE w) 44 args σ R :=
  ACalls.of_V' (n := 48) rfl Tryz.f44 c _ Tryz.func44 hc (by kernel_rfl) (by kernel_rfl) hk hn hl h
theorem of_17 {w : World} {args : List AVal} {σ : AStore} {R : AEnd → AStore → Prop} (hn : Nat.ble args.length 30 = true) (hl : Nat.blt args.length 1000 = true) {c : Code} (hc : Tryz.f17.body = some c) (hk : okC 30 c = true) (h : V (EE w) 30 c (vFin (EE w) [.cell 4 25, .tmp 5] R) (initE args 0) σ) : ACalls (EE w) 17 args σ R :=
  ACalls.of_V' (n := 30) rfl Tryz.f17 c _ Tryz.func17 hc (by kernel_rfl) (by kernel_rfl) hk hn hl h
-- DRAW foliot/foliotref01.divisor 2 [0, 1, 2, 3, 4, 5] | [(5, 31), (4, 3), (3, 6), (2, 0), (1, 0), (0, 0)] | true
theorem of_45 {w : World} {args : List AVal} {σ : AStore} {R : AEnd → AStore → Prop} (hn : Nat.ble args.length 12 = true) (hl : Nat.blt args.length 1000 = true) {c : Code} (hc : Tryz.f45.body = some c) (hk : okC 12 c = true) (h : V (EE w) 12 c (vFin (EE w) [.tmp 4] R) (initE args 0) σ) : ACalls (EE w) 45 args σ R :=
  ACalls.of_V' (n := 12) rfl Tryz.f45 c _ Tryz.func45 hc (by kernel_rfl) (by kernel_rfl) hk hn hl h
theorem of_46 {w : World} {args : List AVal} {σ : AStore} {R : AEnd → AStore → Prop} (hn : Nat.ble args.length 12 = true) (hl : Nat.blt args.length 1000 = true) {c : Code} (hc : Tryz.f46.body = some c) (hk : okC 12 c = true) (h : V (EE w) 12 c (vFin (EE w) [.tmp 2] R) (initE args 0) σ) : ACalls (EE w) 46 args σ R :=
  ACalls.of_V' (n := 12) rfl Tryz.f46 c _ Tryz.func46 hc (by kernel_rfl) (by kernel_rfl) hk hn hl h
-- DRAW foliot/foliotref01.Make 4 [0, 2, 4, 6, 1, 3, 5, 7, 8, 9] | [(9, 511), (8, 63), (7, 115), (5, 19), (3, 7), (1, 1), (6, 0), (4, 0), (2, 0), (0, 0)] | true
theorem of_47 {w : World} {args : List AVal} {σ : AStore} {R : AEnd → AStore → Prop} (hn : Nat.ble args.length 48 = true) (hl : Nat.blt args.length 1000 = true) {c : Code} (hc : Tryz.f47.body = some c) (hk : okC 48 c = true) (h : V (EE w) 48 c (vFin (EE w) [.cell 4 25, .tmp 5] R) (initE args 0) σ) : ACalls (EE w) 47 args σ R :=
  ACalls.of_V' (n := 48) rfl Tryz.f47 c _ Tryz.func47 hc (by kernel_rfl) (by kernel_rfl) hk hn hl h
-- DRAW foliot/foliotref01.Valid 1 [0, 1, 2, 3, 4, 5, 6, 7, 8, 9, 10, 11, 12, 13, 14, 15, 16, 17, 18, 19, 20, 22, 23, 21, 24, 25, 26, 27, 28] | [(28, 268435455), (27, 134217727), (26, 67108863), (25, 33554431), (24, 16777215), (21, 2097151), (23, 4718591), (22, 524287), (20, 1048575), (19, 524287), (18, 262143), (17, 131071), (16, 65535), (15, 32767), (14, 16383), (13, 8191), (12, 4095), (11, 2047), (10, 1023), (9, 511), (8, 255), (7, 127), (6, 63), (5, 31), (4, 15), (3, 7), (2, 3), (1, 1), (0, 0)] | true
theorem of_18 {w : World} {args : List AVal} {σ : AStore} {R : AEnd → AStore → Prop} (hn : Nat.ble args.length 31 = true) (hl : Nat.blt args.length 1000 = true) {c : Code} (hc : Tryz.f18.body = some c) (hk : okC 31 c = true) (h : V (EE w) 31 c (vFin (EE w) [.tmp 2] R) (initE args 0) σ) : ACalls (EE w) 18 args σ R :=
  ACalls.of_V' (n := 31) rfl Tryz.f18 c _ Tryz.func18 hc (by kernel_rfl) (by kernel_rfl) hk hn hl h
theorem of_19 {w : World} {args : List AVal} {σ : AStore} {R : AEnd → AStore → Prop} (hn : Nat.ble args.length 34 = true) (hl : Nat.blt args.length 1000 = true) {c : Code} (hc : Tryz.f19.body = some c) (hk : okC 34 c = true) (h : V (EE w) 34 c (vFin (EE w) [.cell 4 25, .tmp 5] R) (initE args 0) σ) : ACalls (EE w) 19 args σ R :=
  ACalls.of_V' (n := 34) rfl Tryz.f19 c _ Tryz.func19 hc (by kernel_rfl) (by kernel_rfl) hk hn hl h
theorem of_6 {w : World} {args : List AVal} {σ : AStore} {R : AEnd → AStore → Prop} (hn : Nat.ble args.length 52 = true) (hl : Nat.blt args.length 1000 = true) {c : Code} (hc : Tryz.f6.body = some c) (hk : okC 52 c = true) (h : V (EE w) 52 c (vFin (EE w) [.cell 2 25, .tmp 3] R) (initE args 0) σ) : ACalls (EE w) 6 args σ R :=
  ACalls.of_V' (n := 52) rfl Tryz.f6 c _ Tryz.func6 hc (by kernel_rfl) (by kernel_rfl) hk hn hl h
-- TREE foliot/foliotref21.Length 12 [0, 1, 2, 3, 4, 5, 6, 7, 8, 9, 10, 11, 12] | [(12, 4095), (11, 1535), (10, 0), (9, 255), (8, 255), (7, 127), (6, 63), (5, 30), (4, 14), (3, 6), (2, 0), (1, 0), (0, 0)] | (.one 0 (.one 1 (.one 2 (.one 3 (.one 4 (.one 5 (.two 6 (.one 7 (.one 8 (.one 9 (.one 10 (.one 11 (.one 12 .fin)))))) 10 (.one 6 (.one 7 (.one 8 (.one 9 (.one 11 (.one 12 .fin)))))))))))))
theorem of_7 {w : World} {args : List AVal} {σ : AStore} {R : AEnd → AStore → Prop} (hn : Nat.ble args.length 58 = true) (hl : Nat.blt args.length 1000 = true) {c : Code} (hc : Tryz.f7.body = some c) (hk : okC 58 c = true) (h : V (EE w) 58 c (vFin (EE w) [.cell 2 25, .tmp 3] R) (initE args 0) σ) : ACalls (EE w) 7 args σ R :=
  ACalls.of_V' (n := 58) rfl Tryz.f7 c _ Tryz.func7 hc (by kernel_rfl) (by kernel_rfl) hk hn hl h
theorem of_3 {w : World} {args : List AVal} {σ : AStore} {R : AEnd → AStore → Prop} (hn : Nat.ble args.length 32 = true) (hl : Nat.blt args.length 1000 = true) {c : Code} (hc : Tryz.f3.body = some c) (hk : okC 32 c = true) (h : V (EE w) 32 c (vFin (EE w) [.tmp 2] R) (initE args 0) σ) : ACalls (EE w) 3 args σ R :=
  ACalls.of_V' (n := 32) rfl Tryz.f3 c _ Tryz.func3 hc (by kernel_rfl) (by kernel_rfl) hk hn hl h
end Abs
