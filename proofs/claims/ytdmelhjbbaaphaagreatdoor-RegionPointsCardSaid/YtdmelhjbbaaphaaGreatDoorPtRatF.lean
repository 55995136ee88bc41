/-
  Functions of the program walked: each is shown to compute a plain function (RatF).
-/
import Derived.Test.YtdmelhjbbaaphaaGreatDoorProg
import Derived.Test.YtdmelhjbbaaphaaGreatDoorPtAbsVB
import Derived.KernelRfl
import Derived.Test.YtdmelhjbbaaphaaGreatDoorPtAbsEn
namespace Abs
set_option linter.unusedSimpArgs false
set_option linter.unusedVariables false
set_option maxRecDepth 100000
set_option maxHeartbeats 2000000
open Go Go.Proofs
noncomputable def EE (w : World) : Env := Env.of Tryz.prog w
section
variable {w : World} {lit : Bool} {ρ : ARho} {σ : AStore} {args : List AVal} {R : AEnd → AStore → Prop}
theorem ty_32 : tyA (EE w) 32 = some (true, 10) := by kernel_rfl
theorem fn_5 : (EE w).fns 5 = true := by kernel_rfl
theorem fn_6 : (EE w).fns 6 = true := by kernel_rfl
theorem bs_22 {n : Nat} {ps : Array (Nat × Operand)} : aOp (EE w) lit (.buildSlice 22 n ps) ρ σ = opBuildSl σ lit ⟨1, 8, (.sc (.int Go.IntKind.i64 (0)))⟩ n (partsSome ρ ps.toList) := op_buildSlice (by kernel_rfl)
theorem fa_32_1 {x : Operand} : aOp (EE w) lit (.fieldAddr 32 x 1) ρ σ = opFA σ (some (1, true, 2)) (ρ x) := op_fieldAddr (by kernel_rfl)
theorem fa_25_0 {x : Operand} : aOp (EE w) lit (.fieldAddr 25 x 0) ρ σ = opFA σ (some (0, false, 1)) (ρ x) := op_fieldAddr (by kernel_rfl)
theorem ty_22 : tyA (EE w) 22 = some (false, 1) := by kernel_rfl
theorem ap_22 {a x : AVal} : opBi (EE w) .append [22, 22] σ (some [a, x]) = opApp (EE w) 22 σ ⟨1, 8, (.sc (.int Go.IntKind.i64 (0)))⟩ a (aSrc 1 x σ) := bi_append (by kernel_rfl)
theorem bs_23 {n : Nat} {ps : Array (Nat × Operand)} : aOp (EE w) lit (.buildSlice 23 n ps) ρ σ = opBuildSl σ lit ⟨1, 8, (.sc (.int Go.IntKind.i64 (0)))⟩ n (partsSome ρ ps.toList) := op_buildSlice (by kernel_rfl)
theorem fa_25_1 {x : Operand} : aOp (EE w) lit (.fieldAddr 25 x 1) ρ σ = opFA σ (some (1, false, 1)) (ρ x) := op_fieldAddr (by kernel_rfl)
theorem ty_23 : tyA (EE w) 23 = some (false, 1) := by kernel_rfl
theorem ap_23 {a x : AVal} : opBi (EE w) .append [23, 23] σ (some [a, x]) = opApp (EE w) 23 σ ⟨1, 8, (.sc (.int Go.IntKind.i64 (0)))⟩ a (aSrc 1 x σ) := bi_append (by kernel_rfl)
theorem bd_25 {ps : Array (Nat × Operand)} : aOp (EE w) lit (.build 25 ps) ρ σ = opBuild σ (some ([(0, 1), (1, 1)], [(.sc (.slice none 0 0)), (.sc (.slice none 0 0))])) (partsSome ρ ps.toList) := op_build (by kernel_rfl)
theorem zr_25 : zeroD (EE w) 25 = some (.agg [(.sc (.slice none 0 0)), (.sc (.slice none 0 0))]) := by kernel_rfl
theorem ty_25 : tyA (EE w) 25 = some (true, 2) := by kernel_rfl
theorem fa_32_0 {x : Operand} : aOp (EE w) lit (.fieldAddr 32 x 0) ρ σ = opFA σ (some (0, false, 1)) (ρ x) := op_fieldAddr (by kernel_rfl)
theorem fa_32_2 {x : Operand} : aOp (EE w) lit (.fieldAddr 32 x 2) ρ σ = opFA σ (some (3, false, 1)) (ρ x) := op_fieldAddr (by kernel_rfl)
theorem ty_26 : tyA (EE w) 26 = some (false, 1) := by kernel_rfl
theorem fn_7 : (EE w).fns 7 = true := by kernel_rfl
theorem fn_9 : (EE w).fns 9 = true := by kernel_rfl
theorem is_35 : (tyA (EE w) 35).isSome = true := by kernel_rfl
theorem fn_10 : (EE w).fns 10 = true := by kernel_rfl
theorem fn_12 : (EE w).fns 12 = true := by kernel_rfl
theorem fn_15 : (EE w).fns 15 = true := by kernel_rfl
theorem kb_4 : kindD (EE w) 4 = some .bool := by kernel_rfl
theorem fa_32_3 {x : Operand} : aOp (EE w) lit (.fieldAddr 32 x 3) ρ σ = opFA σ (some (4, true, 2)) (ρ x) := op_fieldAddr (by kernel_rfl)
theorem ty_28 : tyA (EE w) 28 = some (true, 2) := by kernel_rfl
theorem fn_17 : (EE w).fns 17 = true := by kernel_rfl
theorem fa_32_4 {x : Operand} : aOp (EE w) lit (.fieldAddr 32 x 4) ρ σ = opFA σ (some (6, true, 4)) (ρ x) := op_fieldAddr (by kernel_rfl)
theorem ty_30 : tyA (EE w) 30 = some (true, 4) := by kernel_rfl
theorem fn_19 : (EE w).fns 19 = true := by kernel_rfl
theorem ln_22 {x : AVal} : opBi (EE w) .len [22] σ (some [x]) = .ofV σ (aLen (.slice 0) x σ) := bi_len (by kernel_rfl)
theorem ln_23 {x : AVal} : opBi (EE w) .len [23] σ (some [x]) = .ofV σ (aLen (.slice 0) x σ) := bi_len (by kernel_rfl)
theorem ln_26 {x : AVal} : opBi (EE w) .len [26] σ (some [x]) = .ofV σ (aLen (.slice 0) x σ) := bi_len (by kernel_rfl)
theorem fn_27 : (EE w).fns 27 = true := by kernel_rfl
theorem ms_22 {x y : Operand} : aOp (EE w) lit (.makeSlice 22 x y) ρ σ = opMk σ ⟨1, 8, (.sc (.int Go.IntKind.i64 (0)))⟩ (ρ x) (ρ y) := op_makeSlice (by kernel_rfl)
theorem ms_23 {x y : Operand} : aOp (EE w) lit (.makeSlice 23 x y) ρ σ = opMk σ ⟨1, 8, (.sc (.int Go.IntKind.i64 (0)))⟩ (ρ x) (ρ y) := op_makeSlice (by kernel_rfl)
theorem ms_26 {x y : Operand} : aOp (EE w) lit (.makeSlice 26 x y) ρ σ = opMk σ ⟨2, 16, (.agg [(.sc (.int Go.IntKind.i64 (0))), (.sc (.int Go.IntKind.i64 (0)))])⟩ (ρ x) (ρ y) := op_makeSlice (by kernel_rfl)
theorem ia_26 {x y : Operand} : aOp (EE w) lit (.indexAddr 26 x y) ρ σ = opIA σ ⟨2, 16, (.agg [(.sc (.int Go.IntKind.i64 (0))), (.sc (.int Go.IntKind.i64 (0)))])⟩ (ρ x) (ρ y) := op_indexAddr (by kernel_rfl)
theorem ty_49 : tyA (EE w) 49 = some (true, 2) := by kernel_rfl
theorem zr_49 : zeroD (EE w) 49 = some (.agg [(.sc (.int Go.IntKind.i64 (0))), (.sc (.int Go.IntKind.i64 (0)))]) := by kernel_rfl
theorem fn_28 : (EE w).fns 28 = true := by kernel_rfl
theorem fa_49_0 {x : Operand} : aOp (EE w) lit (.fieldAddr 49 x 0) ρ σ = opFA σ (some (0, false, 1)) (ρ x) := op_fieldAddr (by kernel_rfl)
theorem ty_2 : tyA (EE w) 2 = some (false, 1) := by kernel_rfl
theorem fa_49_1 {x : Operand} : aOp (EE w) lit (.fieldAddr 49 x 1) ρ σ = opFA σ (some (1, false, 1)) (ρ x) := op_fieldAddr (by kernel_rfl)
theorem bd_49 {ps : Array (Nat × Operand)} : aOp (EE w) lit (.build 49 ps) ρ σ = opBuild σ (some ([(0, 1), (1, 1)], [(.sc (.int Go.IntKind.i64 (0))), (.sc (.int Go.IntKind.i64 (0)))])) (partsSome ρ ps.toList) := op_build (by kernel_rfl)
theorem ia_22 {x y : Operand} : aOp (EE w) lit (.indexAddr 22 x y) ρ σ = opIA σ ⟨1, 8, (.sc (.int Go.IntKind.i64 (0)))⟩ (ρ x) (ρ y) := op_indexAddr (by kernel_rfl)
theorem ia_23 {x y : Operand} : aOp (EE w) lit (.indexAddr 23 x y) ρ σ = opIA σ ⟨1, 8, (.sc (.int Go.IntKind.i64 (0)))⟩ (ρ x) (ρ y) := op_indexAddr (by kernel_rfl)
theorem ty_3 : tyA (EE w) 3 = some (false, 1) := by kernel_rfl
theorem fn_23 : (EE w).fns 23 = true := by kernel_rfl
theorem fn_32 : (EE w).fns 32 = true := by kernel_rfl
theorem fn_31 : (EE w).fns 31 = true := by kernel_rfl
theorem bs_26 {n : Nat} {ps : Array (Nat × Operand)} : aOp (EE w) lit (.buildSlice 26 n ps) ρ σ = opBuildSl σ lit ⟨2, 16, (.agg [(.sc (.int Go.IntKind.i64 (0))), (.sc (.int Go.IntKind.i64 (0)))])⟩ n (partsSome ρ ps.toList) := op_buildSlice (by kernel_rfl)
theorem ap_26 {a x : AVal} : opBi (EE w) .append [26, 26] σ (some [a, x]) = opApp (EE w) 26 σ ⟨2, 16, (.agg [(.sc (.int Go.IntKind.i64 (0))), (.sc (.int Go.IntKind.i64 (0)))])⟩ a (aSrc 2 x σ) := bi_append (by kernel_rfl)
theorem ms_80 {x y : Operand} : aOp (EE w) lit (.makeSlice 80 x y) ρ σ = opMk σ ⟨1, 1, (.sc (.bool false))⟩ (ρ x) (ρ y) := op_makeSlice (by kernel_rfl)
theorem ia_80 {x y : Operand} : aOp (EE w) lit (.indexAddr 80 x y) ρ σ = opIA σ ⟨1, 1, (.sc (.bool false))⟩ (ρ x) (ρ y) := op_indexAddr (by kernel_rfl)
theorem ty_4 : tyA (EE w) 4 = some (false, 1) := by kernel_rfl
theorem fn_37 : (EE w).fns 37 = true := by kernel_rfl
theorem fn_38 : (EE w).fns 38 = true := by kernel_rfl
theorem fn_39 : (EE w).fns 39 = true := by kernel_rfl
theorem fn_40 : (EE w).fns 40 = true := by kernel_rfl
theorem fa_28_0 {x : Operand} : aOp (EE w) lit (.fieldAddr 28 x 0) ρ σ = opFA σ (some (0, false, 1)) (ρ x) := op_fieldAddr (by kernel_rfl)
theorem fa_28_1 {x : Operand} : aOp (EE w) lit (.fieldAddr 28 x 1) ρ σ = opFA σ (some (1, false, 1)) (ρ x) := op_fieldAddr (by kernel_rfl)
theorem fn_43 : (EE w).fns 43 = true := by kernel_rfl
theorem fa_30_0 {x : Operand} : aOp (EE w) lit (.fieldAddr 30 x 0) ρ σ = opFA σ (some (0, false, 1)) (ρ x) := op_fieldAddr (by kernel_rfl)
theorem fa_30_3 {x : Operand} : aOp (EE w) lit (.fieldAddr 30 x 3) ρ σ = opFA σ (some (3, false, 1)) (ρ x) := op_fieldAddr (by kernel_rfl)
theorem fn_44 : (EE w).fns 44 = true := by kernel_rfl
theorem fn_21 : (EE w).fns 21 = true := by kernel_rfl
theorem fa_30_1 {x : Operand} : aOp (EE w) lit (.fieldAddr 30 x 1) ρ σ = opFA σ (some (1, false, 1)) (ρ x) := op_fieldAddr (by kernel_rfl)
theorem fa_30_2 {x : Operand} : aOp (EE w) lit (.fieldAddr 30 x 2) ρ σ = opFA σ (some (2, false, 1)) (ρ x) := op_fieldAddr (by kernel_rfl)
theorem fn_46 : (EE w).fns 46 = true := by kernel_rfl
theorem fn_45 : (EE w).fns 45 = true := by kernel_rfl
theorem is_90 : (tyA (EE w) 90).isSome = true := by kernel_rfl
theorem fn_24 : (EE w).fns 24 = true := by kernel_rfl
theorem cv_90_2 {x : Operand} : aOp (EE w) lit (.convert 90 2 x) ρ σ = opCvI σ Go.IntKind.i64 (ρ x) := op_convInt (by kernel_rfl) (by kernel_rfl)
theorem cv_2_90 {x : Operand} : aOp (EE w) lit (.convert 2 90 x) ρ σ = opCvI σ Go.IntKind.u64 (ρ x) := op_convInt (by kernel_rfl) (by kernel_rfl)
theorem ec_2_90 {x : Operand} : isEff (EE w) (.convert 2 90 x) = false := by kernel_rfl
theorem fn_53 : (EE w).fns 53 = true := by kernel_rfl
theorem fn_54 : (EE w).fns 54 = true := by kernel_rfl
theorem zr_91 : zeroD (EE w) 91 = some (.sc (.nilFunc)) := by kernel_rfl
theorem fn_78 : (EE w).fns 78 = true := by kernel_rfl
theorem ty_91 : tyA (EE w) 91 = some (false, 1) := by kernel_rfl
attribute [go_sem] ty_32 fn_5 fn_6 bs_22 fa_32_1 fa_25_0 ty_22 ap_22 bs_23 fa_25_1 ty_23 ap_23 bd_25 zr_25 ty_25 fa_32_0 fa_32_2 ty_26 fn_7 fn_9 is_35 fn_10 fn_12 fn_15 kb_4 fa_32_3 ty_28 fn_17 fa_32_4 ty_30 fn_19 ln_22 ln_23 ln_26 fn_27 ms_22 ms_23 ms_26 ia_26 ty_49 zr_49 fn_28 fa_49_0 ty_2 fa_49_1 bd_49 ia_22 ia_23 ty_3 fn_23 fn_32 fn_31 bs_26 ap_26 ms_80 ia_80 ty_4 fn_37 fn_38 fn_39 fn_40 fa_28_0 fa_28_1 fn_43 fa_30_0 fa_30_3 fn_44 fn_21 fa_30_1 fa_30_2 fn_46 fn_45 is_90 fn_24 cv_90_2 cv_2_90 ec_2_90 fn_53 fn_54 zr_91 fn_78 ty_91
theorem of_5 (hn : Nat.ble args.length 27 = true) (hl : Nat.blt args.length 1000 = true) {c : Code} (hc : Tryz.f5.body = some c) (hk : okC 27 c = true) (h : V (EE w) 27 c (vFin (EE w) [.tmp 2] R) (initE args 0) σ) : ACalls (EE w) 5 args σ R :=
 ACalls.of_V' (n := 27) rfl Tryz.f5 c _ Tryz.func5 hc (by kernel_rfl) (by kernel_rfl) hk hn hl h
theorem of_7 (hn : Nat.ble args.length 183 = true) (hl : Nat.blt args.length 1000 = true) {c : Code} (hc : Tryz.f7.body = some c) (hk : okC 183 c = true) (h : V (EE w) 183 c (vFin (EE w) [.cell 4 25, .tmp 5] R) (initE args 0) σ) : ACalls (EE w) 7 args σ R :=
 ACalls.of_V' (n := 183) rfl Tryz.f7 c _ Tryz.func7 hc (by kernel_rfl) (by kernel_rfl) hk hn hl h
theorem of_9 (hn : Nat.ble args.length 59 = true) (hl : Nat.blt args.length 1000 = true) {c : Code} (hc : Tryz.f9.body = some c) (hk : okC 59 c = true) (h : V (EE w) 59 c (vFin (EE w) [.tmp 4] R) (initE args 0) σ) : ACalls (EE w) 9 args σ R :=
 ACalls.of_V' (n := 59) rfl Tryz.f9 c _ Tryz.func9 hc (by kernel_rfl) (by kernel_rfl) hk hn hl h
theorem of_10 (hn : Nat.ble args.length 97 = true) (hl : Nat.blt args.length 1000 = true) {c : Code} (hc : Tryz.f10.body = some c) (hk : okC 97 c = true) (h : V (EE w) 97 c (vFin (EE w) [.tmp 4] R) (initE args 0) σ) : ACalls (EE w) 10 args σ R :=
 ACalls.of_V' (n := 97) rfl Tryz.f10 c _ Tryz.func10 hc (by kernel_rfl) (by kernel_rfl) hk hn hl h
theorem of_12 (hn : Nat.ble args.length 66 = true) (hl : Nat.blt args.length 1000 = true) {c : Code} (hc : Tryz.f12.body = some c) (hk : okC 66 c = true) (h : V (EE w) 66 c (vFin (EE w) [.tmp 4, .tmp 5] R) (initE args 0) σ) : ACalls (EE w) 12 args σ R :=
 ACalls.of_V' (n := 66) rfl Tryz.f12 c _ Tryz.func12 hc (by kernel_rfl) (by kernel_rfl) hk hn hl h
theorem of_15 (hn : Nat.ble args.length 28 = true) (hl : Nat.blt args.length 1000 = true) {c : Code} (hc : Tryz.f15.body = some c) (hk : okC 28 c = true) (h : V (EE w) 28 c (vFin (EE w) [.cell 4 25, .tmp 5, .tmp 6] R) (initE args 0) σ) : ACalls (EE w) 15 args σ R :=
 ACalls.of_V' (n := 28) rfl Tryz.f15 c _ Tryz.func15 hc (by kernel_rfl) (by kernel_rfl) hk hn hl h
theorem of_17 (hn : Nat.ble args.length 40 = true) (hl : Nat.blt args.length 1000 = true) {c : Code} (hc : Tryz.f17.body = some c) (hk : okC 40 c = true) (h : V (EE w) 40 c (vFin (EE w) [.cell 6 25, .tmp 7] R) (initE args 0) σ) : ACalls (EE w) 17 args σ R :=
 ACalls.of_V' (n := 40) rfl Tryz.f17 c _ Tryz.func17 hc (by kernel_rfl) (by kernel_rfl) hk hn hl h
theorem of_19 (hn : Nat.ble args.length 44 = true) (hl : Nat.blt args.length 1000 = true) {c : Code} (hc : Tryz.f19.body = some c) (hk : okC 44 c = true) (h : V (EE w) 44 c (vFin (EE w) [.tmp 6, .tmp 7] R) (initE args 0) σ) : ACalls (EE w) 19 args σ R :=
 ACalls.of_V' (n := 44) rfl Tryz.f19 c _ Tryz.func19 hc (by kernel_rfl) (by kernel_rfl) hk hn hl h
theorem of_21 (hn : Nat.ble args.length 39 = true) (hl : Nat.blt args.length 1000 = true) {c : Code} (hc : Tryz.f21.body = some c) (hk : okC 39 c = true) (h : V (EE w) 39 c (vFin (EE w) [.tmp 4] R) (initE args 0) σ) : ACalls (EE w) 21 args σ R :=
 ACalls.of_V' (n := 39) rfl Tryz.f21 c _ Tryz.func21 hc (by kernel_rfl) (by kernel_rfl) hk hn hl h
theorem of_23 (hn : Nat.ble args.length 31 = true) (hl : Nat.blt args.length 1000 = true) {c : Code} (hc : Tryz.f23.body = some c) (hk : okC 31 c = true) (h : V (EE w) 31 c (vFin (EE w) [.tmp 2] R) (initE args 0) σ) : ACalls (EE w) 23 args σ R :=
 ACalls.of_V' (n := 31) rfl Tryz.f23 c _ Tryz.func23 hc (by kernel_rfl) (by kernel_rfl) hk hn hl h
theorem of_24 (hn : Nat.ble args.length 34 = true) (hl : Nat.blt args.length 1000 = true) {c : Code} (hc : Tryz.f24.body = some c) (hk : okC 34 c = true) (h : V (EE w) 34 c (vFin (EE w) [.cell 4 49, .tmp 5] R) (initE args 0) σ) : ACalls (EE w) 24 args σ R :=
 ACalls.of_V' (n := 34) rfl Tryz.f24 c _ Tryz.func24 hc (by kernel_rfl) (by kernel_rfl) hk hn hl h
theorem of_27 (hn : Nat.ble args.length 21 = true) (hl : Nat.blt args.length 1000 = true) {c : Code} (hc : Tryz.f27.body = some c) (hk : okC 21 c = true) (h : V (EE w) 21 c (vFin (EE w) [.tmp 2] R) (initE args 0) σ) : ACalls (EE w) 27 args σ R :=
 ACalls.of_V' (n := 21) rfl Tryz.f27 c _ Tryz.func27 hc (by kernel_rfl) (by kernel_rfl) hk hn hl h
theorem of_29 (hn : Nat.ble args.length 16 = true) (hl : Nat.blt args.length 1000 = true) {c : Code} (hc : Tryz.f29.body = some c) (hk : okC 16 c = true) (h : V (EE w) 16 c (vFin (EE w) [.tmp 4] R) (initE args 0) σ) : ACalls (EE w) 29 args σ R :=
 ACalls.of_V' (n := 16) rfl Tryz.f29 c _ Tryz.func29 hc (by kernel_rfl) (by kernel_rfl) hk hn hl h
theorem of_31 (hn : Nat.ble args.length 32 = true) (hl : Nat.blt args.length 1000 = true) {c : Code} (hc : Tryz.f31.body = some c) (hk : okC 32 c = true) (h : V (EE w) 32 c (vFin (EE w) [.tmp 4, .tmp 5] R) (initE args 0) σ) : ACalls (EE w) 31 args σ R :=
 ACalls.of_V' (n := 32) rfl Tryz.f31 c _ Tryz.func31 hc (by kernel_rfl) (by kernel_rfl) hk hn hl h
theorem of_32 (hn : Nat.ble args.length 5 = true) (hl : Nat.blt args.length 1000 = true) {c : Code} (hc : Tryz.f32.body = some c) (hk : okC 5 c = true) (h : V (EE w) 5 c (vFin (EE w) [.cell 2 49] R) (initE args 0) σ) : ACalls (EE w) 32 args σ R :=
 ACalls.of_V' (n := 5) rfl Tryz.f32 c _ Tryz.func32 hc (by kernel_rfl) (by kernel_rfl) hk hn hl h
theorem of_38 (hn : Nat.ble args.length 48 = true) (hl : Nat.blt args.length 1000 = true) {c : Code} (hc : Tryz.f38.body = some c) (hk : okC 48 c = true) (h : V (EE w) 48 c (vFin (EE w) [.cell 4 49, .tmp 5] R) (initE args 0) σ) : ACalls (EE w) 38 args σ R :=
 ACalls.of_V' (n := 48) rfl Tryz.f38 c _ Tryz.func38 hc (by kernel_rfl) (by kernel_rfl) hk hn hl h
theorem of_39 (hn : Nat.ble args.length 12 = true) (hl : Nat.blt args.length 1000 = true) {c : Code} (hc : Tryz.f39.body = some c) (hk : okC 12 c = true) (h : V (EE w) 12 c (vFin (EE w) [.cell 2 25] R) (initE args 0) σ) : ACalls (EE w) 39 args σ R :=
 ACalls.of_V' (n := 12) rfl Tryz.f39 c _ Tryz.func39 hc (by kernel_rfl) (by kernel_rfl) hk hn hl h
theorem of_40 (hn : Nat.ble args.length 157 = true) (hl : Nat.blt args.length 1000 = true) {c : Code} (hc : Tryz.f40.body = some c) (hk : okC 157 c = true) (h : V (EE w) 157 c (vFin (EE w) [.cell 4 25, .tmp 5] R) (initE args 0) σ) : ACalls (EE w) 40 args σ R :=
 ACalls.of_V' (n := 157) rfl Tryz.f40 c _ Tryz.func40 hc (by kernel_rfl) (by kernel_rfl) hk hn hl h
theorem of_43 (hn : Nat.ble args.length 72 = true) (hl : Nat.blt args.length 1000 = true) {c : Code} (hc : Tryz.f43.body = some c) (hk : okC 72 c = true) (h : V (EE w) 72 c (vFin (EE w) [.cell 6 25] R) (initE args 0) σ) : ACalls (EE w) 43 args σ R :=
 ACalls.of_V' (n := 72) rfl Tryz.f43 c _ Tryz.func43 hc (by kernel_rfl) (by kernel_rfl) hk hn hl h
theorem of_44 (hn : Nat.ble args.length 53 = true) (hl : Nat.blt args.length 1000 = true) {c : Code} (hc : Tryz.f44.body = some c) (hk : okC 53 c = true) (h : V (EE w) 53 c (vFin (EE w) [.tmp 6] R) (initE args 0) σ) : ACalls (EE w) 44 args σ R :=
 ACalls.of_V' (n := 53) rfl Tryz.f44 c _ Tryz.func44 hc (by kernel_rfl) (by kernel_rfl) hk hn hl h
theorem of_45 (hn : Nat.ble args.length 12 = true) (hl : Nat.blt args.length 1000 = true) {c : Code} (hc : Tryz.f45.body = some c) (hk : okC 12 c = true) (h : V (EE w) 12 c (vFin (EE w) [.tmp 4] R) (initE args 0) σ) : ACalls (EE w) 45 args σ R :=
 ACalls.of_V' (n := 12) rfl Tryz.f45 c _ Tryz.func45 hc (by kernel_rfl) (by kernel_rfl) hk hn hl h
theorem of_46 (hn : Nat.ble args.length 12 = true) (hl : Nat.blt args.length 1000 = true) {c : Code} (hc : Tryz.f46.body = some c) (hk : okC 12 c = true) (h : V (EE w) 12 c (vFin (EE w) [.tmp 2] R) (initE args 0) σ) : ACalls (EE w) 46 args σ R :=
 ACalls.of_V' (n := 12) rfl Tryz.f46 c _ Tryz.func46 hc (by kernel_rfl) (by kernel_rfl) hk hn hl h
theorem of_28 (hn : Nat.ble args.length 27 = true) (hl : Nat.blt args.length 1000 = true) {c : Code} (hc : Tryz.f28.body = some c) (hk : okC 27 c = true) (h : V (EE w) 27 c (vFin (EE w) [.tmp 2] R) (initE args 0) σ) : ACalls (EE w) 28 args σ R :=
 ACalls.of_V' (n := 27) rfl Tryz.f28 c _ Tryz.func28 hc (by kernel_rfl) (by kernel_rfl) hk hn hl h
theorem of_37 (hn : Nat.ble args.length 48 = true) (hl : Nat.blt args.length 1000 = true) {c : Code} (hc : Tryz.f37.body = some c) (hk : okC 48 c = true) (h : V (EE w) 48 c (vFin (EE w) [.cell 4 49, .tmp 5] R) (initE args 0) σ) : ACalls (EE w) 37 args σ R :=
 ACalls.of_V' (n := 48) rfl Tryz.f37 c _ Tryz.func37 hc (by kernel_rfl) (by kernel_rfl) hk hn hl h
theorem of_53 (hn : Nat.ble args.length 10 = true) (hl : Nat.blt args.length 1000 = true) {c : Code} (hc : Tryz.f53.body = some c) (hk : okC 10 c = true) (h : V (EE w) 10 c (vFin (EE w) [.tmp 2] R) (initE args 0) σ) : ACalls (EE w) 53 args σ R :=
 ACalls.of_V' (n := 10) rfl Tryz.f53 c _ Tryz.func53 hc (by kernel_rfl) (by kernel_rfl) hk hn hl h
theorem of_54 (hn : Nat.ble args.length 11 = true) (hl : Nat.blt args.length 1000 = true) {c : Code} (hc : Tryz.f54.body = some c) (hk : okC 11 c = true) (h : V (EE w) 11 c (vFin (EE w) [.tmp 4] R) (initE args 0) σ) : ACalls (EE w) 54 args σ R :=
 ACalls.of_V' (n := 11) rfl Tryz.f54 c _ Tryz.func54 hc (by kernel_rfl) (by kernel_rfl) hk hn hl h
theorem of_78 (hn : Nat.ble args.length 15 = true) (hl : Nat.blt args.length 1000 = true) {c : Code} (hc : Tryz.f78.body = some c) (hk : okC 15 c = true) (h : V (EE w) 15 c (vFin (EE w) [.tmp 5] R) (initE args 0) σ) : ACalls (EE w) 78 args σ R :=
 ACalls.of_V' (n := 15) rfl Tryz.f78 c _ Tryz.func78 hc (by kernel_rfl) (by kernel_rfl) hk hn hl h
end
end Abs
namespace Abs
set_option linter.unusedSimpArgs false
set_option linter.unusedVariables false
set_option maxRecDepth 100000
set_option maxHeartbeats 2000000
open Go Go.Proofs
def rA (x : Int × Int) : AVal := .agg [(AVal.sc (Value.int IntKind.i64 (x.1))), (AVal.sc (Value.int IntKind.i64 (x.2)))]
def validR (x : Int × Int) : Bool := decide (0 < x.2) && (decide (x.2 ≤ 2147483647) && (decide (x.1.natAbs ≤ 2147483647) && decide (Nat.gcd x.1.natAbs x.2.natAbs = 1)))
def makeR (n d : Int) : (Int × Int) × Int :=
 if d = 0 then ((0, 0), 2)
 else
  let g := Nat.gcd n.natAbs d.natAbs
  let a := n.natAbs / g
  let b := d.natAbs / g
  if 2147483647 < a ∨ 2147483647 < b then ((0, 0), 7)
  else ((if decide (n < 0) = decide (d < 0) then (a : Int) else -(a : Int), b), 0)
def rE (r : (Int × Int) × Int) : AVal := .tuple [rA r.1, (AVal.sc (Value.int IntKind.i64 (r.2)))]
def addR (x y : Int × Int) : (Int × Int) × Int := if validR x && validR y then makeR (x.1 * y.2 + y.1 * x.2) (x.2 * y.2) else ((0, 0), 2)
theorem gcd1 {w : World} {p : Nat} : ∀ (b a : Nat) (σ : AStore), a < 18446744073709551616 → b < 18446744073709551616 → σ.get p = some (.cells 1 [.func (.func 78) [] [.ptr p 0 0]]) →
  ACalls (EE w) 78 [(AVal.sc (Value.int IntKind.u64 (a))), (AVal.sc (Value.int IntKind.u64 (b))), .ptr p 0 0] σ fun e σ' => σ' = σ ∧ e = .ret (AVal.sc (Value.int IntKind.u64 (Nat.gcd a b))) := by
 intro b
 induction b using Nat.strongRecOn with
 | ind b ih =>
  intro a σ ha hb hg
  refine of_78 rfl rfl rfl (by kernel_rfl) ?_
  simp (maxSteps := 500000) -implicitDefEqProofs only [go_sem]
  ((first | refine vz2 ?_ ?_ | refine vz3 ?_ ?_) <;> intro h)
  ·simp (maxSteps := 500000) -implicitDefEqProofs only [go_sem]
   obtain rfl : b = 0 := by omega
   rw [Nat.gcd_zero_right]
  ·simp (maxSteps := 500000) -implicitDefEqProofs only [go_sem]
   have hb0 : b ≠ 0 := by omega
   have hrem := sc_remU (a := a) hb0
   ((try (refine Z_seq ?_; (try simp (maxSteps := 500000) -implicitDefEqProofs only [go_sem]))); refine Z_draw (by kernel_rfl) [0, 1, 2, 3, 4, 5, 6] [(6, 63), (5, 31), (4, 12), (3, 0), (2, 0), (1, 0), (0, 0)] (by kernel_rfl) (by kernel_rfl) ?_)
   simp (maxSteps := 500000) -implicitDefEqProofs only [go_sem, hg, hrem]
   refine (ih (a % b) (Nat.mod_lt _ (by omega)) b σ hb (by have := Nat.mod_lt a (show 0 < b by omega); omega) hg).use1D ?_
   simp (maxSteps := 500000) -implicitDefEqProofs only [go_sem]
   rw [Nat.gcd_comm b, ← Nat.gcd_rec, Nat.gcd_comm]
theorem gcdC {w : World} (a b : Nat) (ha : a < 18446744073709551616) (hb : b < 18446744073709551616) : GivesV (EE w) 54 [(AVal.sc (Value.int IntKind.u64 (a))), (AVal.sc (Value.int IntKind.u64 (b)))] (AVal.sc (Value.int IntKind.u64 (Nat.gcd a b))) := by
 refine GivesV.of (fun _ => .sc _) (.cons _ _ (.sc _) (.cons _ _ (.sc _) .nil)) 1 ?_
 refine of_54 rfl rfl rfl (by kernel_rfl) ?_
 simp (maxSteps := 500000) -implicitDefEqProofs only [go_sem]
 refine (gcd1 b a _ ha hb (by simp (maxSteps := 500000) -implicitDefEqProofs only [go_sem])).use1 ?_
 simp (maxSteps := 500000) -implicitDefEqProofs only [go_sem]
 exact ⟨_, rfl, rfl⟩
theorem absC {w : World} (n : Int) (hn : in64 n) : GivesV (EE w) 53 [(AVal.sc (Value.int IntKind.i64 (n)))] (AVal.sc (Value.int IntKind.u64 (n.natAbs))) := by
 obtain ⟨h1, h2⟩ := hn
 refine GivesV.of (fun _ => .sc _) (.cons _ _ (.sc _) .nil) 1 ?_
 refine of_53 rfl rfl rfl (by kernel_rfl) ?_
 simp (maxSteps := 500000) -implicitDefEqProofs only [go_sem]
 ((first | refine vz2 ?_ ?_ | refine vz3 ?_ ?_) <;> intro h)
 ·have e1 : IntKind.u64.wrap n = n + 18446744073709551616 := by
   have key : IntKind.u64.wrap n = n % 2 ^ 64 := by simp [IntKind.wrap, IntKind.bits, IntKind.signed]
   rw [key]; omega
  have e2 : IntKind.u64.wrap (0 - (n + 18446744073709551616)) = (n.natAbs : Int) := by
   have key : IntKind.u64.wrap (0 - (n + 18446744073709551616)) = (0 - (n + 18446744073709551616)) % 2 ^ 64 := by simp [IntKind.wrap, IntKind.bits, IntKind.signed]
   rw [key]; omega
  simp (maxSteps := 500000) -implicitDefEqProofs only [go_sem, e1, e2]
  exact ⟨_, rfl, rfl⟩
 ·have e1 : IntKind.u64.wrap n = (n.natAbs : Int) := by rw [wrapU (by omega) (by omega)]; omega
  simp (maxSteps := 500000) -implicitDefEqProofs only [go_sem, e1]
  exact ⟨_, rfl, rfl⟩
theorem wfR (x : Int × Int) : WF 0 (rA x) := .agg _ (.cons _ _ (.sc _) (.cons _ _ (.sc _) .nil))
theorem validC {w : World} (x : Int × Int) (h1 : in64 x.1) (h2 : in64 x.2) : GivesV (EE w) 28 [rA x] (AVal.sc (Value.bool (validR x))) := by
 refine GivesV.of (fun _ => .sc _) (.cons _ _ (wfR x) .nil) 1 ?_
 have hn := h1
 obtain ⟨h3, h4⟩ := h2
 have e1 : 0 < x.2 → IntKind.u64.wrap x.2 = (x.2.natAbs : Int) := fun h => by rw [wrapU (by omega) (by omega)]; omega
 have hb1 : x.1.natAbs < 18446744073709551616 := by obtain ⟨h5, h6⟩ := h1; omega
 have hb2 : x.2.natAbs < 18446744073709551616 := by omega
 refine of_28 rfl rfl rfl (by kernel_rfl) ?_
 simp (maxSteps := 500000) -implicitDefEqProofs only [go_sem, rA]
 ((try (refine Z_seq ?_; (try simp (maxSteps := 500000) -implicitDefEqProofs only [go_sem]))); refine Z_draw (by kernel_rfl) [0, 1, 2, 3, 4, 5, 6, 7, 8, 9, 10, 11, 12, 13, 14, 15, 16, 18, 19, 20, 17, 21, 22, 23, 24] [(24, 16777215), (23, 8388607), (22, 4194303), (21, 2097151), (17, 131071), (20, 819199), (19, 294911), (18, 32767), (16, 65535), (15, 32767), (14, 16383), (13, 8191), (12, 4095), (11, 2047), (10, 1023), (9, 511), (8, 255), (7, 127), (6, 63), (5, 31), (4, 15), (3, 7), (2, 3), (1, 1), (0, 0)] (by kernel_rfl) (by kernel_rfl) ?_)
 by_cases c1 : 0 < x.2
 ·by_cases c2 : x.2 ≤ 2147483647
  ·simp (maxSteps := 500000) -implicitDefEqProofs only [go_sem, dct c1, dct c2]
   refine (absC x.1 hn).useD ?_
   by_cases c3 : (x.1.natAbs : Int) ≤ 2147483647
   ·have c3' : x.1.natAbs ≤ 2147483647 := by omega
    simp (maxSteps := 500000) -implicitDefEqProofs only [go_sem, dct c3, e1 c1]
    refine (absC x.1 hn).useD ?_
    simp (maxSteps := 500000) -implicitDefEqProofs only [go_sem]
    refine (gcdC _ _ hb1 hb2).useD ?_
    simp (maxSteps := 500000) -implicitDefEqProofs only [go_sem]
    refine ⟨_, rfl, ?_⟩
    have : decide (((Nat.gcd x.1.natAbs x.2.natAbs : Nat) : Int) = 1) = decide (Nat.gcd x.1.natAbs x.2.natAbs = 1) := by
     by_cases h : Nat.gcd x.1.natAbs x.2.natAbs = 1
     ·rw [dct h, dct (by omega)]
     ·rw [dcf h, dcf (by omega)]
    simp only [validR, dct c1, dct c2, dct c3', Bool.true_and, frz_sc, this]
   ·have c3' : ¬ x.1.natAbs ≤ 2147483647 := by omega
    simp (maxSteps := 500000) -implicitDefEqProofs only [go_sem, dcf c3]
    refine ⟨_, rfl, ?_⟩
    simp only [validR, dcf c3', Bool.false_and, Bool.and_false, frz_sc]
  ·simp (maxSteps := 500000) -implicitDefEqProofs only [go_sem, dct c1, dcf c2]
   refine ⟨_, rfl, ?_⟩
   simp only [validR, dcf c2, Bool.false_and, Bool.and_false, frz_sc]
 ·simp (maxSteps := 500000) -implicitDefEqProofs only [go_sem, dcf c1]
  refine ⟨_, rfl, ?_⟩
  simp only [validR, dcf c1, Bool.false_and, frz_sc]
theorem makeC {w : World} (n d : Int) (hn : in64 n) (hd : in64 d) : GivesV (EE w) 37 [(AVal.sc (Value.int IntKind.i64 (n))), (AVal.sc (Value.int IntKind.i64 (d)))] (rE (makeR n d)) := by
 refine GivesV.of (fun _ => .sc _) (.cons _ _ (.sc _) (.cons _ _ (.sc _) .nil)) 4 ?_
 have hb1 : n.natAbs < 18446744073709551616 := by obtain ⟨h5, h6⟩ := hn; omega
 have hb2 : d.natAbs < 18446744073709551616 := by obtain ⟨h5, h6⟩ := hd; omega
 refine of_37 rfl rfl rfl (by kernel_rfl) ?_
 simp (maxSteps := 500000) -implicitDefEqProofs only [go_sem]
 ((first | refine vz2 ?_ ?_ | refine vz3 ?_ ?_) <;> intro h)
 ·simp (maxSteps := 500000) -implicitDefEqProofs only [go_sem]
  exact ⟨_, rfl, by simp only [makeR, if_pos h]; rfl⟩
 ·simp (maxSteps := 500000) -implicitDefEqProofs only [go_sem]
  refine (absC n hn).use ?_
  simp (maxSteps := 500000) -implicitDefEqProofs only [go_sem]
  refine (absC d hd).use ?_
  simp (maxSteps := 500000) -implicitDefEqProofs only [go_sem]
  refine (gcdC _ _ hb1 hb2).use ?_
  simp (maxSteps := 500000) -implicitDefEqProofs only [go_sem]
  have hg0 : Nat.gcd n.natAbs d.natAbs ≠ 0 := by
   intro h0
   have := Nat.eq_zero_of_gcd_eq_zero_right h0
   omega
  have hmk : makeR n d = if 2147483647 < n.natAbs / Nat.gcd n.natAbs d.natAbs ∨ 2147483647 < d.natAbs / Nat.gcd n.natAbs d.natAbs then ((0, 0), 7)
   else ((if decide (n < 0) = decide (d < 0) then ((n.natAbs / Nat.gcd n.natAbs d.natAbs : Nat) : Int) else -((n.natAbs / Nat.gcd n.natAbs d.natAbs : Nat) : Int), ((d.natAbs / Nat.gcd n.natAbs d.natAbs : Nat) : Int)), 0) := by
   simp only [makeR, if_neg h]
  have q1 := sc_quoU (a := n.natAbs) hg0 hb1
  have q2 := sc_quoU (a := d.natAbs) hg0 hb2
  rw [hmk]
  generalize n.natAbs / Nat.gcd n.natAbs d.natAbs = a at *
  generalize d.natAbs / Nat.gcd n.natAbs d.natAbs = b at *
  clear hmk
  ((try (refine Z_seq ?_; (try simp (maxSteps := 500000) -implicitDefEqProofs only [go_sem]))); refine Z_draw (by kernel_rfl) [0, 1, 2, 3, 4, 5, 6, 7] [(7, 127), (6, 7), (5, 24), (4, 0), (3, 0), (2, 3), (1, 0), (0, 0)] (by kernel_rfl) (by kernel_rfl) ?_)
  simp (maxSteps := 500000) -implicitDefEqProofs only [go_sem, q1, q2]
  by_cases c1 : (2147483647 : Int) < (a : Int)
  ·simp (maxSteps := 500000) -implicitDefEqProofs only [go_sem, dct c1]
   refine vzt ?_
   simp (maxSteps := 500000) -implicitDefEqProofs only [go_sem]
   exact ⟨_, rfl, by rw [if_pos (.inl (by omega))]; rfl⟩
  ·by_cases c2 : (2147483647 : Int) < (b : Int)
   ·simp (maxSteps := 500000) -implicitDefEqProofs only [go_sem, dcf c1, dct c2]
    refine vzt ?_
    simp (maxSteps := 500000) -implicitDefEqProofs only [go_sem]
    exact ⟨_, rfl, by rw [if_pos (.inr (by omega))]; rfl⟩
   ·have w1 : IntKind.i64.wrap (a : Int) = a := wrap64 (by omega) (by omega)
    have w2 : IntKind.i64.wrap (b : Int) = b := wrap64 (by omega) (by omega)
    have w3 : IntKind.i64.wrap (0 - (a : Int)) = -(a : Int) := by rw [wrap64 (by omega) (by omega)]; omega
    rw [if_neg (by omega)]
    simp (maxSteps := 500000) -implicitDefEqProofs only [go_sem, dcf c1, dcf c2]
    refine vzf ?_
    by_cases d1 : n < 0
    ·by_cases d2 : d < 0
     ·simp (maxSteps := 500000) -implicitDefEqProofs only [go_sem, dct d1, dct d2, w1, w2]
      refine vzf ?_
      simp (maxSteps := 500000) -implicitDefEqProofs only [go_sem]
      exact ⟨_, rfl, by first | rfl | (rw [if_pos (by simp [d1, d2])]; rfl)⟩
     ·simp (maxSteps := 500000) -implicitDefEqProofs only [go_sem, dct d1, dcf d2, w1, w2]
      refine vzt ?_
      simp (maxSteps := 500000) -implicitDefEqProofs only [go_sem, w3]
      exact ⟨_, rfl, by first | rfl | (rw [if_neg (by simp [d1, d2])]; rfl)⟩
    ·by_cases d2 : d < 0
     ·simp (maxSteps := 500000) -implicitDefEqProofs only [go_sem, dcf d1, dct d2, w1, w2]
      refine vzt ?_
      simp (maxSteps := 500000) -implicitDefEqProofs only [go_sem, w3]
      exact ⟨_, rfl, by first | rfl | (rw [if_neg (by simp [d1, d2])]; rfl)⟩
     ·simp (maxSteps := 500000) -implicitDefEqProofs only [go_sem, dcf d1, dcf d2, w1, w2]
      refine vzf ?_
      simp (maxSteps := 500000) -implicitDefEqProofs only [go_sem]
      exact ⟨_, rfl, by first | rfl | (rw [if_pos (by simp [d1, d2])]; rfl)⟩
theorem validR_bounds {x : Int × Int} (h : validR x = true) : 0 < x.2 ∧ x.2 ≤ 2147483647 ∧ -2147483647 ≤ x.1 ∧ x.1 ≤ 2147483647 := by
 simp only [validR, Bool.and_eq_true, decide_eq_true_eq] at h
 obtain ⟨h1, h2, h3, _⟩ := h
 omega
end Abs
namespace Abs
set_option linter.unusedSimpArgs false
set_option linter.unusedVariables false
set_option maxRecDepth 100000
set_option maxHeartbeats 2000000
open Go Go.Proofs
theorem divisorC {w : World} (a b : Nat) (ha : a < 18446744073709551616) (hb : b < 18446744073709551616) : GivesV (EE w) 45 [(AVal.sc (Value.int IntKind.u64 (a))), (AVal.sc (Value.int IntKind.u64 (b)))] (AVal.sc (Value.int IntKind.u64 (Nat.gcd a b))) := by
 refine GivesV.of (fun _ => .sc _) (.cons _ _ (.sc _) (.cons _ _ (.sc _) .nil)) 1 ?_
 refine of_45 rfl rfl rfl (by kernel_rfl) ?_
 simp (maxSteps := 500000) -implicitDefEqProofs only [go_sem]
 refine Z_seq_loop (ι := Nat × Nat) (fun s => [(0, (AVal.sc (Value.int IntKind.u64 (s.1)))), (1, (AVal.sc (Value.int IntKind.u64 (s.2))))]) (fun s _ => s.1 < 18446744073709551616 ∧ s.2 < 18446744073709551616 ∧ Nat.gcd s.1 s.2 = Nat.gcd a b) (fun s => s.2) (fun _ => rfl) (a, b) ?_ ⟨ha, hb, rfl⟩ ?_
 ·(repeat' (first | exact trivial | refine ⟨rfl, ?_⟩))
 rintro ⟨x, y⟩ σ ⟨hx, hy, hg⟩
 simp only at hx hy hg
 simp (maxSteps := 500000) -implicitDefEqProofs only [go_sem]
 ((first | refine vz2 ?_ ?_ | refine vz3 ?_ ?_) <;> intro h)
 ·have hy0 : y ≠ 0 := by omega
  have hrem := sc_remU (a := x) hy0
  (repeat' first | ((first | refine vy1 ?_ ?_ | refine vy2 ?_ ?_ | refine vy3 ?_ ?_) <;> rintro ⟨hd, hq⟩ <;> first | (exfalso; omega) | simp (maxSteps := 500000) -implicitDefEqProofs only [go_sem, hd] | skip) | refine vzt ?_ | refine vzf ?_ | refine vsb ?_ | refine vzb ?_ | refine vzq ?_ | simp (maxSteps := 500000) -implicitDefEqProofs only [go_sem])
  ((try (refine Z_seq ?_; (try simp (maxSteps := 500000) -implicitDefEqProofs only [go_sem]))); refine Z_draw (by kernel_rfl) [0, 1, 2, 3, 4, 5] [(5, 31), (4, 3), (3, 6), (2, 0), (1, 0), (0, 0)] (by kernel_rfl) (by kernel_rfl) ?_)
  simp (maxSteps := 500000) -implicitDefEqProofs only [go_sem, hrem]
  refine ⟨(y, x % y), Nat.mod_lt _ (by omega), ⟨hy, by have := Nat.mod_lt x (show 0 < y by omega); dsimp only; omega, ?_⟩, ?_⟩
  ·dsimp only
   rw [← hg, Nat.gcd_comm y, ← Nat.gcd_rec, Nat.gcd_comm]
  ·(repeat' (first | exact trivial | refine ⟨rfl, ?_⟩))
 ·obtain rfl : y = 0 := by omega
  simp (maxSteps := 500000) -implicitDefEqProofs only [go_sem]
  rw [Nat.gcd_zero_right] at hg
  subst hg
  exact ⟨_, rfl, rfl⟩
theorem sizeC {w : World} (n : Int) (hn : in64 n) : GivesV (EE w) 46 [(AVal.sc (Value.int IntKind.i64 (n)))] (AVal.sc (Value.int IntKind.u64 (n.natAbs))) := by
 obtain ⟨h1, h2⟩ := hn
 refine GivesV.of (fun _ => .sc _) (.cons _ _ (.sc _) .nil) 1 ?_
 refine of_46 rfl rfl rfl (by kernel_rfl) ?_
 simp (maxSteps := 500000) -implicitDefEqProofs only [go_sem]
 ((first | refine vz2 ?_ ?_ | refine vz3 ?_ ?_) <;> intro h)
 ·have e1 : IntKind.i64.wrap (n + 1) = n + 1 := wrap64 (by omega) (by omega)
  have e2 : IntKind.i64.wrap (0 - (n + 1)) = -(n + 1) := by rw [wrap64 (by omega) (by omega)]; omega
  have e3 : IntKind.u64.wrap (-(n + 1)) = -(n + 1) := wrapU (by omega) (by omega)
  have e4 : IntKind.u64.wrap (-(n + 1) + 1) = (n.natAbs : Int) := by rw [wrapU (by omega) (by omega)]; omega
  simp (maxSteps := 500000) -implicitDefEqProofs only [go_sem, e1, e2, e3, e4]
  exact ⟨_, rfl, rfl⟩
 ·have e1 : IntKind.u64.wrap n = (n.natAbs : Int) := by rw [wrapU (by omega) (by omega)]; omega
  simp (maxSteps := 500000) -implicitDefEqProofs only [go_sem, e1]
  exact ⟨_, rfl, rfl⟩
theorem rvalidC {w : World} (x : Int × Int) (h1 : in64 x.1) (h2 : in64 x.2) : GivesV (EE w) 23 [rA x] (AVal.sc (Value.bool (validR x))) := by
 refine GivesV.of (fun _ => .sc _) (.cons _ _ (wfR x) .nil) 1 ?_
 have hb1 : x.1.natAbs < 18446744073709551616 := by obtain ⟨h5, h6⟩ := h1; omega
 have hb2 : x.2.natAbs < 18446744073709551616 := by obtain ⟨h5, h6⟩ := h2; omega
 have key : validR x = (decide (1 ≤ x.2) && (decide (x.2 ≤ 2147483647) && (decide (-2147483647 ≤ x.1) && (decide (x.1 ≤ 2147483647) && decide (Nat.gcd x.1.natAbs x.2.natAbs = 1))))) := by
  simp only [validR]
  rw [Bool.eq_iff_iff]
  simp only [Bool.and_eq_true, decide_eq_true_eq]
  omega
 rw [key]
 refine of_23 rfl rfl rfl (by kernel_rfl) ?_
 simp (maxSteps := 500000) -implicitDefEqProofs only [go_sem, rA]
 ((try (refine Z_seq ?_; (try simp (maxSteps := 500000) -implicitDefEqProofs only [go_sem]))); refine Z_draw (by kernel_rfl) [0, 1, 2, 3, 4, 5, 6, 7, 8, 9, 10, 11, 12, 13, 14, 15, 16, 17, 18, 19, 20, 22, 23, 21, 24, 25, 26, 27, 28] [(28, 268435455), (27, 134217727), (26, 67108863), (25, 33554431), (24, 16777215), (21, 2097151), (23, 4718591), (22, 524287), (20, 1048575), (19, 524287), (18, 262143), (17, 131071), (16, 65535), (15, 32767), (14, 16383), (13, 8191), (12, 4095), (11, 2047), (10, 1023), (9, 511), (8, 255), (7, 127), (6, 63), (5, 31), (4, 15), (3, 7), (2, 3), (1, 1), (0, 0)] (by kernel_rfl) (by kernel_rfl) ?_)
 by_cases c1 : 1 ≤ x.2
 ·by_cases c2 : x.2 ≤ 2147483647
  ·by_cases c3 : -2147483647 ≤ x.1
   ·by_cases c4 : x.1 ≤ 2147483647
    ·simp (maxSteps := 500000) -implicitDefEqProofs only [go_sem, dct c1, dct c2, dct c3, dct c4]
     refine (sizeC x.1 h1).useD ?_
     simp (maxSteps := 500000) -implicitDefEqProofs only [go_sem]
     refine (sizeC x.2 h2).useD ?_
     simp (maxSteps := 500000) -implicitDefEqProofs only [go_sem]
     refine (divisorC _ _ hb1 hb2).useD ?_
     simp (maxSteps := 500000) -implicitDefEqProofs only [go_sem]
     refine ⟨_, rfl, ?_⟩
     have : decide (((Nat.gcd x.1.natAbs x.2.natAbs : Nat) : Int) = 1) = decide (Nat.gcd x.1.natAbs x.2.natAbs = 1) := by
      by_cases h : Nat.gcd x.1.natAbs x.2.natAbs = 1
      ·rw [dct h, dct (by omega)]
      ·rw [dcf h, dcf (by omega)]
     simp only [dct c1, dct c2, dct c3, dct c4, Bool.true_and, frz_sc, this]
    ·simp (maxSteps := 500000) -implicitDefEqProofs only [go_sem, dct c1, dct c2, dct c3, dcf c4]
     refine ⟨_, rfl, ?_⟩
     simp only [dcf c4, Bool.false_and, Bool.and_false, frz_sc]
   ·simp (maxSteps := 500000) -implicitDefEqProofs only [go_sem, dct c1, dct c2, dcf c3]
    refine ⟨_, rfl, ?_⟩
    simp only [dcf c3, Bool.false_and, Bool.and_false, frz_sc]
  ·simp (maxSteps := 500000) -implicitDefEqProofs only [go_sem, dct c1, dcf c2]
   refine ⟨_, rfl, ?_⟩
   simp only [dcf c2, Bool.false_and, Bool.and_false, frz_sc]
 ·simp (maxSteps := 500000) -implicitDefEqProofs only [go_sem, dcf c1]
  refine ⟨_, rfl, ?_⟩
  simp only [dcf c1, Bool.false_and, Bool.and_false, frz_sc]
theorem rmakeC {w : World} (n d : Int) (hn : in64 n) (hd : in64 d) : GivesV (EE w) 38 [(AVal.sc (Value.int IntKind.i64 (n))), (AVal.sc (Value.int IntKind.i64 (d)))] (rE (makeR n d)) := by
 refine GivesV.of (fun _ => .sc _) (.cons _ _ (.sc _) (.cons _ _ (.sc _) .nil)) 4 ?_
 have hb1 : n.natAbs < 18446744073709551616 := by obtain ⟨h5, h6⟩ := hn; omega
 have hb2 : d.natAbs < 18446744073709551616 := by obtain ⟨h5, h6⟩ := hd; omega
 refine of_38 rfl rfl rfl (by kernel_rfl) ?_
 simp (maxSteps := 500000) -implicitDefEqProofs only [go_sem]
 ((first | refine vz2 ?_ ?_ | refine vz3 ?_ ?_) <;> intro h)
 ·simp (maxSteps := 500000) -implicitDefEqProofs only [go_sem]
  exact ⟨_, rfl, by simp only [makeR, if_pos h]; rfl⟩
 ·simp (maxSteps := 500000) -implicitDefEqProofs only [go_sem]
  refine (sizeC n hn).use ?_
  simp (maxSteps := 500000) -implicitDefEqProofs only [go_sem]
  refine (sizeC d hd).use ?_
  simp (maxSteps := 500000) -implicitDefEqProofs only [go_sem]
  refine (divisorC _ _ hb1 hb2).use ?_
  have hg0 : Nat.gcd n.natAbs d.natAbs ≠ 0 := by
   intro h0
   have := Nat.eq_zero_of_gcd_eq_zero_right h0
   omega
  have hmk : makeR n d = if 2147483647 < n.natAbs / Nat.gcd n.natAbs d.natAbs ∨ 2147483647 < d.natAbs / Nat.gcd n.natAbs d.natAbs then ((0, 0), 7)
   else ((if decide (n < 0) = decide (d < 0) then ((n.natAbs / Nat.gcd n.natAbs d.natAbs : Nat) : Int) else -((n.natAbs / Nat.gcd n.natAbs d.natAbs : Nat) : Int), ((d.natAbs / Nat.gcd n.natAbs d.natAbs : Nat) : Int)), 0) := by
   simp only [makeR, if_neg h]
  have q1 := sc_quoU (a := n.natAbs) hg0 hb1
  have q2 := sc_quoU (a := d.natAbs) hg0 hb2
  rw [hmk]
  generalize hga : n.natAbs / Nat.gcd n.natAbs d.natAbs = a at *
  generalize hgb : d.natAbs / Nat.gcd n.natAbs d.natAbs = b at *
  clear hmk
  simp (maxSteps := 500000) -implicitDefEqProofs only [go_sem]
  ((try (refine Z_seq ?_; (try simp (maxSteps := 500000) -implicitDefEqProofs only [go_sem]))); refine Z_draw (by kernel_rfl) [0, 2, 4, 6, 1, 3, 5, 7, 8, 9] [(9, 511), (8, 63), (7, 115), (5, 19), (3, 7), (1, 1), (6, 0), (4, 0), (2, 0), (0, 0)] (by kernel_rfl) (by kernel_rfl) ?_)
  simp (maxSteps := 500000) -implicitDefEqProofs only [go_sem]
  refine (sizeC n hn).useD ?_
  simp (maxSteps := 500000) -implicitDefEqProofs only [go_sem, q1]
  refine (sizeC d hd).useD ?_
  simp (maxSteps := 500000) -implicitDefEqProofs only [go_sem, q1, q2]
  by_cases c1 : (2147483647 : Int) < (a : Int)
  ·simp (maxSteps := 500000) -implicitDefEqProofs only [go_sem, dct c1]
   refine vzt ?_
   simp (maxSteps := 500000) -implicitDefEqProofs only [go_sem]
   exact ⟨_, rfl, by rw [if_pos (.inl (by omega))]; rfl⟩
  ·by_cases c2 : (2147483647 : Int) < (b : Int)
   ·simp (maxSteps := 500000) -implicitDefEqProofs only [go_sem, dcf c1, dct c2]
    refine vzt ?_
    simp (maxSteps := 500000) -implicitDefEqProofs only [go_sem]
    exact ⟨_, rfl, by rw [if_pos (.inr (by omega))]; rfl⟩
   ·have w1 : IntKind.i64.wrap (a : Int) = a := wrap64 (by omega) (by omega)
    have w2 : IntKind.i64.wrap (b : Int) = b := wrap64 (by omega) (by omega)
    have w3 : IntKind.i64.wrap (0 - (a : Int)) = -(a : Int) := by rw [wrap64 (by omega) (by omega)]; omega
    rw [if_neg (by omega)]
    simp (maxSteps := 500000) -implicitDefEqProofs only [go_sem, dcf c1, dcf c2]
    refine vzf ?_
    by_cases d1 : n < 0
    ·by_cases d2 : d < 0
     ·simp (maxSteps := 500000) -implicitDefEqProofs only [go_sem, dct d1, dct d2, w1, w2]
      refine vzf ?_
      simp (maxSteps := 500000) -implicitDefEqProofs only [go_sem]
      exact ⟨_, rfl, by first | rfl | (rw [if_pos (by simp [d1, d2])]; rfl)⟩
     ·simp (maxSteps := 500000) -implicitDefEqProofs only [go_sem, dct d1, dcf d2, w1, w2]
      refine vzt ?_
      simp (maxSteps := 500000) -implicitDefEqProofs only [go_sem, w3]
      exact ⟨_, rfl, by first | rfl | (rw [if_neg (by simp [d1, d2])]; rfl)⟩
    ·by_cases d2 : d < 0
     ·simp (maxSteps := 500000) -implicitDefEqProofs only [go_sem, dcf d1, dct d2, w1, w2]
      refine vzt ?_
      simp (maxSteps := 500000) -implicitDefEqProofs only [go_sem, w3]
      exact ⟨_, rfl, by first | rfl | (rw [if_neg (by simp [d1, d2])]; rfl)⟩
     ·simp (maxSteps := 500000) -implicitDefEqProofs only [go_sem, dcf d1, dcf d2, w1, w2]
      refine vzf ?_
      simp (maxSteps := 500000) -implicitDefEqProofs only [go_sem]
      exact ⟨_, rfl, by first | rfl | (rw [if_pos (by simp [d1, d2])]; rfl)⟩
theorem raddC {w : World} (x y : Int × Int) (h1 : in64 x.1) (h2 : in64 x.2) (h3 : in64 y.1) (h4 : in64 y.2) : GivesV (EE w) 24 [rA x, rA y] (rE (addR x y)) := by
 refine GivesV.of (fun _ => .sc _) (.cons _ _ (wfR x) (.cons _ _ (wfR y) .nil)) 4 ?_
 have hx : (rA x).fit = true := id rfl
 have hy : (rA y).fit = true := id rfl
 have lx : loadCs true 2 0 (rA x).cells = some (rA x) := rfl
 have ly : loadCs true 2 0 (rA y).cells = some (rA y) := rfl
 have kx : (rA x).cells.length = 2 := rfl
 have ky : (rA y).cells.length = 2 := rfl
 refine of_24 rfl rfl rfl (by kernel_rfl) ?_
 simp (maxSteps := 500000) -implicitDefEqProofs only [go_sem, hx, hy, lx, ly, kx, ky]
 refine (rvalidC x h1 h2).use ?_
 have fin0 : validR x = false ∨ validR y = false → addR x y = ((0, 0), 2) := by
  intro h
  simp only [addR]
  rcases h with h | h <;> simp [h]
 cases hv : validR x with
 | false =>
  simp (maxSteps := 500000) -implicitDefEqProofs only [go_sem]
  refine vzt ?_
  simp (maxSteps := 500000) -implicitDefEqProofs only [go_sem]
  exact ⟨_, rfl, by rw [fin0 (.inl hv)]; rfl⟩
 | true =>
  simp (maxSteps := 500000) -implicitDefEqProofs only [go_sem, hx, hy, lx, ly, kx, ky]
  refine (rvalidC y h3 h4).use ?_
  cases hv2 : validR y with
  | false =>
   simp (maxSteps := 500000) -implicitDefEqProofs only [go_sem]
   refine vzt ?_
   simp (maxSteps := 500000) -implicitDefEqProofs only [go_sem]
   exact ⟨_, rfl, by rw [fin0 (.inr hv2)]; rfl⟩
  | true =>
   obtain ⟨a1, a2, a3, a4⟩ := validR_bounds hv
   obtain ⟨b1, b2, b3, b4⟩ := validR_bounds hv2
   have bd : ∀ p q : Int, -2147483647 ≤ p → p ≤ 2147483647 → 0 < q → q ≤ 2147483647 → -4611686014132420609 ≤ p * q ∧ p * q ≤ 4611686014132420609 := by
    intro p q g1 g2 g3 g4
    constructor
    ·have := Int.mul_le_mul_of_nonneg_right g1 (by omega : 0 ≤ q)
     omega
    ·have := Int.mul_le_mul_of_nonneg_right g2 (by omega : 0 ≤ q)
     omega
   obtain ⟨p1, p2⟩ := bd x.1 y.2 a3 a4 b1 b2
   obtain ⟨p3, p4⟩ := bd y.1 x.2 b3 b4 a1 a2
   obtain ⟨p5, p6⟩ := bd x.2 y.2 (by omega) a2 b1 b2
   have w1 : IntKind.i64.wrap (x.1 * y.2) = x.1 * y.2 := wrap64 (by omega) (by omega)
   have w2 : IntKind.i64.wrap (y.1 * x.2) = y.1 * x.2 := wrap64 (by omega) (by omega)
   have w3 : IntKind.i64.wrap (x.2 * y.2) = x.2 * y.2 := wrap64 (by omega) (by omega)
   have w4 : IntKind.i64.wrap (x.1 * y.2 + y.1 * x.2) = x.1 * y.2 + y.1 * x.2 := wrap64 (by omega) (by omega)
   simp (maxSteps := 500000) -implicitDefEqProofs only [go_sem]
   refine vzf ?_
   simp (maxSteps := 500000) -implicitDefEqProofs only [go_sem, rA, w1, w2, w3, w4]
   refine (rmakeC _ _ ⟨by omega, by omega⟩ ⟨by omega, by omega⟩).use ?_
   simp (maxSteps := 500000) -implicitDefEqProofs only [go_sem, rE, rA]
   refine ⟨_, rfl, ?_⟩
   simp only [addR, hv, hv2, Bool.and_self, if_true, rE, rA]
   try rfl
end Abs
namespace Abs
set_option linter.unusedSimpArgs false
set_option linter.unusedVariables false
set_option maxRecDepth 100000
set_option maxHeartbeats 2000000
open Go Go.Proofs
theorem makeR_ok {n d : Int} {r : Int × Int} (h : makeR n d = (r, 0)) : validR r = true := by
 unfold makeR at h
 split at h
 ·cases h
 ·rename_i hd
  simp only [] at h
  split at h
  ·cases h
  ·rename_i hh
   have hd0 : 0 < d.natAbs := by omega
   have hg : 0 < Nat.gcd n.natAbs d.natAbs := Nat.gcd_pos_of_pos_right _ hd0
   have hco := Nat.gcd_div_gcd_div_gcd_of_pos_right (n := n.natAbs) hd0
   have hb : 0 < d.natAbs / Nat.gcd n.natAbs d.natAbs := Nat.div_pos (Nat.le_of_dvd hd0 (Nat.gcd_dvd_right _ _)) hg
   generalize n.natAbs / Nat.gcd n.natAbs d.natAbs = a at *
   generalize d.natAbs / Nat.gcd n.natAbs d.natAbs = b at *
   simp only [Prod.mk.injEq, and_true] at h
   subst h
   have hab : ∀ x : Int, x.natAbs = a → validR (x, (b : Int)) = true := by
    intro x hx
    simp only [validR, hx, Int.natAbs_natCast, Bool.and_eq_true, decide_eq_true_eq]
    exact ⟨by omega, by omega, by omega, hco⟩
   apply hab
   split <;> omega
theorem addR_ok {x y r : Int × Int} (h : addR x y = (r, 0)) : validR r = true := by
 unfold addR at h
 split at h
 ·exact makeR_ok h
 ·cases h
end Abs
