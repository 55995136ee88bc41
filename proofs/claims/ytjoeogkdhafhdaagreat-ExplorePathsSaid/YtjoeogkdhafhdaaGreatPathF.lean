/-
  Facts of types and functions of the program, each one read off its tables.
-/
import Derived.Test.YtjoeogkdhafhdaaGreatProg
import Derived.Test.YtjoeogkdhafhdaaGreatAbsV7
import Derived.KernelRfl
namespace Abs
set_option linter.unusedSimpArgs false
set_option linter.unusedVariables false
set_option maxRecDepth 100000
open Go Go.Proofs
noncomputable def EE (w : World) : Env := Env.of Tryz.prog w
theorem ln_22 {w : World} {σ : AStore} {x : AVal} : opBi (EE w) .len [22] σ (some [x]) = .ofV σ (aLen (.slice 0) x σ) := bi_len (by kernel_rfl)
theorem is_3 {w : World} : (tyA (EE w) 3).isSome = true := by kernel_rfl
theorem fn_4 {w : World} : (EE w).fns 4 = true := by kernel_rfl
theorem zr_27 {w : World} : zeroD (EE w) 27 = some (.agg [(.sc (.slice none 0 0)), (.sc (.slice none 0 0)), (.sc (.bool false))]) := by kernel_rfl
theorem fa_27_0 {w : World} {lit : Bool} {ρ : ARho} {σ : AStore} {x : Operand} : aOp (EE w) lit (.fieldAddr 27 x 0) ρ σ = opFA σ (some (0, false, 1)) (ρ x) := op_fieldAddr (by kernel_rfl)
theorem ty_24 {w : World} : tyA (EE w) 24 = some (false, 1) := by kernel_rfl
theorem ia_22 {w : World} {lit : Bool} {ρ : ARho} {σ : AStore} {x y : Operand} : aOp (EE w) lit (.indexAddr 22 x y) ρ σ = opIA σ ⟨2, 16, (.agg [(.sc (.int Go.IntKind.i64 (0))), (.sc (.int Go.IntKind.i64 (0)))])⟩ (ρ x) (ρ y) := op_indexAddr (by kernel_rfl)
theorem fa_29_0 {w : World} {lit : Bool} {ρ : ARho} {σ : AStore} {x : Operand} : aOp (EE w) lit (.fieldAddr 29 x 0) ρ σ = opFA σ (some (0, false, 1)) (ρ x) := op_fieldAddr (by kernel_rfl)
theorem ty_3 {w : World} : tyA (EE w) 3 = some (false, 1) := by kernel_rfl
theorem fa_29_1 {w : World} {lit : Bool} {ρ : ARho} {σ : AStore} {x : Operand} : aOp (EE w) lit (.fieldAddr 29 x 1) ρ σ = opFA σ (some (1, false, 1)) (ρ x) := op_fieldAddr (by kernel_rfl)
theorem bd_40 {w : World} {lit : Bool} {ρ : ARho} {σ : AStore} {ps : Array (Nat × Operand)} : aOp (EE w) lit (.build 40 ps) ρ σ = opBuild σ (some ([(0, 4), (4, 1), (5, 1)], [(.sc (.slice none 0 0)), (.sc (.slice none 0 0)), (.sc (.int Go.IntKind.i64 (0))), (.sc (.slice none 0 0)), (.sc (.int Go.IntKind.i64 (0))), (.sc (.int Go.IntKind.i64 (0)))])) (partsSome ρ ps.toList) := op_build (by kernel_rfl)
theorem bs_24 {w : World} {lit : Bool} {ρ : ARho} {σ : AStore} {n : Nat} {ps : Array (Nat × Operand)} : aOp (EE w) lit (.buildSlice 24 n ps) ρ σ = opBuildSl σ lit ⟨6, 96, (.agg [(.sc (.slice none 0 0)), (.sc (.slice none 0 0)), (.sc (.int Go.IntKind.i64 (0))), (.sc (.slice none 0 0)), (.sc (.int Go.IntKind.i64 (0))), (.sc (.int Go.IntKind.i64 (0)))])⟩ n (partsSome ρ ps.toList) := op_buildSlice (by kernel_rfl)
theorem ap_24 {w : World} {σ : AStore} {a x : AVal} : opBi (EE w) .append [24, 24] σ (some [a, x]) = opApp σ ⟨6, 96, (.agg [(.sc (.slice none 0 0)), (.sc (.slice none 0 0)), (.sc (.int Go.IntKind.i64 (0))), (.sc (.slice none 0 0)), (.sc (.int Go.IntKind.i64 (0))), (.sc (.int Go.IntKind.i64 (0)))])⟩ a (aSrc 6 x σ) := bi_append (by kernel_rfl)
theorem ty_27 {w : World} : tyA (EE w) 27 = some (true, 3) := by kernel_rfl
theorem fn_5 {w : World} : (EE w).fns 5 = true := by kernel_rfl
theorem fn_6 {w : World} : (EE w).fns 6 = true := by kernel_rfl
theorem ln_30 {w : World} {σ : AStore} {x : AVal} : opBi (EE w) .len [30] σ (some [x]) = .ofV σ (aLen (.slice 0) x σ) := bi_len (by kernel_rfl)
theorem is_41 {w : World} : (tyA (EE w) 41).isSome = true := by kernel_rfl
theorem ia_30 {w : World} {lit : Bool} {ρ : ARho} {σ : AStore} {x y : Operand} : aOp (EE w) lit (.indexAddr 30 x y) ρ σ = opIA σ ⟨1, 8, (.sc (.int Go.IntKind.i64 (0)))⟩ (ρ x) (ρ y) := op_indexAddr (by kernel_rfl)
theorem ln_24 {w : World} {σ : AStore} {x : AVal} : opBi (EE w) .len [24] σ (some [x]) = .ofV σ (aLen (.slice 0) x σ) := bi_len (by kernel_rfl)
theorem ia_24 {w : World} {lit : Bool} {ρ : ARho} {σ : AStore} {x y : Operand} : aOp (EE w) lit (.indexAddr 24 x y) ρ σ = opIA σ ⟨6, 96, (.agg [(.sc (.slice none 0 0)), (.sc (.slice none 0 0)), (.sc (.int Go.IntKind.i64 (0))), (.sc (.slice none 0 0)), (.sc (.int Go.IntKind.i64 (0))), (.sc (.int Go.IntKind.i64 (0)))])⟩ (ρ x) (ρ y) := op_indexAddr (by kernel_rfl)
theorem ty_40 {w : World} : tyA (EE w) 40 = some (true, 6) := by kernel_rfl
theorem zr_40 {w : World} : zeroD (EE w) 40 = some (.agg [(.sc (.slice none 0 0)), (.sc (.slice none 0 0)), (.sc (.int Go.IntKind.i64 (0))), (.sc (.slice none 0 0)), (.sc (.int Go.IntKind.i64 (0))), (.sc (.int Go.IntKind.i64 (0)))]) := by kernel_rfl
theorem fa_40_1 {w : World} {lit : Bool} {ρ : ARho} {σ : AStore} {x : Operand} : aOp (EE w) lit (.fieldAddr 40 x 1) ρ σ = opFA σ (some (4, false, 1)) (ρ x) := op_fieldAddr (by kernel_rfl)
theorem fa_40_2 {w : World} {lit : Bool} {ρ : ARho} {σ : AStore} {x : Operand} : aOp (EE w) lit (.fieldAddr 40 x 2) ρ σ = opFA σ (some (5, false, 1)) (ρ x) := op_fieldAddr (by kernel_rfl)
theorem bs_30 {w : World} {lit : Bool} {ρ : ARho} {σ : AStore} {n : Nat} {ps : Array (Nat × Operand)} : aOp (EE w) lit (.buildSlice 30 n ps) ρ σ = opBuildSl σ lit ⟨1, 8, (.sc (.int Go.IntKind.i64 (0)))⟩ n (partsSome ρ ps.toList) := op_buildSlice (by kernel_rfl)
theorem ap_30 {w : World} {σ : AStore} {a x : AVal} : opBi (EE w) .append [30, 30] σ (some [a, x]) = opApp σ ⟨1, 8, (.sc (.int Go.IntKind.i64 (0)))⟩ a (aSrc 1 x σ) := bi_append (by kernel_rfl)
theorem ms_30 {w : World} {lit : Bool} {ρ : ARho} {σ : AStore} {x y : Operand} : aOp (EE w) lit (.makeSlice 30 x y) ρ σ = opMk σ ⟨1, 8, (.sc (.int Go.IntKind.i64 (0)))⟩ (ρ x) (ρ y) := op_makeSlice (by kernel_rfl)
attribute [go_sem] ln_22 is_3 fn_4 zr_27 fa_27_0 ty_24 ia_22 fa_29_0 ty_3 fa_29_1 bd_40 bs_24 ap_24 ty_27 fn_5 fn_6 ln_30 is_41 ia_30 ln_24 ia_24 ty_40 zr_40 fa_40_1 fa_40_2 bs_30 ap_30 ms_30
theorem of_3 {w : World} {args : List AVal} {σ : AStore} {R : AEnd → AStore → Prop} (hn : Nat.ble args.length 76 = true) (hl : Nat.blt args.length 1000 = true) {c : Code} (hc : Tryz.f3.body = some c) (hk : okC 76 c = true) (h : V (EE w) 76 c (vFin (EE w) [.tmp 4] R) (initE args 0) σ) : ACalls (EE w) 3 args σ R :=
  ACalls.of_V' (n := 76) rfl Tryz.f3 c _ Tryz.func3 hc (by kernel_rfl) (by kernel_rfl) hk hn hl h
theorem of_5 {w : World} {args : List AVal} {σ : AStore} {R : AEnd → AStore → Prop} (hn : Nat.ble args.length 93 = true) (hl : Nat.blt args.length 1000 = true) {c : Code} (hc : Tryz.f5.body = some c) (hk : okC 93 c = true) (h : V (EE w) 93 c (vFin (EE w) [.tmp 4, .tmp 5] R) (initE args 0) σ) : ACalls (EE w) 5 args σ R :=
  ACalls.of_V' (n := 93) rfl Tryz.f5 c _ Tryz.func5 hc (by kernel_rfl) (by kernel_rfl) hk hn hl h
theorem of_6 {w : World} {args : List AVal} {σ : AStore} {R : AEnd → AStore → Prop} (hn : Nat.ble args.length 72 = true) (hl : Nat.blt args.length 1000 = true) {c : Code} (hc : Tryz.f6.body = some c) (hk : okC 72 c = true) (h : V (EE w) 72 c (vFin (EE w) [.tmp 4, .tmp 5] R) (initE args 0) σ) : ACalls (EE w) 6 args σ R :=
  ACalls.of_V' (n := 72) rfl Tryz.f6 c _ Tryz.func6 hc (by kernel_rfl) (by kernel_rfl) hk hn hl h
end Abs
