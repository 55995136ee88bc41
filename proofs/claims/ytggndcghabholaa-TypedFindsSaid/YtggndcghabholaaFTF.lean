/-
  Functions of the program walked: each is shown to compute a plain function (TF).
-/
import Derived.Test.YtggndcghabholaaProg
import Derived.Test.YtggndcghabholaaFAbsMp
import Derived.KernelRfl
noncomputable section
namespace Abs
set_option linter.unusedSimpArgs false
set_option linter.unusedVariables false
set_option maxRecDepth 100000
set_option maxHeartbeats 16000000
open Go Go.Proofs
noncomputable def EE (w : WD) : Env := { Env.of Try.prog w.w with ds := w.ds }
section
variable {w : WD} {lit : Bool} {ρ : ARho} {σ : AStore} {args : List AVal} {R : AEnd → AStore → Prop}
theorem fn_6 : (EE w).fns 6 = true := by kernel_rfl
theorem ty_24 : tyA (EE w) 24 = some (true, 4) := by kernel_rfl
theorem fn_7 : (EE w).fns 7 = true := by kernel_rfl
theorem fn_8 : (EE w).fns 8 = true := by kernel_rfl
theorem bs_25 {n : Nat} {ps : Array (Nat × Operand)} : aOp (EE w) lit (.buildSlice 25 n ps) ρ σ = opBuildSl σ lit ⟨1, 16, (.sc (.string ⟨#[]⟩))⟩ n (partsSome ρ ps.toList) := op_buildSlice (by kernel_rfl)
theorem ap_25 {a x : AVal} : opBi (EE w) .append [25, 25] σ (some [a, x]) = opApp (EE w) 25 σ ⟨1, 16, (.sc (.string ⟨#[]⟩))⟩ a (aSrc 1 x σ) := bi_append (by kernel_rfl)
theorem fn_9 : (EE w).fns 9 = true := by kernel_rfl
theorem fn_10 : (EE w).fns 10 = true := by kernel_rfl
theorem is_30 : (tyA (EE w) 30).isSome = true := by kernel_rfl
theorem fn_11 : (EE w).fns 11 = true := by kernel_rfl
theorem fn_12 : (EE w).fns 12 = true := by kernel_rfl
theorem fn_13 : (EE w).fns 13 = true := by kernel_rfl
theorem fn_14 : (EE w).fns 14 = true := by kernel_rfl
theorem ty_38 : tyA (EE w) 38 = some (true, 3) := by kernel_rfl
theorem bs_26 {n : Nat} {ps : Array (Nat × Operand)} : aOp (EE w) lit (.buildSlice 26 n ps) ρ σ = opBuildSl σ lit ⟨3, 64, (.agg [(.sc (.string ⟨#[]⟩)), (.sc (.slice none 0 0)), (.sc (.slice none 0 0))])⟩ n (partsSome ρ ps.toList) := op_buildSlice (by kernel_rfl)
theorem fn_15 : (EE w).fns 15 = true := by kernel_rfl
theorem ln_26 {x : AVal} : opBi (EE w) .len [26] σ (some [x]) = .ofV σ (aLen (.slice 0) x σ) := bi_len (by kernel_rfl)
theorem ia_26 {x y : Operand} : aOp (EE w) lit (.indexAddr 26 x y) ρ σ = opIA σ ⟨3, 64, (.agg [(.sc (.string ⟨#[]⟩)), (.sc (.slice none 0 0)), (.sc (.slice none 0 0))])⟩ (ρ x) (ρ y) := op_indexAddr (by kernel_rfl)
theorem fa_38_2 {x : Operand} : aOp (EE w) lit (.fieldAddr 38 x 2) ρ σ = opFA σ (some (2, false, 1)) (ρ x) := op_fieldAddr (by kernel_rfl)
theorem ty_36 : tyA (EE w) 36 = some (false, 1) := by kernel_rfl
theorem sl_26 {x : Operand} {lo hi : Option Operand} : aOp (EE w) lit (.slice 26 x lo hi none) ρ σ = opSl σ ⟨3, 64, (.agg [(.sc (.string ⟨#[]⟩)), (.sc (.slice none 0 0)), (.sc (.slice none 0 0))])⟩ (ρ x) (optSome ρ lo) (optSome ρ hi) := op_slice (by kernel_rfl)
theorem ap_26 {a x : AVal} : opBi (EE w) .append [26, 26] σ (some [a, x]) = opApp (EE w) 26 σ ⟨3, 64, (.agg [(.sc (.string ⟨#[]⟩)), (.sc (.slice none 0 0)), (.sc (.slice none 0 0))])⟩ a (aSrc 3 x σ) := bi_append (by kernel_rfl)
theorem ln_25 {x : AVal} : opBi (EE w) .len [25] σ (some [x]) = .ofV σ (aLen (.slice 0) x σ) := bi_len (by kernel_rfl)
theorem ia_25 {x y : Operand} : aOp (EE w) lit (.indexAddr 25 x y) ρ σ = opIA σ ⟨1, 16, (.sc (.string ⟨#[]⟩))⟩ (ρ x) (ρ y) := op_indexAddr (by kernel_rfl)
theorem ty_9 : tyA (EE w) 9 = some (false, 1) := by kernel_rfl
theorem sl_25 {x : Operand} {lo hi : Option Operand} : aOp (EE w) lit (.slice 25 x lo hi none) ρ σ = opSl σ ⟨1, 16, (.sc (.string ⟨#[]⟩))⟩ (ρ x) (optSome ρ lo) (optSome ρ hi) := op_slice (by kernel_rfl)
theorem fn_20 : (EE w).fns 20 = true := by kernel_rfl
theorem fn_21 : (EE w).fns 21 = true := by kernel_rfl
theorem fa_38_0 {x : Operand} : aOp (EE w) lit (.fieldAddr 38 x 0) ρ σ = opFA σ (some (0, false, 1)) (ρ x) := op_fieldAddr (by kernel_rfl)
theorem fa_38_1 {x : Operand} : aOp (EE w) lit (.fieldAddr 38 x 1) ρ σ = opFA σ (some (1, false, 1)) (ρ x) := op_fieldAddr (by kernel_rfl)
theorem ty_25 : tyA (EE w) 25 = some (false, 1) := by kernel_rfl
theorem fn_22 : (EE w).fns 22 = true := by kernel_rfl
theorem bd_38 {ps : Array (Nat × Operand)} : aOp (EE w) lit (.build 38 ps) ρ σ = opBuild σ (some ([(0, 1), (1, 1), (2, 1)], [(.sc (.string ⟨#[]⟩)), (.sc (.slice none 0 0)), (.sc (.slice none 0 0))])) (partsSome ρ ps.toList) := op_build (by kernel_rfl)
theorem fn_23 : (EE w).fns 23 = true := by kernel_rfl
theorem fn_24 : (EE w).fns 24 = true := by kernel_rfl
theorem fn_25 : (EE w).fns 25 = true := by kernel_rfl
theorem fn_26 : (EE w).fns 26 = true := by kernel_rfl
theorem fn_27 : (EE w).fns 27 = true := by kernel_rfl
theorem fn_28 : (EE w).fns 28 = true := by kernel_rfl
theorem bd_56 {ps : Array (Nat × Operand)} : aOp (EE w) lit (.build 56 ps) ρ σ = opBuild σ (some ([(0, 1), (1, 1), (2, 1)], [(.sc (.slice none 0 0)), (.sc (.slice none 0 0)), (.sc (.slice none 0 0))])) (partsSome ρ ps.toList) := op_build (by kernel_rfl)
theorem fn_29 : (EE w).fns 29 = true := by kernel_rfl
theorem fn_30 : (EE w).fns 30 = true := by kernel_rfl
theorem fn_31 : (EE w).fns 31 = true := by kernel_rfl
theorem ln_9 {x : AVal} : opBi (EE w) .len [9] σ (some [x]) = .ofV σ (aLen .string x σ) := bi_lenS (by kernel_rfl)
theorem fn_32 : (EE w).fns 32 = true := by kernel_rfl
theorem ln_36 {x : AVal} : opBi (EE w) .len [36] σ (some [x]) = .ofV σ (aLen (.slice 0) x σ) := bi_len (by kernel_rfl)
theorem ia_36 {x y : Operand} : aOp (EE w) lit (.indexAddr 36 x y) ρ σ = opIA σ ⟨8, 128, (.agg [(.sc (.int Go.IntKind.i64 (0))), (.sc (.string ⟨#[]⟩)), (.sc (.int Go.IntKind.i64 (0))), (.sc (.string ⟨#[]⟩)), (.sc (.int Go.IntKind.i64 (0))), (.sc (.slice none 0 0)), (.sc (.slice none 0 0)), (.sc (.slice none 0 0))])⟩ (ρ x) (ρ y) := op_indexAddr (by kernel_rfl)
theorem fa_61_2 {x : Operand} : aOp (EE w) lit (.fieldAddr 61 x 2) ρ σ = opFA σ (some (2, true, 4)) (ρ x) := op_fieldAddr (by kernel_rfl)
theorem fa_61_3 {x : Operand} : aOp (EE w) lit (.fieldAddr 61 x 3) ρ σ = opFA σ (some (6, false, 1)) (ρ x) := op_fieldAddr (by kernel_rfl)
theorem fa_61_4 {x : Operand} : aOp (EE w) lit (.fieldAddr 61 x 4) ρ σ = opFA σ (some (7, false, 1)) (ρ x) := op_fieldAddr (by kernel_rfl)
theorem fn_34 : (EE w).fns 34 = true := by kernel_rfl
theorem fn_40 : (EE w).fns 40 = true := by kernel_rfl
theorem ty_61 : tyA (EE w) 61 = some (true, 8) := by kernel_rfl
theorem zr_61 : zeroD (EE w) 61 = some (.agg [(.sc (.int Go.IntKind.i64 (0))), (.sc (.string ⟨#[]⟩)), (.sc (.int Go.IntKind.i64 (0))), (.sc (.string ⟨#[]⟩)), (.sc (.int Go.IntKind.i64 (0))), (.sc (.slice none 0 0)), (.sc (.slice none 0 0)), (.sc (.slice none 0 0))]) := by kernel_rfl
theorem fn_41 : (EE w).fns 41 = true := by kernel_rfl
theorem bs_36 {n : Nat} {ps : Array (Nat × Operand)} : aOp (EE w) lit (.buildSlice 36 n ps) ρ σ = opBuildSl σ lit ⟨8, 128, (.agg [(.sc (.int Go.IntKind.i64 (0))), (.sc (.string ⟨#[]⟩)), (.sc (.int Go.IntKind.i64 (0))), (.sc (.string ⟨#[]⟩)), (.sc (.int Go.IntKind.i64 (0))), (.sc (.slice none 0 0)), (.sc (.slice none 0 0)), (.sc (.slice none 0 0))])⟩ n (partsSome ρ ps.toList) := op_buildSlice (by kernel_rfl)
theorem ap_36 {a x : AVal} : opBi (EE w) .append [36, 36] σ (some [a, x]) = opApp (EE w) 36 σ ⟨8, 128, (.agg [(.sc (.int Go.IntKind.i64 (0))), (.sc (.string ⟨#[]⟩)), (.sc (.int Go.IntKind.i64 (0))), (.sc (.string ⟨#[]⟩)), (.sc (.int Go.IntKind.i64 (0))), (.sc (.slice none 0 0)), (.sc (.slice none 0 0)), (.sc (.slice none 0 0))])⟩ a (aSrc 8 x σ) := bi_append (by kernel_rfl)
theorem fn_42 : (EE w).fns 42 = true := by kernel_rfl
theorem fn_43 : (EE w).fns 43 = true := by kernel_rfl
theorem zr_38 : zeroD (EE w) 38 = some (.agg [(.sc (.string ⟨#[]⟩)), (.sc (.slice none 0 0)), (.sc (.slice none 0 0))]) := by kernel_rfl
theorem fn_44 : (EE w).fns 44 = true := by kernel_rfl
theorem fa_82_1 {x : Operand} : aOp (EE w) lit (.fieldAddr 82 x 1) ρ σ = opFA σ (some (1, false, 1)) (ρ x) := op_fieldAddr (by kernel_rfl)
theorem ty_80 : tyA (EE w) 80 = some (false, 1) := by kernel_rfl
theorem mu_80 {m k x : Operand} : aOp (EE w) lit (.mapUpdate 80 m k x) ρ σ = opMs σ .string (ρ m) (ρ k) (ρ x) := op_mapUpdate (z := .int Go.IntKind.i64 (0)) (by kernel_rfl)
theorem fn_45 : (EE w).fns 45 = true := by kernel_rfl
theorem fn_46 : (EE w).fns 46 = true := by kernel_rfl
theorem fn_47 : (EE w).fns 47 = true := by kernel_rfl
theorem fn_48 : (EE w).fns 48 = true := by kernel_rfl
theorem fn_49 : (EE w).fns 49 = true := by kernel_rfl
theorem fn_50 : (EE w).fns 50 = true := by kernel_rfl
theorem fn_51 : (EE w).fns 51 = true := by kernel_rfl
theorem fn_52 : (EE w).fns 52 = true := by kernel_rfl
theorem fa_24_3 {x : Operand} : aOp (EE w) lit (.fieldAddr 24 x 3) ρ σ = opFA σ (some (3, false, 1)) (ρ x) := op_fieldAddr (by kernel_rfl)
theorem ty_22 : tyA (EE w) 22 = some (false, 1) := by kernel_rfl
theorem ln_22 {x : AVal} : opBi (EE w) .len [22] σ (some [x]) = .ofV σ (aLen (.slice 0) x σ) := bi_len (by kernel_rfl)
theorem ia_22 {x y : Operand} : aOp (EE w) lit (.indexAddr 22 x y) ρ σ = opIA σ ⟨4, 56, (.agg [(.sc (.int Go.IntKind.i64 (0))), (.sc (.string ⟨#[]⟩)), (.sc (.int Go.IntKind.i64 (0))), (.sc (.slice none 0 0))])⟩ (ρ x) (ρ y) := op_indexAddr (by kernel_rfl)
theorem zr_24 : zeroD (EE w) 24 = some (.agg [(.sc (.int Go.IntKind.i64 (0))), (.sc (.string ⟨#[]⟩)), (.sc (.int Go.IntKind.i64 (0))), (.sc (.slice none 0 0))]) := by kernel_rfl
theorem fa_24_0 {x : Operand} : aOp (EE w) lit (.fieldAddr 24 x 0) ρ σ = opFA σ (some (0, false, 1)) (ρ x) := op_fieldAddr (by kernel_rfl)
theorem ty_3 : tyA (EE w) 3 = some (false, 1) := by kernel_rfl
theorem fa_82_0 {x : Operand} : aOp (EE w) lit (.fieldAddr 82 x 0) ρ σ = opFA σ (some (0, false, 1)) (ρ x) := op_fieldAddr (by kernel_rfl)
theorem ty_79 : tyA (EE w) 79 = some (false, 1) := by kernel_rfl
theorem fa_24_1 {x : Operand} : aOp (EE w) lit (.fieldAddr 24 x 1) ρ σ = opFA σ (some (1, false, 1)) (ρ x) := op_fieldAddr (by kernel_rfl)
theorem lk_79 {x k : Operand} {ok : Bool} : aOp (EE w) lit (.lookup 79 x k ok) ρ σ = opLk σ .string (.bool false) ok (ρ x) (ρ k) := op_lookup (by kernel_rfl)
theorem lk_80 {x k : Operand} {ok : Bool} : aOp (EE w) lit (.lookup 80 x k ok) ρ σ = opLk σ .string (.int Go.IntKind.i64 (0)) ok (ρ x) (ρ k) := op_lookup (by kernel_rfl)
theorem fn_53 : (EE w).fns 53 = true := by kernel_rfl
theorem fn_39 : (EE w).fns 39 = true := by kernel_rfl
theorem ty_56 : tyA (EE w) 56 = some (true, 3) := by kernel_rfl
theorem fa_56_0 {x : Operand} : aOp (EE w) lit (.fieldAddr 56 x 0) ρ σ = opFA σ (some (0, false, 1)) (ρ x) := op_fieldAddr (by kernel_rfl)
theorem fa_56_1 {x : Operand} : aOp (EE w) lit (.fieldAddr 56 x 1) ρ σ = opFA σ (some (1, false, 1)) (ρ x) := op_fieldAddr (by kernel_rfl)
theorem fa_56_2 {x : Operand} : aOp (EE w) lit (.fieldAddr 56 x 2) ρ σ = opFA σ (some (2, false, 1)) (ρ x) := op_fieldAddr (by kernel_rfl)
theorem ty_26 : tyA (EE w) 26 = some (false, 1) := by kernel_rfl
theorem fa_61_0 {x : Operand} : aOp (EE w) lit (.fieldAddr 61 x 0) ρ σ = opFA σ (some (0, false, 1)) (ρ x) := op_fieldAddr (by kernel_rfl)
theorem fa_61_1 {x : Operand} : aOp (EE w) lit (.fieldAddr 61 x 1) ρ σ = opFA σ (some (1, false, 1)) (ρ x) := op_fieldAddr (by kernel_rfl)
theorem fn_54 : (EE w).fns 54 = true := by kernel_rfl
theorem fn_62 : (EE w).fns 62 = true := by kernel_rfl
theorem bs_22 {n : Nat} {ps : Array (Nat × Operand)} : aOp (EE w) lit (.buildSlice 22 n ps) ρ σ = opBuildSl σ lit ⟨4, 56, (.agg [(.sc (.int Go.IntKind.i64 (0))), (.sc (.string ⟨#[]⟩)), (.sc (.int Go.IntKind.i64 (0))), (.sc (.slice none 0 0))])⟩ n (partsSome ρ ps.toList) := op_buildSlice (by kernel_rfl)
theorem ap_22 {a x : AVal} : opBi (EE w) .append [22, 22] σ (some [a, x]) = opApp (EE w) 22 σ ⟨4, 56, (.agg [(.sc (.int Go.IntKind.i64 (0))), (.sc (.string ⟨#[]⟩)), (.sc (.int Go.IntKind.i64 (0))), (.sc (.slice none 0 0))])⟩ a (aSrc 4 x σ) := bi_append (by kernel_rfl)
theorem fn_63 : (EE w).fns 63 = true := by kernel_rfl
theorem fn_64 : (EE w).fns 64 = true := by kernel_rfl
theorem fn_66 : (EE w).fns 66 = true := by kernel_rfl
theorem fn_69 : (EE w).fns 69 = true := by kernel_rfl
theorem bd_82 {ps : Array (Nat × Operand)} : aOp (EE w) lit (.build 82 ps) ρ σ = opBuild σ (some ([(0, 1), (1, 1)], [(.sc (.map none)), (.sc (.map none))])) (partsSome ρ ps.toList) := op_build (by kernel_rfl)
theorem mu_79 {m k x : Operand} : aOp (EE w) lit (.mapUpdate 79 m k x) ρ σ = opMs σ .string (ρ m) (ρ k) (ρ x) := op_mapUpdate (z := .bool false) (by kernel_rfl)
theorem ty_49 : tyA (EE w) 49 = some (false, 1) := by kernel_rfl
theorem fn_71 : (EE w).fns 71 = true := by kernel_rfl
theorem fn_72 : (EE w).fns 72 = true := by kernel_rfl
theorem ixs_9 {x y : Operand} : aOp (EE w) lit (.index 9 x y) ρ σ = opIS σ (ρ x) (ρ y) := op_index_str (by kernel_rfl)
theorem fn_56 : (EE w).fns 56 = true := by kernel_rfl
theorem fn_73 : (EE w).fns 73 = true := by kernel_rfl
theorem fn_57 : (EE w).fns 57 = true := by kernel_rfl
theorem fn_74 : (EE w).fns 74 = true := by kernel_rfl
theorem fn_75 : (EE w).fns 75 = true := by kernel_rfl
theorem fa_24_2 {x : Operand} : aOp (EE w) lit (.fieldAddr 24 x 2) ρ σ = opFA σ (some (2, false, 1)) (ρ x) := op_fieldAddr (by kernel_rfl)
theorem ty_2 : tyA (EE w) 2 = some (false, 1) := by kernel_rfl
theorem fn_76 : (EE w).fns 76 = true := by kernel_rfl
theorem zr_88 : zeroD (EE w) 88 = some (.agg [(.sc (.int Go.IntKind.i64 (0))), (.sc (.int Go.IntKind.i64 (0))), (.sc (.bool false))]) := by kernel_rfl
theorem bd_88 {ps : Array (Nat × Operand)} : aOp (EE w) lit (.build 88 ps) ρ σ = opBuild σ (some ([(0, 1), (1, 1), (2, 1)], [(.sc (.int Go.IntKind.i64 (0))), (.sc (.int Go.IntKind.i64 (0))), (.sc (.bool false))])) (partsSome ρ ps.toList) := op_build (by kernel_rfl)
theorem ty_88 : tyA (EE w) 88 = some (true, 3) := by kernel_rfl
theorem fn_78 : (EE w).fns 78 = true := by kernel_rfl
theorem fa_88_0 {x : Operand} : aOp (EE w) lit (.fieldAddr 88 x 0) ρ σ = opFA σ (some (0, false, 1)) (ρ x) := op_fieldAddr (by kernel_rfl)
theorem fa_88_1 {x : Operand} : aOp (EE w) lit (.fieldAddr 88 x 1) ρ σ = opFA σ (some (1, false, 1)) (ρ x) := op_fieldAddr (by kernel_rfl)
theorem fa_88_2 {x : Operand} : aOp (EE w) lit (.fieldAddr 88 x 2) ρ σ = opFA σ (some (2, false, 1)) (ρ x) := op_fieldAddr (by kernel_rfl)
theorem ty_4 : tyA (EE w) 4 = some (false, 1) := by kernel_rfl
theorem fn_79 : (EE w).fns 79 = true := by kernel_rfl
theorem fn_86 : (EE w).fns 86 = true := by kernel_rfl
theorem fn_88 : (EE w).fns 88 = true := by kernel_rfl
theorem fn_87 : (EE w).fns 87 = true := by kernel_rfl
theorem cvb_9_112 : bytesD (EE w) 9 112 = true := by kernel_rfl
theorem cvg_9_112 {x : Operand} : aOp (EE w) lit (.convert 9 112 x) ρ σ = opCvG (EE w) 9 112 σ (ρ x) := op_convG
theorem ln_112 {x : AVal} : opBi (EE w) .len [112] σ (some [x]) = .ofV σ (aLen (.slice 0) x σ) := bi_len (by kernel_rfl)
theorem ia_112 {x y : Operand} : aOp (EE w) lit (.indexAddr 112 x y) ρ σ = opIA σ ⟨1, 1, (.sc (.int Go.IntKind.u8 (0)))⟩ (ρ x) (ρ y) := op_indexAddr (by kernel_rfl)
theorem ty_5 : tyA (EE w) 5 = some (false, 1) := by kernel_rfl
theorem fn_89 : (EE w).fns 89 = true := by kernel_rfl
theorem fn_90 : (EE w).fns 90 = true := by kernel_rfl
theorem fn_91 : (EE w).fns 91 = true := by kernel_rfl
theorem fn_68 : (EE w).fns 68 = true := by kernel_rfl
theorem fn_93 : (EE w).fns 93 = true := by kernel_rfl
theorem rg_79 {x : Operand} : aOp (EE w) lit (.range 79 x) ρ σ = opRgM σ (ρ x) := op_rangeM (by kernel_rfl)
theorem de_79_9 {m k : AVal} : opBi (EE w) .delete [79, 9] σ (some [m, k]) = ofD (aMapDel .string m k σ) := bi_delete (z := .bool false) (by kernel_rfl)
theorem zr_25 : zeroD (EE w) 25 = some (.sc (.slice none 0 0)) := by kernel_rfl
theorem bs_116 {n : Nat} {ps : Array (Nat × Operand)} : aOp (EE w) lit (.buildSlice 116 n ps) ρ σ = opBuildSl σ lit ⟨1, 24, (.sc (.slice none 0 0))⟩ n (partsSome ρ ps.toList) := op_buildSlice (by kernel_rfl)
theorem ln_116 {x : AVal} : opBi (EE w) .len [116] σ (some [x]) = .ofV σ (aLen (.slice 0) x σ) := bi_len (by kernel_rfl)
theorem ia_116 {x y : Operand} : aOp (EE w) lit (.indexAddr 116 x y) ρ σ = opIA σ ⟨1, 24, (.sc (.slice none 0 0))⟩ (ρ x) (ρ y) := op_indexAddr (by kernel_rfl)
theorem fn_95 : (EE w).fns 95 = true := by kernel_rfl
theorem ixa_117 {x y : Operand} : aOp (EE w) lit (.index 117 x y) ρ σ = opIxA σ (6, false, 1) (ρ x) (ρ y) := op_index_arr (by kernel_rfl)
theorem rg_80 {x : Operand} : aOp (EE w) lit (.range 80 x) ρ σ = opRgM σ (ρ x) := op_rangeM (by kernel_rfl)
theorem fn_96 : (EE w).fns 96 = true := by kernel_rfl
theorem fn_102 : (EE w).fns 102 = true := by kernel_rfl
theorem zr_117 : zeroD (EE w) 117 = some (.agg [(.sc (.map none)), (.sc (.map none)), (.sc (.map none)), (.sc (.map none)), (.sc (.map none)), (.sc (.map none))]) := by kernel_rfl
theorem mi_80 {m k x : Operand} : aOp (EE w) lit (.insert 80 m k x) ρ σ = opMs σ .string (ρ m) (ρ k) (ρ x) := op_insert (z := .int Go.IntKind.i64 (0)) (by kernel_rfl)
theorem ba_117 {ps : Array (Nat × Operand)} : aOp (EE w) lit (.build 117 ps) ρ σ = opBuildA σ (1, .agg #[.map none, .map none, .map none, .map none, .map none, .map none]) (partsSome ρ ps.toList) := op_buildA (by kernel_rfl)
theorem ty_117 : tyA (EE w) 117 = some (true, 6) := by kernel_rfl
attribute [go_sem] fn_6 ty_24 fn_7 fn_8 bs_25 ap_25 fn_9 fn_10 is_30 fn_11 fn_12 fn_13 fn_14 ty_38 bs_26 fn_15 ln_26 ia_26 fa_38_2 ty_36 sl_26 ap_26 ln_25 ia_25 ty_9 sl_25 fn_20 fn_21 fa_38_0 fa_38_1 ty_25 fn_22 bd_38 fn_23 fn_24 fn_25 fn_26 fn_27 fn_28 bd_56 fn_29 fn_30 fn_31 ln_9 fn_32 ln_36 ia_36 fa_61_2 fa_61_3 fa_61_4 fn_34 fn_40 ty_61 zr_61 fn_41 bs_36 ap_36 fn_42 fn_43 zr_38 fn_44 fa_82_1 ty_80 mu_80 fn_45 fn_46 fn_47 fn_48 fn_49 fn_50 fn_51 fn_52 fa_24_3 ty_22 ln_22 ia_22 zr_24 fa_24_0 ty_3 fa_82_0 ty_79 fa_24_1 lk_79 lk_80 fn_53 fn_39 ty_56 fa_56_0 fa_56_1 fa_56_2 ty_26 fa_61_0 fa_61_1 fn_54 fn_62 bs_22 ap_22 fn_63 fn_64 fn_66 fn_69 bd_82 mu_79 ty_49 fn_71 fn_72 ixs_9 fn_56 fn_73 fn_57 fn_74 fn_75 fa_24_2 ty_2 fn_76 zr_88 bd_88 ty_88 fn_78 fa_88_0 fa_88_1 fa_88_2 ty_4 fn_79 fn_86 fn_88 fn_87 cvb_9_112 cvg_9_112 ln_112 ia_112 ty_5 fn_89 fn_90 fn_91 fn_68 fn_93 rg_79 de_79_9 zr_25 bs_116 ln_116 ia_116 fn_95 ixa_117 rg_80 fn_96 fn_102 zr_117 mi_80 ba_117 ty_117
theorem of_3 (hn : Nat.ble args.length 65 = true) (hl : Nat.blt args.length 1000 = true) {c : Code} (hc : Try.f3.body = some c) (hk : okC 65 c = true) (h : V (EE ⟨w.w, []⟩) 65 c (vFin (EE ⟨w.w, []⟩) [.tmp 6] R) (initE args 0) σ) : ACalls (EE w) 3 args σ R :=
 ACalls.of_V' (E := EE w) (E' := EE ⟨w.w, []⟩) (n := 65) rfl rfl Try.f3 c _ Try.func3 hc (by kernel_rfl) (by kernel_rfl) hk hn hl h
theorem of_7 (hn : Nat.ble args.length 17 = true) (hl : Nat.blt args.length 1000 = true) {c : Code} (hc : Try.f7.body = some c) (hk : okC 17 c = true) (h : V (EE ⟨w.w, []⟩) 17 c (vFin (EE ⟨w.w, []⟩) [.tmp 6] R) (initE args 0) σ) : ACalls (EE w) 7 args σ R :=
 ACalls.of_V' (E := EE w) (E' := EE ⟨w.w, []⟩) (n := 17) rfl rfl Try.f7 c _ Try.func7 hc (by kernel_rfl) (by kernel_rfl) hk hn hl h
theorem of_8 (hn : Nat.ble args.length 34 = true) (hl : Nat.blt args.length 1000 = true) {c : Code} (hc : Try.f8.body = some c) (hk : okC 34 c = true) (h : V (EE ⟨w.w, []⟩) 34 c (vFin (EE ⟨w.w, []⟩) [.tmp 2] R) (initE args 0) σ) : ACalls (EE w) 8 args σ R :=
 ACalls.of_V' (E := EE w) (E' := EE ⟨w.w, []⟩) (n := 34) rfl rfl Try.f8 c _ Try.func8 hc (by kernel_rfl) (by kernel_rfl) hk hn hl h
theorem of_9 (hn : Nat.ble args.length 18 = true) (hl : Nat.blt args.length 1000 = true) {c : Code} (hc : Try.f9.body = some c) (hk : okC 18 c = true) (h : V (EE ⟨w.w, []⟩) 18 c (vFin (EE ⟨w.w, []⟩) [.tmp 4, .tmp 5] R) (initE args 0) σ) : ACalls (EE w) 9 args σ R :=
 ACalls.of_V' (E := EE w) (E' := EE ⟨w.w, []⟩) (n := 18) rfl rfl Try.f9 c _ Try.func9 hc (by kernel_rfl) (by kernel_rfl) hk hn hl h
theorem of_10 (hn : Nat.ble args.length 28 = true) (hl : Nat.blt args.length 1000 = true) {c : Code} (hc : Try.f10.body = some c) (hk : okC 28 c = true) (h : V (EE ⟨w.w, []⟩) 28 c (vFin (EE ⟨w.w, []⟩) [.tmp 4, .tmp 5] R) (initE args 0) σ) : ACalls (EE w) 10 args σ R :=
 ACalls.of_V' (E := EE w) (E' := EE ⟨w.w, []⟩) (n := 28) rfl rfl Try.f10 c _ Try.func10 hc (by kernel_rfl) (by kernel_rfl) hk hn hl h
theorem of_11 (hn : Nat.ble args.length 29 = true) (hl : Nat.blt args.length 1000 = true) {c : Code} (hc : Try.f11.body = some c) (hk : okC 29 c = true) (h : V (EE ⟨w.w, []⟩) 29 c (vFin (EE ⟨w.w, []⟩) [.tmp 6] R) (initE args 0) σ) : ACalls (EE w) 11 args σ R :=
 ACalls.of_V' (E := EE w) (E' := EE ⟨w.w, []⟩) (n := 29) rfl rfl Try.f11 c _ Try.func11 hc (by kernel_rfl) (by kernel_rfl) hk hn hl h
theorem of_12 (hn : Nat.ble args.length 27 = true) (hl : Nat.blt args.length 1000 = true) {c : Code} (hc : Try.f12.body = some c) (hk : okC 27 c = true) (h : V (EE ⟨w.w, []⟩) 27 c (vFin (EE ⟨w.w, []⟩) [.tmp 6] R) (initE args 0) σ) : ACalls (EE w) 12 args σ R :=
 ACalls.of_V' (E := EE w) (E' := EE ⟨w.w, []⟩) (n := 27) rfl rfl Try.f12 c _ Try.func12 hc (by kernel_rfl) (by kernel_rfl) hk hn hl h
theorem of_13 (hn : Nat.ble args.length 62 = true) (hl : Nat.blt args.length 1000 = true) {c : Code} (hc : Try.f13.body = some c) (hk : okC 62 c = true) (h : V (EE ⟨w.w, []⟩) 62 c (vFin (EE ⟨w.w, []⟩) [.tmp 4] R) (initE args 0) σ) : ACalls (EE w) 13 args σ R :=
 ACalls.of_V' (E := EE w) (E' := EE ⟨w.w, []⟩) (n := 62) rfl rfl Try.f13 c _ Try.func13 hc (by kernel_rfl) (by kernel_rfl) hk hn hl h
theorem of_14 (hn : Nat.ble args.length 26 = true) (hl : Nat.blt args.length 1000 = true) {c : Code} (hc : Try.f14.body = some c) (hk : okC 26 c = true) (h : V (EE ⟨w.w, []⟩) 26 c (vFin (EE ⟨w.w, []⟩) [.tmp 4] R) (initE args 0) σ) : ACalls (EE w) 14 args σ R :=
 ACalls.of_V' (E := EE w) (E' := EE ⟨w.w, []⟩) (n := 26) rfl rfl Try.f14 c _ Try.func14 hc (by kernel_rfl) (by kernel_rfl) hk hn hl h
theorem of_15 (hn : Nat.ble args.length 42 = true) (hl : Nat.blt args.length 1000 = true) {c : Code} (hc : Try.f15.body = some c) (hk : okC 42 c = true) (h : V (EE ⟨w.w, []⟩) 42 c (vFin (EE ⟨w.w, []⟩) [.tmp 4] R) (initE args 0) σ) : ACalls (EE w) 15 args σ R :=
 ACalls.of_V' (E := EE w) (E' := EE ⟨w.w, []⟩) (n := 42) rfl rfl Try.f15 c _ Try.func15 hc (by kernel_rfl) (by kernel_rfl) hk hn hl h
theorem of_20 (hn : Nat.ble args.length 9 = true) (hl : Nat.blt args.length 1000 = true) {c : Code} (hc : Try.f20.body = some c) (hk : okC 9 c = true) (h : V (EE ⟨w.w, []⟩) 9 c (vFin (EE ⟨w.w, []⟩) [.tmp 4] R) (initE args 0) σ) : ACalls (EE w) 20 args σ R :=
 ACalls.of_V' (E := EE w) (E' := EE ⟨w.w, []⟩) (n := 9) rfl rfl Try.f20 c _ Try.func20 hc (by kernel_rfl) (by kernel_rfl) hk hn hl h
theorem of_21 (hn : Nat.ble args.length 34 = true) (hl : Nat.blt args.length 1000 = true) {c : Code} (hc : Try.f21.body = some c) (hk : okC 34 c = true) (h : V (EE ⟨w.w, []⟩) 34 c (vFin (EE ⟨w.w, []⟩) [.tmp 4] R) (initE args 0) σ) : ACalls (EE w) 21 args σ R :=
 ACalls.of_V' (E := EE w) (E' := EE ⟨w.w, []⟩) (n := 34) rfl rfl Try.f21 c _ Try.func21 hc (by kernel_rfl) (by kernel_rfl) hk hn hl h
theorem of_22 (hn : Nat.ble args.length 33 = true) (hl : Nat.blt args.length 1000 = true) {c : Code} (hc : Try.f22.body = some c) (hk : okC 33 c = true) (h : V (EE ⟨w.w, []⟩) 33 c (vFin (EE ⟨w.w, []⟩) [.tmp 2] R) (initE args 0) σ) : ACalls (EE w) 22 args σ R :=
 ACalls.of_V' (E := EE w) (E' := EE ⟨w.w, []⟩) (n := 33) rfl rfl Try.f22 c _ Try.func22 hc (by kernel_rfl) (by kernel_rfl) hk hn hl h
theorem of_23 (hn : Nat.ble args.length 44 = true) (hl : Nat.blt args.length 1000 = true) {c : Code} (hc : Try.f23.body = some c) (hk : okC 44 c = true) (h : V (EE ⟨w.w, []⟩) 44 c (vFin (EE ⟨w.w, []⟩) [.tmp 4, .tmp 5, .tmp 6] R) (initE args 0) σ) : ACalls (EE w) 23 args σ R :=
 ACalls.of_V' (E := EE w) (E' := EE ⟨w.w, []⟩) (n := 44) rfl rfl Try.f23 c _ Try.func23 hc (by kernel_rfl) (by kernel_rfl) hk hn hl h
theorem of_24 (hn : Nat.ble args.length 50 = true) (hl : Nat.blt args.length 1000 = true) {c : Code} (hc : Try.f24.body = some c) (hk : okC 50 c = true) (h : V (EE ⟨w.w, []⟩) 50 c (vFin (EE ⟨w.w, []⟩) [.tmp 2] R) (initE args 0) σ) : ACalls (EE w) 24 args σ R :=
 ACalls.of_V' (E := EE w) (E' := EE ⟨w.w, []⟩) (n := 50) rfl rfl Try.f24 c _ Try.func24 hc (by kernel_rfl) (by kernel_rfl) hk hn hl h
theorem of_25 (hn : Nat.ble args.length 75 = true) (hl : Nat.blt args.length 1000 = true) {c : Code} (hc : Try.f25.body = some c) (hk : okC 75 c = true) (h : V (EE ⟨w.w, []⟩) 75 c (vFin (EE ⟨w.w, []⟩) [.tmp 6] R) (initE args 0) σ) : ACalls (EE w) 25 args σ R :=
 ACalls.of_V' (E := EE w) (E' := EE ⟨w.w, []⟩) (n := 75) rfl rfl Try.f25 c _ Try.func25 hc (by kernel_rfl) (by kernel_rfl) hk hn hl h
theorem of_26 (hn : Nat.ble args.length 10 = true) (hl : Nat.blt args.length 1000 = true) {c : Code} (hc : Try.f26.body = some c) (hk : okC 10 c = true) (h : V (EE ⟨w.w, []⟩) 10 c (vFin (EE ⟨w.w, []⟩) [.tmp 2] R) (initE args 0) σ) : ACalls (EE w) 26 args σ R :=
 ACalls.of_V' (E := EE w) (E' := EE ⟨w.w, []⟩) (n := 10) rfl rfl Try.f26 c _ Try.func26 hc (by kernel_rfl) (by kernel_rfl) hk hn hl h
theorem of_27 (hn : Nat.ble args.length 61 = true) (hl : Nat.blt args.length 1000 = true) {c : Code} (hc : Try.f27.body = some c) (hk : okC 61 c = true) (h : V (EE ⟨w.w, []⟩) 61 c (vFin (EE ⟨w.w, []⟩) [.tmp 4] R) (initE args 0) σ) : ACalls (EE w) 27 args σ R :=
 ACalls.of_V' (E := EE w) (E' := EE ⟨w.w, []⟩) (n := 61) rfl rfl Try.f27 c _ Try.func27 hc (by kernel_rfl) (by kernel_rfl) hk hn hl h
theorem of_28 (hn : Nat.ble args.length 9 = true) (hl : Nat.blt args.length 1000 = true) {c : Code} (hc : Try.f28.body = some c) (hk : okC 9 c = true) (h : V (EE ⟨w.w, []⟩) 9 c (vFin (EE ⟨w.w, []⟩) [.tmp 2] R) (initE args 0) σ) : ACalls (EE w) 28 args σ R :=
 ACalls.of_V' (E := EE w) (E' := EE ⟨w.w, []⟩) (n := 9) rfl rfl Try.f28 c _ Try.func28 hc (by kernel_rfl) (by kernel_rfl) hk hn hl h
theorem of_29 (hn : Nat.ble args.length 74 = true) (hl : Nat.blt args.length 1000 = true) {c : Code} (hc : Try.f29.body = some c) (hk : okC 74 c = true) (h : V (EE ⟨w.w, []⟩) 74 c (vFin (EE ⟨w.w, []⟩) [.tmp 4] R) (initE args 0) σ) : ACalls (EE w) 29 args σ R :=
 ACalls.of_V' (E := EE w) (E' := EE ⟨w.w, []⟩) (n := 74) rfl rfl Try.f29 c _ Try.func29 hc (by kernel_rfl) (by kernel_rfl) hk hn hl h
theorem of_30 (hn : Nat.ble args.length 32 = true) (hl : Nat.blt args.length 1000 = true) {c : Code} (hc : Try.f30.body = some c) (hk : okC 32 c = true) (h : V (EE ⟨w.w, []⟩) 32 c (vFin (EE ⟨w.w, []⟩) [.tmp 4] R) (initE args 0) σ) : ACalls (EE w) 30 args σ R :=
 ACalls.of_V' (E := EE w) (E' := EE ⟨w.w, []⟩) (n := 32) rfl rfl Try.f30 c _ Try.func30 hc (by kernel_rfl) (by kernel_rfl) hk hn hl h
theorem of_31 (hn : Nat.ble args.length 89 = true) (hl : Nat.blt args.length 1000 = true) {c : Code} (hc : Try.f31.body = some c) (hk : okC 89 c = true) (h : V (EE ⟨w.w, []⟩) 89 c (vFin (EE ⟨w.w, []⟩) [.tmp 4] R) (initE args 0) σ) : ACalls (EE w) 31 args σ R :=
 ACalls.of_V' (E := EE w) (E' := EE ⟨w.w, []⟩) (n := 89) rfl rfl Try.f31 c _ Try.func31 hc (by kernel_rfl) (by kernel_rfl) hk hn hl h
theorem of_32 (hn : Nat.ble args.length 46 = true) (hl : Nat.blt args.length 1000 = true) {c : Code} (hc : Try.f32.body = some c) (hk : okC 46 c = true) (h : V (EE ⟨w.w, []⟩) 46 c (vFin (EE ⟨w.w, []⟩) [.tmp 4] R) (initE args 0) σ) : ACalls (EE w) 32 args σ R :=
 ACalls.of_V' (E := EE w) (E' := EE ⟨w.w, []⟩) (n := 46) rfl rfl Try.f32 c _ Try.func32 hc (by kernel_rfl) (by kernel_rfl) hk hn hl h
theorem of_34 (hn : Nat.ble args.length 18 = true) (hl : Nat.blt args.length 1000 = true) {c : Code} (hc : Try.f34.body = some c) (hk : okC 18 c = true) (h : V (EE ⟨w.w, []⟩) 18 c (vFin (EE ⟨w.w, []⟩) [.tmp 4] R) (initE args 0) σ) : ACalls (EE w) 34 args σ R :=
 ACalls.of_V' (E := EE w) (E' := EE ⟨w.w, []⟩) (n := 18) rfl rfl Try.f34 c _ Try.func34 hc (by kernel_rfl) (by kernel_rfl) hk hn hl h
theorem of_39 (hn : Nat.ble args.length 21 = true) (hl : Nat.blt args.length 1000 = true) {c : Code} (hc : Try.f39.body = some c) (hk : okC 21 c = true) (h : V (EE ⟨w.w, []⟩) 21 c (vFin (EE ⟨w.w, []⟩) [.tmp 2] R) (initE args 0) σ) : ACalls (EE w) 39 args σ R :=
 ACalls.of_V' (E := EE w) (E' := EE ⟨w.w, []⟩) (n := 21) rfl rfl Try.f39 c _ Try.func39 hc (by kernel_rfl) (by kernel_rfl) hk hn hl h
theorem of_40 (hn : Nat.ble args.length 31 = true) (hl : Nat.blt args.length 1000 = true) {c : Code} (hc : Try.f40.body = some c) (hk : okC 31 c = true) (h : V (EE ⟨w.w, []⟩) 31 c (vFin (EE ⟨w.w, []⟩) [.tmp 4] R) (initE args 0) σ) : ACalls (EE w) 40 args σ R :=
 ACalls.of_V' (E := EE w) (E' := EE ⟨w.w, []⟩) (n := 31) rfl rfl Try.f40 c _ Try.func40 hc (by kernel_rfl) (by kernel_rfl) hk hn hl h
theorem of_41 (hn : Nat.ble args.length 24 = true) (hl : Nat.blt args.length 1000 = true) {c : Code} (hc : Try.f41.body = some c) (hk : okC 24 c = true) (h : V (EE ⟨w.w, []⟩) 24 c (vFin (EE ⟨w.w, []⟩) [.cell 2 24] R) (initE args 0) σ) : ACalls (EE w) 41 args σ R :=
 ACalls.of_V' (E := EE w) (E' := EE ⟨w.w, []⟩) (n := 24) rfl rfl Try.f41 c _ Try.func41 hc (by kernel_rfl) (by kernel_rfl) hk hn hl h
theorem of_42 (hn : Nat.ble args.length 29 = true) (hl : Nat.blt args.length 1000 = true) {c : Code} (hc : Try.f42.body = some c) (hk : okC 29 c = true) (h : V (EE ⟨w.w, []⟩) 29 c (vFin (EE ⟨w.w, []⟩) [.tmp 2] R) (initE args 0) σ) : ACalls (EE w) 42 args σ R :=
 ACalls.of_V' (E := EE w) (E' := EE ⟨w.w, []⟩) (n := 29) rfl rfl Try.f42 c _ Try.func42 hc (by kernel_rfl) (by kernel_rfl) hk hn hl h
theorem of_43 (hn : Nat.ble args.length 23 = true) (hl : Nat.blt args.length 1000 = true) {c : Code} (hc : Try.f43.body = some c) (hk : okC 23 c = true) (h : V (EE ⟨w.w, []⟩) 23 c (vFin (EE ⟨w.w, []⟩) [.tmp 2] R) (initE args 0) σ) : ACalls (EE w) 43 args σ R :=
 ACalls.of_V' (E := EE w) (E' := EE ⟨w.w, []⟩) (n := 23) rfl rfl Try.f43 c _ Try.func43 hc (by kernel_rfl) (by kernel_rfl) hk hn hl h
theorem ot_44 (hn : Nat.ble args.length 71 = true) (hl : Nat.blt args.length 1000 = true) {c : Code} (hc : Try.f44.body = some c) (hk : okC 71 c = true) (h : Top (EE ⟨w.w, []⟩) 71 c (aEndD (EE ⟨w.w, []⟩) Try.f44 R) (initE args 0) σ) : ACalls (EE w) 44 args σ R :=
 ACalls.of_Top (E := EE w) (E' := EE ⟨w.w, []⟩) (n := 71) rfl rfl Try.f44 c Try.func44 hc (by kernel_rfl) hk hn hl h
theorem of_45 (hn : Nat.ble args.length 46 = true) (hl : Nat.blt args.length 1000 = true) {c : Code} (hc : Try.f45.body = some c) (hk : okC 46 c = true) (h : V (EE ⟨w.w, []⟩) 46 c (vFin (EE ⟨w.w, []⟩) [.tmp 2] R) (initE args 0) σ) : ACalls (EE w) 45 args σ R :=
 ACalls.of_V' (E := EE w) (E' := EE ⟨w.w, []⟩) (n := 46) rfl rfl Try.f45 c _ Try.func45 hc (by kernel_rfl) (by kernel_rfl) hk hn hl h
theorem of_46 (hn : Nat.ble args.length 89 = true) (hl : Nat.blt args.length 1000 = true) {c : Code} (hc : Try.f46.body = some c) (hk : okC 89 c = true) (h : V (EE ⟨w.w, []⟩) 89 c (vFin (EE ⟨w.w, []⟩) [.tmp 2] R) (initE args 0) σ) : ACalls (EE w) 46 args σ R :=
 ACalls.of_V' (E := EE w) (E' := EE ⟨w.w, []⟩) (n := 89) rfl rfl Try.f46 c _ Try.func46 hc (by kernel_rfl) (by kernel_rfl) hk hn hl h
theorem of_47 (hn : Nat.ble args.length 49 = true) (hl : Nat.blt args.length 1000 = true) {c : Code} (hc : Try.f47.body = some c) (hk : okC 49 c = true) (h : V (EE ⟨w.w, []⟩) 49 c (vFin (EE ⟨w.w, []⟩) [.tmp 2] R) (initE args 0) σ) : ACalls (EE w) 47 args σ R :=
 ACalls.of_V' (E := EE w) (E' := EE ⟨w.w, []⟩) (n := 49) rfl rfl Try.f47 c _ Try.func47 hc (by kernel_rfl) (by kernel_rfl) hk hn hl h
theorem of_48 (hn : Nat.ble args.length 91 = true) (hl : Nat.blt args.length 1000 = true) {c : Code} (hc : Try.f48.body = some c) (hk : okC 91 c = true) (h : V (EE ⟨w.w, []⟩) 91 c (vFin (EE ⟨w.w, []⟩) [.tmp 4] R) (initE args 0) σ) : ACalls (EE w) 48 args σ R :=
 ACalls.of_V' (E := EE w) (E' := EE ⟨w.w, []⟩) (n := 91) rfl rfl Try.f48 c _ Try.func48 hc (by kernel_rfl) (by kernel_rfl) hk hn hl h
theorem of_49 (hn : Nat.ble args.length 40 = true) (hl : Nat.blt args.length 1000 = true) {c : Code} (hc : Try.f49.body = some c) (hk : okC 40 c = true) (h : V (EE ⟨w.w, []⟩) 40 c (vFin (EE ⟨w.w, []⟩) [.tmp 2] R) (initE args 0) σ) : ACalls (EE w) 49 args σ R :=
 ACalls.of_V' (E := EE w) (E' := EE ⟨w.w, []⟩) (n := 40) rfl rfl Try.f49 c _ Try.func49 hc (by kernel_rfl) (by kernel_rfl) hk hn hl h
theorem of_50 (hn : Nat.ble args.length 78 = true) (hl : Nat.blt args.length 1000 = true) {c : Code} (hc : Try.f50.body = some c) (hk : okC 78 c = true) (h : V (EE ⟨w.w, []⟩) 78 c (vFin (EE ⟨w.w, []⟩) [.tmp 2] R) (initE args 0) σ) : ACalls (EE w) 50 args σ R :=
 ACalls.of_V' (E := EE w) (E' := EE ⟨w.w, []⟩) (n := 78) rfl rfl Try.f50 c _ Try.func50 hc (by kernel_rfl) (by kernel_rfl) hk hn hl h
theorem of_51 (hn : Nat.ble args.length 23 = true) (hl : Nat.blt args.length 1000 = true) {c : Code} (hc : Try.f51.body = some c) (hk : okC 23 c = true) (h : V (EE ⟨w.w, []⟩) 23 c (vFin (EE ⟨w.w, []⟩) [.cell 2 88] R) (initE args 0) σ) : ACalls (EE w) 51 args σ R :=
 ACalls.of_V' (E := EE w) (E' := EE ⟨w.w, []⟩) (n := 23) rfl rfl Try.f51 c _ Try.func51 hc (by kernel_rfl) (by kernel_rfl) hk hn hl h
theorem of_52 (hn : Nat.ble args.length 16 = true) (hl : Nat.blt args.length 1000 = true) {c : Code} (hc : Try.f52.body = some c) (hk : okC 16 c = true) (h : V (EE ⟨w.w, []⟩) 16 c (vFin (EE ⟨w.w, []⟩) [.tmp 2] R) (initE args 0) σ) : ACalls (EE w) 52 args σ R :=
 ACalls.of_V' (E := EE w) (E' := EE ⟨w.w, []⟩) (n := 16) rfl rfl Try.f52 c _ Try.func52 hc (by kernel_rfl) (by kernel_rfl) hk hn hl h
theorem of_53 (hn : Nat.ble args.length 80 = true) (hl : Nat.blt args.length 1000 = true) {c : Code} (hc : Try.f53.body = some c) (hk : okC 80 c = true) (h : V (EE ⟨w.w, []⟩) 80 c (vFin (EE ⟨w.w, []⟩) [.tmp 2] R) (initE args 0) σ) : ACalls (EE w) 53 args σ R :=
 ACalls.of_V' (E := EE w) (E' := EE ⟨w.w, []⟩) (n := 80) rfl rfl Try.f53 c _ Try.func53 hc (by kernel_rfl) (by kernel_rfl) hk hn hl h
theorem of_54 (hn : Nat.ble args.length 53 = true) (hl : Nat.blt args.length 1000 = true) {c : Code} (hc : Try.f54.body = some c) (hk : okC 53 c = true) (h : V (EE ⟨w.w, []⟩) 53 c (vFin (EE ⟨w.w, []⟩) [.tmp 4] R) (initE args 0) σ) : ACalls (EE w) 54 args σ R :=
 ACalls.of_V' (E := EE w) (E' := EE ⟨w.w, []⟩) (n := 53) rfl rfl Try.f54 c _ Try.func54 hc (by kernel_rfl) (by kernel_rfl) hk hn hl h
theorem of_56 (hn : Nat.ble args.length 17 = true) (hl : Nat.blt args.length 1000 = true) {c : Code} (hc : Try.f56.body = some c) (hk : okC 17 c = true) (h : V (EE ⟨w.w, []⟩) 17 c (vFin (EE ⟨w.w, []⟩) [.tmp 2] R) (initE args 0) σ) : ACalls (EE w) 56 args σ R :=
 ACalls.of_V' (E := EE w) (E' := EE ⟨w.w, []⟩) (n := 17) rfl rfl Try.f56 c _ Try.func56 hc (by kernel_rfl) (by kernel_rfl) hk hn hl h
theorem of_57 (hn : Nat.ble args.length 9 = true) (hl : Nat.blt args.length 1000 = true) {c : Code} (hc : Try.f57.body = some c) (hk : okC 9 c = true) (h : V (EE ⟨w.w, []⟩) 9 c (vFin (EE ⟨w.w, []⟩) [.tmp 2] R) (initE args 0) σ) : ACalls (EE w) 57 args σ R :=
 ACalls.of_V' (E := EE w) (E' := EE ⟨w.w, []⟩) (n := 9) rfl rfl Try.f57 c _ Try.func57 hc (by kernel_rfl) (by kernel_rfl) hk hn hl h
theorem of_62 (hn : Nat.ble args.length 47 = true) (hl : Nat.blt args.length 1000 = true) {c : Code} (hc : Try.f62.body = some c) (hk : okC 47 c = true) (h : V (EE ⟨w.w, []⟩) 47 c (vFin (EE ⟨w.w, []⟩) [.tmp 2, .tmp 3, .tmp 4] R) (initE args 0) σ) : ACalls (EE w) 62 args σ R :=
 ACalls.of_V' (E := EE w) (E' := EE ⟨w.w, []⟩) (n := 47) rfl rfl Try.f62 c _ Try.func62 hc (by kernel_rfl) (by kernel_rfl) hk hn hl h
theorem of_63 (hn : Nat.ble args.length 43 = true) (hl : Nat.blt args.length 1000 = true) {c : Code} (hc : Try.f63.body = some c) (hk : okC 43 c = true) (h : V (EE ⟨w.w, []⟩) 43 c (vFin (EE ⟨w.w, []⟩) [.tmp 2] R) (initE args 0) σ) : ACalls (EE w) 63 args σ R :=
 ACalls.of_V' (E := EE w) (E' := EE ⟨w.w, []⟩) (n := 43) rfl rfl Try.f63 c _ Try.func63 hc (by kernel_rfl) (by kernel_rfl) hk hn hl h
theorem of_64 (hn : Nat.ble args.length 9 = true) (hl : Nat.blt args.length 1000 = true) {c : Code} (hc : Try.f64.body = some c) (hk : okC 9 c = true) (h : V (EE ⟨w.w, []⟩) 9 c (vFin (EE ⟨w.w, []⟩) [.tmp 4] R) (initE args 0) σ) : ACalls (EE w) 64 args σ R :=
 ACalls.of_V' (E := EE w) (E' := EE ⟨w.w, []⟩) (n := 9) rfl rfl Try.f64 c _ Try.func64 hc (by kernel_rfl) (by kernel_rfl) hk hn hl h
theorem of_65 (hn : Nat.ble args.length 6 = true) (hl : Nat.blt args.length 1000 = true) {c : Code} (hc : Try.f65.body = some c) (hk : okC 6 c = true) (h : V (EE ⟨w.w, []⟩) 6 c (vFin (EE ⟨w.w, []⟩) [.tmp 2] R) (initE args 0) σ) : ACalls (EE w) 65 args σ R :=
 ACalls.of_V' (E := EE w) (E' := EE ⟨w.w, []⟩) (n := 6) rfl rfl Try.f65 c _ Try.func65 hc (by kernel_rfl) (by kernel_rfl) hk hn hl h
theorem of_66 (hn : Nat.ble args.length 9 = true) (hl : Nat.blt args.length 1000 = true) {c : Code} (hc : Try.f66.body = some c) (hk : okC 9 c = true) (h : V (EE ⟨w.w, []⟩) 9 c (vFin (EE ⟨w.w, []⟩) [.tmp 4] R) (initE args 0) σ) : ACalls (EE w) 66 args σ R :=
 ACalls.of_V' (E := EE w) (E' := EE ⟨w.w, []⟩) (n := 9) rfl rfl Try.f66 c _ Try.func66 hc (by kernel_rfl) (by kernel_rfl) hk hn hl h
theorem of_67 (hn : Nat.ble args.length 6 = true) (hl : Nat.blt args.length 1000 = true) {c : Code} (hc : Try.f67.body = some c) (hk : okC 6 c = true) (h : V (EE ⟨w.w, []⟩) 6 c (vFin (EE ⟨w.w, []⟩) [.tmp 2] R) (initE args 0) σ) : ACalls (EE w) 67 args σ R :=
 ACalls.of_V' (E := EE w) (E' := EE ⟨w.w, []⟩) (n := 6) rfl rfl Try.f67 c _ Try.func67 hc (by kernel_rfl) (by kernel_rfl) hk hn hl h
theorem of_68 (hn : Nat.ble args.length 76 = true) (hl : Nat.blt args.length 1000 = true) {c : Code} (hc : Try.f68.body = some c) (hk : okC 76 c = true) (h : V (EE ⟨w.w, []⟩) 76 c (vFin (EE ⟨w.w, []⟩) [.tmp 2] R) (initE args 0) σ) : ACalls (EE w) 68 args σ R :=
 ACalls.of_V' (E := EE w) (E' := EE ⟨w.w, []⟩) (n := 76) rfl rfl Try.f68 c _ Try.func68 hc (by kernel_rfl) (by kernel_rfl) hk hn hl h
theorem of_69 (hn : Nat.ble args.length 56 = true) (hl : Nat.blt args.length 1000 = true) {c : Code} (hc : Try.f69.body = some c) (hk : okC 56 c = true) (h : V (EE ⟨w.w, []⟩) 56 c (vFin (EE ⟨w.w, []⟩) [.tmp 2] R) (initE args 0) σ) : ACalls (EE w) 69 args σ R :=
 ACalls.of_V' (E := EE w) (E' := EE ⟨w.w, []⟩) (n := 56) rfl rfl Try.f69 c _ Try.func69 hc (by kernel_rfl) (by kernel_rfl) hk hn hl h
theorem od_70 (hn : Nat.ble args.length 19 = true) (hl : Nat.blt args.length 1000 = true) {c : Code} (hc : Try.f70.body = some c) (hk : okC 19 c = true) (h : V (EE ⟨w.w, []⟩) 19 c (vFin (EE ⟨w.w, []⟩) [] R) (initE args 0) σ) : ACallsD (EE w) 70 args σ R :=
 ACallsD.of_V' (E := EE w) (E' := EE ⟨w.w, []⟩) (n := 19) rfl rfl Try.f70 c _ Try.func70 hc (by kernel_rfl) (by kernel_rfl) hk hn hl h
theorem ot_71 (hn : Nat.ble args.length 85 = true) (hl : Nat.blt args.length 1000 = true) {c : Code} (hc : Try.f71.body = some c) (hk : okC 85 c = true) (h : Top (EE ⟨w.w, []⟩) 85 c (aEndD (EE ⟨w.w, []⟩) Try.f71 R) (initE args 0) σ) : ACalls (EE w) 71 args σ R :=
 ACalls.of_Top (E := EE w) (E' := EE ⟨w.w, []⟩) (n := 85) rfl rfl Try.f71 c Try.func71 hc (by kernel_rfl) hk hn hl h
theorem of_72 (hn : Nat.ble args.length 30 = true) (hl : Nat.blt args.length 1000 = true) {c : Code} (hc : Try.f72.body = some c) (hk : okC 30 c = true) (h : V (EE ⟨w.w, []⟩) 30 c (vFin (EE ⟨w.w, []⟩) [.tmp 2] R) (initE args 0) σ) : ACalls (EE w) 72 args σ R :=
 ACalls.of_V' (E := EE w) (E' := EE ⟨w.w, []⟩) (n := 30) rfl rfl Try.f72 c _ Try.func72 hc (by kernel_rfl) (by kernel_rfl) hk hn hl h
theorem of_73 (hn : Nat.ble args.length 2 = true) (hl : Nat.blt args.length 1000 = true) {c : Code} (hc : Try.f73.body = some c) (hk : okC 2 c = true) (h : V (EE ⟨w.w, []⟩) 2 c (vFin (EE ⟨w.w, []⟩) [.tmp 0] R) (initE args 0) σ) : ACalls (EE w) 73 args σ R :=
 ACalls.of_V' (E := EE w) (E' := EE ⟨w.w, []⟩) (n := 2) rfl rfl Try.f73 c _ Try.func73 hc (by kernel_rfl) (by kernel_rfl) hk hn hl h
theorem of_74 (hn : Nat.ble args.length 83 = true) (hl : Nat.blt args.length 1000 = true) {c : Code} (hc : Try.f74.body = some c) (hk : okC 83 c = true) (h : V (EE ⟨w.w, []⟩) 83 c (vFin (EE ⟨w.w, []⟩) [.tmp 2, .tmp 3, .tmp 4] R) (initE args 0) σ) : ACalls (EE w) 74 args σ R :=
 ACalls.of_V' (E := EE w) (E' := EE ⟨w.w, []⟩) (n := 83) rfl rfl Try.f74 c _ Try.func74 hc (by kernel_rfl) (by kernel_rfl) hk hn hl h
theorem of_75 (hn : Nat.ble args.length 26 = true) (hl : Nat.blt args.length 1000 = true) {c : Code} (hc : Try.f75.body = some c) (hk : okC 26 c = true) (h : V (EE ⟨w.w, []⟩) 26 c (vFin (EE ⟨w.w, []⟩) [.tmp 2, .tmp 3] R) (initE args 0) σ) : ACalls (EE w) 75 args σ R :=
 ACalls.of_V' (E := EE w) (E' := EE ⟨w.w, []⟩) (n := 26) rfl rfl Try.f75 c _ Try.func75 hc (by kernel_rfl) (by kernel_rfl) hk hn hl h
theorem of_76 (hn : Nat.ble args.length 9 = true) (hl : Nat.blt args.length 1000 = true) {c : Code} (hc : Try.f76.body = some c) (hk : okC 9 c = true) (h : V (EE ⟨w.w, []⟩) 9 c (vFin (EE ⟨w.w, []⟩) [.tmp 4] R) (initE args 0) σ) : ACalls (EE w) 76 args σ R :=
 ACalls.of_V' (E := EE w) (E' := EE ⟨w.w, []⟩) (n := 9) rfl rfl Try.f76 c _ Try.func76 hc (by kernel_rfl) (by kernel_rfl) hk hn hl h
theorem of_77 (hn : Nat.ble args.length 6 = true) (hl : Nat.blt args.length 1000 = true) {c : Code} (hc : Try.f77.body = some c) (hk : okC 6 c = true) (h : V (EE ⟨w.w, []⟩) 6 c (vFin (EE ⟨w.w, []⟩) [.tmp 2] R) (initE args 0) σ) : ACalls (EE w) 77 args σ R :=
 ACalls.of_V' (E := EE w) (E' := EE ⟨w.w, []⟩) (n := 6) rfl rfl Try.f77 c _ Try.func77 hc (by kernel_rfl) (by kernel_rfl) hk hn hl h
theorem of_78 (hn : Nat.ble args.length 36 = true) (hl : Nat.blt args.length 1000 = true) {c : Code} (hc : Try.f78.body = some c) (hk : okC 36 c = true) (h : V (EE ⟨w.w, []⟩) 36 c (vFin (EE ⟨w.w, []⟩) [] R) (initE args 0) σ) : ACalls (EE w) 78 args σ R :=
 ACalls.of_V' (E := EE w) (E' := EE ⟨w.w, []⟩) (n := 36) rfl rfl Try.f78 c _ Try.func78 hc (by kernel_rfl) (by kernel_rfl) hk hn hl h
theorem of_79 (hn : Nat.ble args.length 30 = true) (hl : Nat.blt args.length 1000 = true) {c : Code} (hc : Try.f79.body = some c) (hk : okC 30 c = true) (h : V (EE ⟨w.w, []⟩) 30 c (vFin (EE ⟨w.w, []⟩) [.tmp 2] R) (initE args 0) σ) : ACalls (EE w) 79 args σ R :=
 ACalls.of_V' (E := EE w) (E' := EE ⟨w.w, []⟩) (n := 30) rfl rfl Try.f79 c _ Try.func79 hc (by kernel_rfl) (by kernel_rfl) hk hn hl h
theorem of_86 (hn : Nat.ble args.length 11 = true) (hl : Nat.blt args.length 1000 = true) {c : Code} (hc : Try.f86.body = some c) (hk : okC 11 c = true) (h : V (EE ⟨w.w, []⟩) 11 c (vFin (EE ⟨w.w, []⟩) [.tmp 2] R) (initE args 0) σ) : ACalls (EE w) 86 args σ R :=
 ACalls.of_V' (E := EE w) (E' := EE ⟨w.w, []⟩) (n := 11) rfl rfl Try.f86 c _ Try.func86 hc (by kernel_rfl) (by kernel_rfl) hk hn hl h
theorem of_87 (hn : Nat.ble args.length 9 = true) (hl : Nat.blt args.length 1000 = true) {c : Code} (hc : Try.f87.body = some c) (hk : okC 9 c = true) (h : V (EE ⟨w.w, []⟩) 9 c (vFin (EE ⟨w.w, []⟩) [.tmp 4] R) (initE args 0) σ) : ACalls (EE w) 87 args σ R :=
 ACalls.of_V' (E := EE w) (E' := EE ⟨w.w, []⟩) (n := 9) rfl rfl Try.f87 c _ Try.func87 hc (by kernel_rfl) (by kernel_rfl) hk hn hl h
theorem of_88 (hn : Nat.ble args.length 2 = true) (hl : Nat.blt args.length 1000 = true) {c : Code} (hc : Try.f88.body = some c) (hk : okC 2 c = true) (h : V (EE ⟨w.w, []⟩) 2 c (vFin (EE ⟨w.w, []⟩) [.tmp 0] R) (initE args 0) σ) : ACalls (EE w) 88 args σ R :=
 ACalls.of_V' (E := EE w) (E' := EE ⟨w.w, []⟩) (n := 2) rfl rfl Try.f88 c _ Try.func88 hc (by kernel_rfl) (by kernel_rfl) hk hn hl h
theorem of_89 (hn : Nat.ble args.length 9 = true) (hl : Nat.blt args.length 1000 = true) {c : Code} (hc : Try.f89.body = some c) (hk : okC 9 c = true) (h : V (EE ⟨w.w, []⟩) 9 c (vFin (EE ⟨w.w, []⟩) [.tmp 2] R) (initE args 0) σ) : ACalls (EE w) 89 args σ R :=
 ACalls.of_V' (E := EE w) (E' := EE ⟨w.w, []⟩) (n := 9) rfl rfl Try.f89 c _ Try.func89 hc (by kernel_rfl) (by kernel_rfl) hk hn hl h
theorem of_90 (hn : Nat.ble args.length 19 = true) (hl : Nat.blt args.length 1000 = true) {c : Code} (hc : Try.f90.body = some c) (hk : okC 19 c = true) (h : V (EE ⟨w.w, []⟩) 19 c (vFin (EE ⟨w.w, []⟩) [.tmp 4] R) (initE args 0) σ) : ACalls (EE w) 90 args σ R :=
 ACalls.of_V' (E := EE w) (E' := EE ⟨w.w, []⟩) (n := 19) rfl rfl Try.f90 c _ Try.func90 hc (by kernel_rfl) (by kernel_rfl) hk hn hl h
theorem of_91 (hn : Nat.ble args.length 19 = true) (hl : Nat.blt args.length 1000 = true) {c : Code} (hc : Try.f91.body = some c) (hk : okC 19 c = true) (h : V (EE ⟨w.w, []⟩) 19 c (vFin (EE ⟨w.w, []⟩) [.tmp 4] R) (initE args 0) σ) : ACalls (EE w) 91 args σ R :=
 ACalls.of_V' (E := EE w) (E' := EE ⟨w.w, []⟩) (n := 19) rfl rfl Try.f91 c _ Try.func91 hc (by kernel_rfl) (by kernel_rfl) hk hn hl h
theorem of_92 (hn : Nat.ble args.length 6 = true) (hl : Nat.blt args.length 1000 = true) {c : Code} (hc : Try.f92.body = some c) (hk : okC 6 c = true) (h : V (EE ⟨w.w, []⟩) 6 c (vFin (EE ⟨w.w, []⟩) [.tmp 2] R) (initE args 0) σ) : ACalls (EE w) 92 args σ R :=
 ACalls.of_V' (E := EE w) (E' := EE ⟨w.w, []⟩) (n := 6) rfl rfl Try.f92 c _ Try.func92 hc (by kernel_rfl) (by kernel_rfl) hk hn hl h
theorem of_93 (hn : Nat.ble args.length 35 = true) (hl : Nat.blt args.length 1000 = true) {c : Code} (hc : Try.f93.body = some c) (hk : okC 35 c = true) (h : V (EE ⟨w.w, []⟩) 35 c (vFin (EE ⟨w.w, []⟩) [.cell 2 88] R) (initE args 0) σ) : ACalls (EE w) 93 args σ R :=
 ACalls.of_V' (E := EE w) (E' := EE ⟨w.w, []⟩) (n := 35) rfl rfl Try.f93 c _ Try.func93 hc (by kernel_rfl) (by kernel_rfl) hk hn hl h
theorem od_94 (hn : Nat.ble args.length 16 = true) (hl : Nat.blt args.length 1000 = true) {c : Code} (hc : Try.f94.body = some c) (hk : okC 16 c = true) (h : V (EE ⟨w.w, []⟩) 16 c (vFin (EE ⟨w.w, []⟩) [] R) (initE args 0) σ) : ACallsD (EE w) 94 args σ R :=
 ACallsD.of_V' (E := EE w) (E' := EE ⟨w.w, []⟩) (n := 16) rfl rfl Try.f94 c _ Try.func94 hc (by kernel_rfl) (by kernel_rfl) hk hn hl h
theorem of_95 (hn : Nat.ble args.length 12 = true) (hl : Nat.blt args.length 1000 = true) {c : Code} (hc : Try.f95.body = some c) (hk : okC 12 c = true) (h : V (EE ⟨w.w, []⟩) 12 c (vFin (EE ⟨w.w, []⟩) [.cell 0 117] R) (initE args 0) σ) : ACalls (EE w) 95 args σ R :=
 ACalls.of_V' (E := EE w) (E' := EE ⟨w.w, []⟩) (n := 12) rfl rfl Try.f95 c _ Try.func95 hc (by kernel_rfl) (by kernel_rfl) hk hn hl h
theorem of_96 (hn : Nat.ble args.length 19 = true) (hl : Nat.blt args.length 1000 = true) {c : Code} (hc : Try.f96.body = some c) (hk : okC 19 c = true) (h : V (EE ⟨w.w, []⟩) 19 c (vFin (EE ⟨w.w, []⟩) [.tmp 4] R) (initE args 0) σ) : ACalls (EE w) 96 args σ R :=
 ACalls.of_V' (E := EE w) (E' := EE ⟨w.w, []⟩) (n := 19) rfl rfl Try.f96 c _ Try.func96 hc (by kernel_rfl) (by kernel_rfl) hk hn hl h
theorem of_102 (hn : Nat.ble args.length 19 = true) (hl : Nat.blt args.length 1000 = true) {c : Code} (hc : Try.f102.body = some c) (hk : okC 19 c = true) (h : V (EE ⟨w.w, []⟩) 19 c (vFin (EE ⟨w.w, []⟩) [.tmp 4] R) (initE args 0) σ) : ACalls (EE w) 102 args σ R :=
 ACalls.of_V' (E := EE w) (E' := EE ⟨w.w, []⟩) (n := 19) rfl rfl Try.f102 c _ Try.func102 hc (by kernel_rfl) (by kernel_rfl) hk hn hl h
end
end Abs
namespace Abs
set_option linter.unusedSimpArgs false
set_option linter.unusedVariables false
set_option maxRecDepth 100000
set_option maxHeartbeats 16000000
open Go
instance : LawfulBEq ByteArray where
 eq_of_beq h := by rw [ba_beq] at h; exact of_decide_eq_true h
 rfl {a} := by rw [ba_beq]; exact dct rfl
inductive Ex where
 | mk (k : Int) (nm : ByteArray) (i : Int) (zs : List Ex)
inductive St where
 | mk (k : Int) (nm : ByteArray) (v : Ex) (body els : List St)
structure Fc where
 nm : ByteArray
 ps : List ByteArray
 body : List St
def sA (s : ByteArray) : AVal := .sc (.string s)
mutual
def IsEx : Ex → AVal → Prop
 | .mk k nm i zs, v => ∃ S els, v = .agg [(.sc (.int .i64 (k))), .sc (.string nm), (.sc (.int .i64 (i))), S] ∧ IsD 4 S els ∧ IsExs zs els ∧ in64 k ∧ in64 i ∧ nm.size ≤ 281474976710656 ∧ els.length ≤ 281474976710656
def IsExs : List Ex → List AVal → Prop
 | [], els => els = []
 | x :: xs, els => ∃ e es, els = e :: es ∧ IsEx x e ∧ IsExs xs es
end
def Ex.k : Ex → Int | .mk k _ _ _ => k
def Ex.nm : Ex → ByteArray | .mk _ n _ _ => n
def Ex.i : Ex → Int | .mk _ _ i _ => i
def Ex.args : Ex → List Ex | .mk _ _ _ zs => zs
theorem IsExs.len : ∀ {zs : List Ex} {els : List AVal}, IsExs zs els → els.length = zs.length
  | [], els, h => by
      simp only [IsExs] at h; subst h; rfl
  | x :: xs, els, h => by
      simp only [IsExs] at h
      obtain ⟨e, es, rfl, _, h⟩ := h
      simp [IsExs.len h]
theorem IsExs.at : ∀ {zs : List Ex} {els : List AVal}, IsExs zs els → ∀ {j : Nat} {x : Ex}, zs[j]? = some x → ∃ e, els[j]? = some e ∧ IsEx x e
  | [], els, h, j, x, hx => by simp at hx
  | y :: xs, els, h, j, x, hx => by
      simp only [IsExs] at h
      obtain ⟨e, es, rfl, h1, h⟩ := h
      cases j with
      | zero => simp at hx; subst hx; exact ⟨e, rfl, h1⟩
      | succ j => simpa using IsExs.at h (by simpa using hx)
mutual
def IsSt : St → AVal → Prop
  | .mk k nm v body els, w => ∃ SA SB SE ea eb ee, w = .agg [(.sc (.int .i64 (k))), .sc (.string nm), (.sc (.int .i64 (v.k))), .sc (.string v.nm), (.sc (.int .i64 (v.i))), SA, SB, SE] ∧ IsD 4 SA ea ∧ IsExs v.args ea ∧ IsD 8 SB eb ∧ IsSts body eb ∧ IsD 8 SE ee ∧ IsSts els ee ∧
      in64 k ∧ in64 v.k ∧ in64 v.i ∧ nm.size ≤ 281474976710656 ∧ v.nm.size ≤ 281474976710656 ∧ ea.length ≤ 281474976710656 ∧ eb.length ≤ 281474976710656 ∧ ee.length ≤ 281474976710656
def IsSts : List St → List AVal → Prop
  | [], els => els = []
  | x :: xs, els => ∃ e es, els = e :: es ∧ IsSt x e ∧ IsSts xs es
end
theorem IsSts.len : ∀ {zs : List St} {els : List AVal}, IsSts zs els → els.length = zs.length
  | [], els, h => by
      simp only [IsSts] at h; subst h; rfl
  | x :: xs, els, h => by
      simp only [IsSts] at h
      obtain ⟨e, es, rfl, _, h⟩ := h
      simp [IsSts.len h]
theorem IsSts.at : ∀ {zs : List St} {els : List AVal}, IsSts zs els → ∀ {j : Nat} {x : St}, zs[j]? = some x → ∃ e, els[j]? = some e ∧ IsSt x e
  | [], els, h, j, x, hx => by simp at hx
  | y :: xs, els, h, j, x, hx => by
      simp only [IsSts] at h
      obtain ⟨e, es, rfl, h1, h⟩ := h
      cases j with
      | zero => simp at hx; subst hx; exact ⟨e, rfl, h1⟩
      | succ j => simpa using IsSts.at h (by simpa using hx)
def IsFc (f : Fc) (w : AVal) : Prop := ∃ SP SB eb, w = .agg [.sc (.string f.nm), SP, SB] ∧ IsD 1 SP (f.ps.map sA) ∧ IsD 8 SB eb ∧ IsSts f.body eb ∧ f.nm.size ≤ 281474976710656 ∧ (∀ p ∈ f.ps, p.size ≤ 281474976710656) ∧ f.ps.length ≤ 281474976710656 ∧ eb.length ≤ 281474976710656
mutual
theorem IsEx.wf : ∀ {x : Ex} {v : AVal}, IsEx x v → WF 0 v
  | .mk k nm i zs, v, h => by
      simp only [IsEx] at h
      obtain ⟨S, els, rfl, hS, hs, _⟩ := h
      exact .agg _ (.cons _ _ (.sc _) (.cons _ _ (.sc _) (.cons _ _ (.sc _) (.cons _ _ (hS.wf (IsExs.wf hs)) .nil))))
theorem IsExs.wf : ∀ {zs : List Ex} {els : List AVal}, IsExs zs els → WFs 0 els
  | [], els, h => by simp only [IsExs] at h; subst h; exact .nil
  | x :: xs, els, h => by
      simp only [IsExs] at h
      obtain ⟨e, es, rfl, h1, h⟩ := h
      exact .cons _ _ (IsEx.wf h1) (IsExs.wf h)
end
mutual
theorem IsSt.wf : ∀ {x : St} {v : AVal}, IsSt x v → WF 0 v
  | .mk k nm w body els, v, h => by
      simp only [IsSt] at h
      obtain ⟨SA, SB, SE, ea, eb, ee, rfl, hA, ha, hB, hb, hE, he, _⟩ := h
      exact .agg _ (.cons _ _ (.sc _) (.cons _ _ (.sc _) (.cons _ _ (.sc _) (.cons _ _ (.sc _) (.cons _ _ (.sc _) (.cons _ _ (hA.wf (IsExs.wf ha)) (.cons _ _ (hB.wf (IsSts.wf hb)) (.cons _ _ (hE.wf (IsSts.wf he)) .nil))))))))
theorem IsSts.wf : ∀ {zs : List St} {els : List AVal}, IsSts zs els → WFs 0 els
  | [], els, h => by simp only [IsSts] at h; subst h; exact .nil
  | x :: xs, els, h => by
      simp only [IsSts] at h
      obtain ⟨e, es, rfl, h1, h⟩ := h
      exact .cons _ _ (IsSt.wf h1) (IsSts.wf h)
end
theorem wf_sA (l : List ByteArray) : WFs 0 (l.map sA) := WFs.map fun _ => .sc _
theorem IsFc.wf {f : Fc} {w : AVal} (h : IsFc f w) : WF 0 w := by
 obtain ⟨SP, SB, eb, rfl, hP, hB, hb, _⟩ := h
 exact .agg _ (.cons _ _ (.sc _) (.cons _ _ (hP.wf (wf_sA _)) (.cons _ _ (hB.wf (IsSts.wf hb)) .nil)))
end Abs
namespace Abs
set_option linter.unusedSimpArgs false
set_option linter.unusedVariables false
set_option maxRecDepth 100000
set_option maxHeartbeats 16000000
open Go
/-- How many parts a kind may have. -/
def arityB (k : Int) (n : Nat) : Bool :=
 if k = 1 ∨ k = 2 then decide (n = 0)
 else if k = 3 ∨ k = 4 then decide (n = 1)
 else if 5 ≤ k ∧ k ≤ 17 then decide (n = 2)
 else if k = 18 then decide (n = 3)
 else decide (k = 19)
variable (nameB : ByteArray → Bool)
mutual
def formedB : Ex → Bool
 | .mk k nm i zs => (arityB k zs.length && (if k = 2 ∨ k = 19 then nameB nm else decide (nm.size = 0))) && ((decide (i = 0) || decide (k = 1)) && (decide (-2147483648 ≤ i) && decide (i ≤ 2147483648))) && formedBs zs
def formedBs : List Ex → Bool
 | [] => true
 | x :: xs => formedB x && formedBs xs
end
theorem formedBs_all : ∀ l, formedBs nameB l = l.all (formedB nameB)
 | [] => rfl
 | x :: xs => by simp [formedBs, formedBs_all xs]
mutual
def formedS : St → Bool
  | .mk k nm v body els => (decide (1 ≤ k) && decide (k ≤ 5)) && (if k = 1 ∨ k = 2 then nameB nm else decide (nm.size = 0)) && formedB nameB v &&
      ((decide (body.length = 0) || (decide (k = 3) || decide (k = 4))) && (decide (els.length = 0) || decide (k = 3))) && formedSs body && formedSs els
def formedSs : List St → Bool
  | [] => true
  | x :: xs => formedS x && formedSs xs
end
theorem formedSs_all : ∀ l, formedSs nameB l = l.all (formedS nameB)
 | [] => rfl
 | x :: xs => by simp [formedSs, formedSs_all xs]
mutual
def nodesE : Ex → Nat
 | .mk _ _ _ zs => 1 + nodesEs zs
def nodesEs : List Ex → Nat
 | [] => 0
 | x :: xs => nodesE x + nodesEs xs
end
mutual
def depthE : Ex → Nat
 | .mk _ _ _ zs => 1 + depthEs zs
def depthEs : List Ex → Nat
 | [] => 0
 | x :: xs => max (depthE x) (depthEs xs)
end
mutual
def fewE : Ex → Bool
 | .mk _ _ _ zs => decide (zs.length ≤ 4) && fewEs zs
def fewEs : List Ex → Bool
 | [] => true
 | x :: xs => fewE x && fewEs xs
end
mutual
def nodesS : St → Nat
 | .mk _ _ v b e => 1 + nodesE v + nodesSs b + nodesSs e
def nodesSs : List St → Nat
 | [] => 0
 | x :: xs => nodesS x + nodesSs xs
end
mutual
def depthS : St → Nat
 | .mk _ _ v b e => 1 + max (depthE v) (max (depthSs b) (depthSs e))
def depthSs : List St → Nat
 | [] => 0
 | x :: xs => max (depthS x) (depthSs xs)
end
mutual
def fewS : St → Bool
 | .mk _ _ v b e => fewE v && fewSs b && fewSs e
def fewSs : List St → Bool
 | [] => true
 | x :: xs => fewS x && fewSs xs
end
def smallE (x : Ex) : Bool := decide (nodesE x ≤ 400) && decide (depthE x ≤ 30) && fewE x
def nodesF (l : List Fc) : Nat := (l.map fun f => nodesSs f.body).sum
def smallF (l : List Fc) : Bool := (l.all fun f => decide (depthSs f.body ≤ 30) && fewSs f.body && decide (f.ps.length ≤ 4)) && decide (nodesF l ≤ 400) && decide (l.length ≤ 8)
/-- 0: well; 2: no well-formed one; 3: too large. -/
def checkE (x : Ex) : Int := if formedB nameB x then (if smallE x then 0 else 3) else 2
def formedF (f : Fc) : Bool := nameB f.nm && f.ps.all nameB && formedSs nameB f.body
def checkF (l : List Fc) : Int := if l.all (formedF nameB) then (if smallF l then 0 else 3) else 2
def fcOf (l : List Fc) (nm : ByteArray) : Option Fc := l.find? fun f => decide (f.nm = nm)
mutual
def expE (g o : List ByteArray) (l : List Fc) : Ex → Int
 | .mk k nm _ zs =>
  match expEs g o l zs with
  | 0 =>
   if k = 2 then (if nm ∈ g ∨ nm ∈ o then 0 else 90)
   else if k = 19 then (match fcOf l nm with
    | none => 90
    | some f => if f.ps.length = zs.length then 0 else 91)
   else 0
  | e => e
def expEs (g o : List ByteArray) (l : List Fc) : List Ex → Int
 | [] => 0
 | x :: xs => match expE g o l x with
  | 0 => expEs g o l xs
  | e => e
end
mutual
def stE (g o : List ByteArray) (l : List Fc) : St → Int
 | .mk k nm v b e =>
  match expE g o l v with
  | 0 =>
   if (k = 1 ∧ (nm ∈ g ∨ nm ∈ o)) ∨ (k = 2 ∧ nm ∉ o) then 90
   else match stEs g (if k = 1 then o ++ [nm] else o) l b with
    | 0 => stEs g (if k = 1 then o ++ [nm] else o) l e
    | e => e
  | e => e
def stEs (g o : List ByteArray) (l : List Fc) : List St → Int
 | [] => 0
 | x :: xs => match stE g o l x with
  | 0 => stEs g (match x with | .mk k nm _ _ _ => if k = 1 then o ++ [nm] else o) l xs
  | e => e
end
mutual
def retS : St → Bool
 | .mk k _ _ b e => decide (k = 5) || (decide (k = 3) && retSs b && retSs e)
def retSs : List St → Bool
 | [] => false
 | x :: xs => retS x || retSs xs
end
/-- The first static error of a function behind others. -/
def parsBad (g : List ByteArray) : List ByteArray → List ByteArray → Bool
 | _, [] => false
 | o, p :: ps => decide (p ∈ g ∨ p ∈ o) || parsBad g (o ++ [p]) ps
def fnE (g : List ByteArray) (l : List Fc) (f : Fc) : Int :=
 if f.nm ∈ g ∨ (fcOf l f.nm).isSome then 90
 else if parsBad g [] f.ps then 90
 else match stEs g f.ps l f.body with
  | 0 => if retSs f.body then 0 else 92
  | e => e
def goF (g : List ByteArray) : List Fc → List Fc → Int × Int
 | _, [] => (0, 0)
 | l, f :: r => match fnE g l f with
  | 0 => goF g (l ++ [f]) r
  | e => (l.length, e)
def funcsP (l : List Fc) (g : List ByteArray) : Int × Int :=
 match checkF nameB l with
 | 0 => goF g [] l
 | e => (0, e)
def expP (x : Ex) (g : List ByteArray) (l : List Fc) : Int :=
 match checkE nameB x with
 | 0 => match (funcsP nameB l g).2 with
  | 0 => expE g [] l x
  | e => e
 | e => e
end Abs
namespace Abs
set_option linter.unusedSimpArgs false
set_option linter.unusedVariables false
set_option maxRecDepth 100000
set_option maxHeartbeats 16000000
open Go
variable (nameB : ByteArray → Bool)
end Abs
end
