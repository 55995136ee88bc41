/-
  The law TraceLengths walked, once its fixed examples are known to come out.
-/
import Derived.Test.YtmimfnjcnndhpaaGreatLenP
namespace Abs
set_option linter.unusedSimpArgs false
set_option linter.unusedVariables false
set_option maxRecDepth 100000
set_option maxHeartbeats 2000000
open Go Go.Proofs

theorem decide_self {α : Type} [DecidableEq α] (x : α) : decide (x = x) = true := decide_eq_true rfl

set_option maxHeartbeats 4000000 in
theorem law3 {w : World} {x : AVal} {l : List ((Int × Int) × Int)} (hx : IsD 3 x (l.map stA)) (hl : l.length ≤ 9223372036854775807) (hin : ∀ p ∈ l, inW p) (hawake : Gives (EE w) 5 [] fun v => v = .sc (.bool true)) :
    ACalls (EE w) 3 [x] empty fun e _ => e = .ret (.sc (.bool true)) := by
  refine of_3 rfl rfl rfl (by kernel_rfl) ?_
  simp (config := {maxSteps := 500000, implicitDefEqProofs := false}) only [go_sem, reduceIte, Nat.reduceEqDiff, Nat.reduceAdd, Nat.reduceSub, Nat.reduceMul, Nat.reducePow, Nat.reduceDiv, Nat.reduceMod, Nat.reduceBEq, Nat.reduceBNe, Nat.reduceLT, Nat.reduceLeDiff, Int.reduceToNat, reduceCtorEq, hx.len]
  (first | refine Z_dec (by exact rfl) (fun h => ?_) (fun h => ?_) | refine Zs_dec (by exact rfl) (fun h => ?_) (fun h => ?_) | refine Z_ndec (by exact rfl) (fun h => ?_) (fun h => ?_) | refine Zs_ndec (by exact rfl) (fun h => ?_) (fun h => ?_))
  · simp (config := {maxSteps := 500000, implicitDefEqProofs := false}) only [go_sem, reduceIte, Nat.reduceEqDiff, Nat.reduceAdd, Nat.reduceSub, Nat.reduceMul, Nat.reducePow, Nat.reduceDiv, Nat.reduceMod, Nat.reduceBEq, Nat.reduceBNe, Nat.reduceLT, Nat.reduceLeDiff, Int.reduceToNat, reduceCtorEq]
    refine hawake.use ?_
    rintro v rfl
    simp (config := {maxSteps := 500000, implicitDefEqProofs := false}) only [go_sem, reduceIte, Nat.reduceEqDiff, Nat.reduceAdd, Nat.reduceSub, Nat.reduceMul, Nat.reducePow, Nat.reduceDiv, Nat.reduceMod, Nat.reduceBEq, Nat.reduceBNe, Nat.reduceLT, Nat.reduceLeDiff, Int.reduceToNat, reduceCtorEq]
  · simp (config := {maxSteps := 500000, implicitDefEqProofs := false}) only [go_sem, reduceIte, Nat.reduceEqDiff, Nat.reduceAdd, Nat.reduceSub, Nat.reduceMul, Nat.reducePow, Nat.reduceDiv, Nat.reduceMod, Nat.reduceBEq, Nat.reduceBNe, Nat.reduceLT, Nat.reduceLeDiff, Int.reduceToNat, reduceCtorEq]
    have h6 := len6 (w := w) hx hl hin
    have h7 := len7 (w := w) hx hl hin
    generalize lenR l = r at h6 h7
    obtain ⟨⟨a, b⟩, e⟩ := r
    refine h6.use ?_
    simp (config := {maxSteps := 500000, implicitDefEqProofs := false}) only [go_sem, reduceIte, Nat.reduceEqDiff, Nat.reduceAdd, Nat.reduceSub, Nat.reduceMul, Nat.reducePow, Nat.reduceDiv, Nat.reduceMod, Nat.reduceBEq, Nat.reduceBNe, Nat.reduceLT, Nat.reduceLeDiff, Int.reduceToNat, reduceCtorEq, rE, rA]
    refine h7.use ?_
    (repeat' (first | ((first | refine vIf_dec (fun hq => ?_) (fun hq => ?_) | refine vIf_decf (fun hq => ?_) (fun hq => ?_) | refine vIf_ndec (fun hq => ?_) (fun hq => ?_) | refine vIf_ndecf (fun hq => ?_) (fun hq => ?_) | refine Z_dec (by exact rfl) (fun hq => ?_) (fun hq => ?_) | refine Z_ndec (by exact rfl) (fun hq => ?_) (fun hq => ?_) | refine Zs_dec (by exact rfl) (fun hq => ?_) (fun hq => ?_) | refine Zs_ndec (by exact rfl) (fun hq => ?_) (fun hq => ?_)) <;> first | (exfalso; omega) | simp (config := {maxSteps := 500000, implicitDefEqProofs := false}) only [go_sem, reduceIte, Nat.reduceEqDiff, Nat.reduceAdd, Nat.reduceSub, Nat.reduceMul, Nat.reducePow, Nat.reduceDiv, Nat.reduceMod, Nat.reduceBEq, Nat.reduceBNe, Nat.reduceLT, Nat.reduceLeDiff, Int.reduceToNat, reduceCtorEq, decide_eq_false hq, rE, rA, decide_self] | simp (config := {maxSteps := 500000, implicitDefEqProofs := false}) only [go_sem, reduceIte, Nat.reduceEqDiff, Nat.reduceAdd, Nat.reduceSub, Nat.reduceMul, Nat.reducePow, Nat.reduceDiv, Nat.reduceMod, Nat.reduceBEq, Nat.reduceBNe, Nat.reduceLT, Nat.reduceLeDiff, Int.reduceToNat, reduceCtorEq, decide_eq_true hq, rE, rA, decide_self] | skip) | refine Z_true (by exact rfl) ?_ | refine Z_false (by exact rfl) ?_ | refine Z_seq_block ?_ | refine Z_block ?_ | refine Z_seq ?_ | simp (config := {maxSteps := 500000, implicitDefEqProofs := false}) only [go_sem, reduceIte, Nat.reduceEqDiff, Nat.reduceAdd, Nat.reduceSub, Nat.reduceMul, Nat.reducePow, Nat.reduceDiv, Nat.reduceMod, Nat.reduceBEq, Nat.reduceBNe, Nat.reduceLT, Nat.reduceLeDiff, Int.reduceToNat, reduceCtorEq, rE, rA, decide_self]))
    refine hawake.use ?_
    rintro v rfl
    (repeat' (first | ((first | refine vIf_dec (fun hq => ?_) (fun hq => ?_) | refine vIf_decf (fun hq => ?_) (fun hq => ?_) | refine vIf_ndec (fun hq => ?_) (fun hq => ?_) | refine vIf_ndecf (fun hq => ?_) (fun hq => ?_) | refine Z_dec (by exact rfl) (fun hq => ?_) (fun hq => ?_) | refine Z_ndec (by exact rfl) (fun hq => ?_) (fun hq => ?_) | refine Zs_dec (by exact rfl) (fun hq => ?_) (fun hq => ?_) | refine Zs_ndec (by exact rfl) (fun hq => ?_) (fun hq => ?_)) <;> first | (exfalso; omega) | simp (config := {maxSteps := 500000, implicitDefEqProofs := false}) only [go_sem, reduceIte, Nat.reduceEqDiff, Nat.reduceAdd, Nat.reduceSub, Nat.reduceMul, Nat.reducePow, Nat.reduceDiv, Nat.reduceMod, Nat.reduceBEq, Nat.reduceBNe, Nat.reduceLT, Nat.reduceLeDiff, Int.reduceToNat, reduceCtorEq, decide_eq_false hq] | simp (config := {maxSteps := 500000, implicitDefEqProofs := false}) only [go_sem, reduceIte, Nat.reduceEqDiff, Nat.reduceAdd, Nat.reduceSub, Nat.reduceMul, Nat.reducePow, Nat.reduceDiv, Nat.reduceMod, Nat.reduceBEq, Nat.reduceBNe, Nat.reduceLT, Nat.reduceLeDiff, Int.reduceToNat, reduceCtorEq, decide_eq_true hq] | skip) | refine Z_true (by exact rfl) ?_ | refine Z_false (by exact rfl) ?_ | refine Z_seq_block ?_ | refine Z_block ?_ | refine Z_seq ?_ | simp (config := {maxSteps := 500000, implicitDefEqProofs := false}) only [go_sem, reduceIte, Nat.reduceEqDiff, Nat.reduceAdd, Nat.reduceSub, Nat.reduceMul, Nat.reducePow, Nat.reduceDiv, Nat.reduceMod, Nat.reduceBEq, Nat.reduceBNe, Nat.reduceLT, Nat.reduceLeDiff, Int.reduceToNat, reduceCtorEq]))
end Abs
