/-
  The reference's ratios: what its functions compute, each walked once.
-/
import Derived.Test.YtmimfnjcnndhpaaGreatRatP
namespace Abs
set_option linter.unusedSimpArgs false
set_option linter.unusedVariables false
set_option maxRecDepth 100000
set_option maxHeartbeats 2000000
open Go Go.Proofs

/-! ### The reference's ratios -/

theorem divisorC {w : World} (a b : Nat) (ha : a < 18446744073709551616) (hb : b < 18446744073709551616) : GivesV (EE w) 45 [(AVal.sc (Value.int IntKind.u64 (a))), (AVal.sc (Value.int IntKind.u64 (b)))] (AVal.sc (Value.int IntKind.u64 (Nat.gcd a b))) := by
  refine GivesV.of (fun _ => .sc _) (.cons _ _ (.sc _) (.cons _ _ (.sc _) .nil)) 1 ?_
  refine of_45 rfl rfl rfl (by kernel_rfl) ?_
  simp (config := {maxSteps := 500000, implicitDefEqProofs := false}) only [go_sem, reduceIte, Nat.reduceEqDiff, Nat.reduceAdd, Nat.reduceSub, Nat.reduceMul, Nat.reducePow, Nat.reduceDiv, Nat.reduceMod, Nat.reduceBEq, Nat.reduceBNe, Nat.reduceLT, Nat.reduceLeDiff, Int.reduceToNat, reduceCtorEq]
  refine Z_seq_loop (ι := Nat × Nat) (fun s => [(0, (AVal.sc (Value.int IntKind.u64 (s.1)))), (1, (AVal.sc (Value.int IntKind.u64 (s.2))))]) (fun s _ => s.1 < 18446744073709551616 ∧ s.2 < 18446744073709551616 ∧ Nat.gcd s.1 s.2 = Nat.gcd a b) (fun s => s.2) (fun _ => rfl) (a, b) ?_ ⟨ha, hb, rfl⟩ ?_
  · (repeat' (first | exact trivial | refine ⟨rfl, ?_⟩))
  rintro ⟨x, y⟩ σ ⟨hx, hy, hg⟩
  simp only at hx hy hg
  simp (config := {maxSteps := 500000, implicitDefEqProofs := false}) only [go_sem, reduceIte, Nat.reduceEqDiff, Nat.reduceAdd, Nat.reduceSub, Nat.reduceMul, Nat.reducePow, Nat.reduceDiv, Nat.reduceMod, Nat.reduceBEq, Nat.reduceBNe, Nat.reduceLT, Nat.reduceLeDiff, Int.reduceToNat, reduceCtorEq]
  (first | refine Z_dec (by exact rfl) (fun h => ?_) (fun h => ?_) | refine Zs_dec (by exact rfl) (fun h => ?_) (fun h => ?_) | refine Z_ndec (by exact rfl) (fun h => ?_) (fun h => ?_) | refine Zs_ndec (by exact rfl) (fun h => ?_) (fun h => ?_))
  · have hy0 : y ≠ 0 := by omega
    have hrem := sc_remU (a := x) hy0
    (repeat' (first | ((first | refine vIf_dec (fun hq => ?_) (fun hq => ?_) | refine vIf_decf (fun hq => ?_) (fun hq => ?_) | refine vIf_ndec (fun hq => ?_) (fun hq => ?_) | refine vIf_ndecf (fun hq => ?_) (fun hq => ?_) | refine Z_dec (by exact rfl) (fun hq => ?_) (fun hq => ?_) | refine Z_ndec (by exact rfl) (fun hq => ?_) (fun hq => ?_) | refine Zs_dec (by exact rfl) (fun hq => ?_) (fun hq => ?_) | refine Zs_ndec (by exact rfl) (fun hq => ?_) (fun hq => ?_)) <;> first | (exfalso; omega) | simp (config := {maxSteps := 500000, implicitDefEqProofs := false}) only [go_sem, reduceIte, Nat.reduceEqDiff, Nat.reduceAdd, Nat.reduceSub, Nat.reduceMul, Nat.reducePow, Nat.reduceDiv, Nat.reduceMod, Nat.reduceBEq, Nat.reduceBNe, Nat.reduceLT, Nat.reduceLeDiff, Int.reduceToNat, reduceCtorEq, decide_eq_false hq] | simp (config := {maxSteps := 500000, implicitDefEqProofs := false}) only [go_sem, reduceIte, Nat.reduceEqDiff, Nat.reduceAdd, Nat.reduceSub, Nat.reduceMul, Nat.reducePow, Nat.reduceDiv, Nat.reduceMod, Nat.reduceBEq, Nat.reduceBNe, Nat.reduceLT, Nat.reduceLeDiff, Int.reduceToNat, reduceCtorEq, decide_eq_true hq] | skip) | refine Z_true (by exact rfl) ?_ | refine Z_false (by exact rfl) ?_ | refine Z_seq_block ?_ | refine Z_block ?_ | refine Z_seq ?_ | simp (config := {maxSteps := 500000, implicitDefEqProofs := false}) only [go_sem, reduceIte, Nat.reduceEqDiff, Nat.reduceAdd, Nat.reduceSub, Nat.reduceMul, Nat.reducePow, Nat.reduceDiv, Nat.reduceMod, Nat.reduceBEq, Nat.reduceBNe, Nat.reduceLT, Nat.reduceLeDiff, Int.reduceToNat, reduceCtorEq]))
    (first | refine Z_draw (by kernel_rfl) [0, 1, 2, 3, 4, 5] [(5, 31), (4, 3), (3, 6), (2, 0), (1, 0), (0, 0)] (by kernel_rfl) (by kernel_rfl) ?_ | (refine Z_seq ?_; (try simp (config := {maxSteps := 500000, implicitDefEqProofs := false}) only [go_sem, reduceIte, Nat.reduceEqDiff, Nat.reduceAdd, Nat.reduceSub, Nat.reduceMul, Nat.reducePow, Nat.reduceDiv, Nat.reduceMod, Nat.reduceBEq, Nat.reduceBNe, Nat.reduceLT, Nat.reduceLeDiff, Int.reduceToNat, reduceCtorEq]); refine Z_draw (by kernel_rfl) [0, 1, 2, 3, 4, 5] [(5, 31), (4, 3), (3, 6), (2, 0), (1, 0), (0, 0)] (by kernel_rfl) (by kernel_rfl) ?_))
    simp (config := {maxSteps := 500000, implicitDefEqProofs := false}) only [go_sem, reduceIte, Nat.reduceEqDiff, Nat.reduceAdd, Nat.reduceSub, Nat.reduceMul, Nat.reducePow, Nat.reduceDiv, Nat.reduceMod, Nat.reduceBEq, Nat.reduceBNe, Nat.reduceLT, Nat.reduceLeDiff, Int.reduceToNat, reduceCtorEq, hrem]
    refine ⟨(y, x % y), Nat.mod_lt _ (by omega), ⟨hy, by have := Nat.mod_lt x (show 0 < y by omega); dsimp only; omega, ?_⟩, ?_⟩
    · dsimp only
      rw [← hg, Nat.gcd_comm y, ← Nat.gcd_rec, Nat.gcd_comm]
    · (repeat' (first | exact trivial | refine ⟨rfl, ?_⟩))
  · obtain rfl : y = 0 := by omega
    simp (config := {maxSteps := 500000, implicitDefEqProofs := false}) only [go_sem, reduceIte, Nat.reduceEqDiff, Nat.reduceAdd, Nat.reduceSub, Nat.reduceMul, Nat.reducePow, Nat.reduceDiv, Nat.reduceMod, Nat.reduceBEq, Nat.reduceBNe, Nat.reduceLT, Nat.reduceLeDiff, Int.reduceToNat, reduceCtorEq]
    rw [Nat.gcd_zero_right] at hg
    subst hg
    exact ⟨_, rfl, rfl⟩

theorem sizeC {w : World} (n : Int) (hn : in64 n) : GivesV (EE w) 46 [(AVal.sc (Value.int IntKind.i64 (n)))] (AVal.sc (Value.int IntKind.u64 (n.natAbs))) := by
  obtain ⟨h1, h2⟩ := hn
  refine GivesV.of (fun _ => .sc _) (.cons _ _ (.sc _) .nil) 1 ?_
  refine of_46 rfl rfl rfl (by kernel_rfl) ?_
  simp (config := {maxSteps := 500000, implicitDefEqProofs := false}) only [go_sem, reduceIte, Nat.reduceEqDiff, Nat.reduceAdd, Nat.reduceSub, Nat.reduceMul, Nat.reducePow, Nat.reduceDiv, Nat.reduceMod, Nat.reduceBEq, Nat.reduceBNe, Nat.reduceLT, Nat.reduceLeDiff, Int.reduceToNat, reduceCtorEq]
  (first | refine Z_dec (by exact rfl) (fun h => ?_) (fun h => ?_) | refine Zs_dec (by exact rfl) (fun h => ?_) (fun h => ?_) | refine Z_ndec (by exact rfl) (fun h => ?_) (fun h => ?_) | refine Zs_ndec (by exact rfl) (fun h => ?_) (fun h => ?_))
  · have e1 : IntKind.i64.wrap (n + 1) = n + 1 := wrap64 (by omega) (by omega)
    have e2 : IntKind.i64.wrap (0 - (n + 1)) = -(n + 1) := by rw [wrap64 (by omega) (by omega)]; omega
    have e3 : IntKind.u64.wrap (-(n + 1)) = -(n + 1) := wrapU (by omega) (by omega)
    have e4 : IntKind.u64.wrap (-(n + 1) + 1) = (n.natAbs : Int) := by rw [wrapU (by omega) (by omega)]; omega
    simp (config := {maxSteps := 500000, implicitDefEqProofs := false}) only [go_sem, reduceIte, Nat.reduceEqDiff, Nat.reduceAdd, Nat.reduceSub, Nat.reduceMul, Nat.reducePow, Nat.reduceDiv, Nat.reduceMod, Nat.reduceBEq, Nat.reduceBNe, Nat.reduceLT, Nat.reduceLeDiff, Int.reduceToNat, reduceCtorEq, e1, e2, e3, e4]
    exact ⟨_, rfl, rfl⟩
  · have e1 : IntKind.u64.wrap n = (n.natAbs : Int) := by rw [wrapU (by omega) (by omega)]; omega
    simp (config := {maxSteps := 500000, implicitDefEqProofs := false}) only [go_sem, reduceIte, Nat.reduceEqDiff, Nat.reduceAdd, Nat.reduceSub, Nat.reduceMul, Nat.reducePow, Nat.reduceDiv, Nat.reduceMod, Nat.reduceBEq, Nat.reduceBNe, Nat.reduceLT, Nat.reduceLeDiff, Int.reduceToNat, reduceCtorEq, e1]
    exact ⟨_, rfl, rfl⟩

theorem rvalidC {w : World} (x : Int × Int) (h1 : in64 x.1) (h2 : in64 x.2) : GivesV (EE w) 18 [rA x] (AVal.sc (Value.bool (validR x))) := by
  refine GivesV.of (fun _ => .sc _) (.cons _ _ (wfR x) .nil) 1 ?_
  have hb1 : x.1.natAbs < 18446744073709551616 := by obtain ⟨h5, h6⟩ := h1; omega
  have hb2 : x.2.natAbs < 18446744073709551616 := by obtain ⟨h5, h6⟩ := h2; omega
  have key : validR x = (decide (1 ≤ x.2) && (decide (x.2 ≤ 2147483647) && (decide (-2147483647 ≤ x.1) && (decide (x.1 ≤ 2147483647) && decide (Nat.gcd x.1.natAbs x.2.natAbs = 1))))) := by
    simp only [validR]
    rw [Bool.eq_iff_iff]
    simp only [Bool.and_eq_true, decide_eq_true_eq]
    omega
  rw [key]
  refine of_18 rfl rfl rfl (by kernel_rfl) ?_
  simp (config := {maxSteps := 500000, implicitDefEqProofs := false}) only [go_sem, reduceIte, Nat.reduceEqDiff, Nat.reduceAdd, Nat.reduceSub, Nat.reduceMul, Nat.reducePow, Nat.reduceDiv, Nat.reduceMod, Nat.reduceBEq, Nat.reduceBNe, Nat.reduceLT, Nat.reduceLeDiff, Int.reduceToNat, reduceCtorEq, rA]
  (first | refine Z_draw (by kernel_rfl) [0, 1, 2, 3, 4, 5, 6, 7, 8, 9, 10, 11, 12, 13, 14, 15, 16, 17, 18, 19, 20, 22, 23, 21, 24, 25, 26, 27, 28] [(28, 268435455), (27, 134217727), (26, 67108863), (25, 33554431), (24, 16777215), (21, 2097151), (23, 4718591), (22, 524287), (20, 1048575), (19, 524287), (18, 262143), (17, 131071), (16, 65535), (15, 32767), (14, 16383), (13, 8191), (12, 4095), (11, 2047), (10, 1023), (9, 511), (8, 255), (7, 127), (6, 63), (5, 31), (4, 15), (3, 7), (2, 3), (1, 1), (0, 0)] (by kernel_rfl) (by kernel_rfl) ?_ | (refine Z_seq ?_; (try simp (config := {maxSteps := 500000, implicitDefEqProofs := false}) only [go_sem, reduceIte, Nat.reduceEqDiff, Nat.reduceAdd, Nat.reduceSub, Nat.reduceMul, Nat.reducePow, Nat.reduceDiv, Nat.reduceMod, Nat.reduceBEq, Nat.reduceBNe, Nat.reduceLT, Nat.reduceLeDiff, Int.reduceToNat, reduceCtorEq]); refine Z_draw (by kernel_rfl) [0, 1, 2, 3, 4, 5, 6, 7, 8, 9, 10, 11, 12, 13, 14, 15, 16, 17, 18, 19, 20, 22, 23, 21, 24, 25, 26, 27, 28] [(28, 268435455), (27, 134217727), (26, 67108863), (25, 33554431), (24, 16777215), (21, 2097151), (23, 4718591), (22, 524287), (20, 1048575), (19, 524287), (18, 262143), (17, 131071), (16, 65535), (15, 32767), (14, 16383), (13, 8191), (12, 4095), (11, 2047), (10, 1023), (9, 511), (8, 255), (7, 127), (6, 63), (5, 31), (4, 15), (3, 7), (2, 3), (1, 1), (0, 0)] (by kernel_rfl) (by kernel_rfl) ?_))
  by_cases c1 : 1 ≤ x.2
  · by_cases c2 : x.2 ≤ 2147483647
    · by_cases c3 : -2147483647 ≤ x.1
      · by_cases c4 : x.1 ≤ 2147483647
        · simp (config := {maxSteps := 500000, implicitDefEqProofs := false}) only [go_sem, reduceIte, Nat.reduceEqDiff, Nat.reduceAdd, Nat.reduceSub, Nat.reduceMul, Nat.reducePow, Nat.reduceDiv, Nat.reduceMod, Nat.reduceBEq, Nat.reduceBNe, Nat.reduceLT, Nat.reduceLeDiff, Int.reduceToNat, reduceCtorEq, decide_eq_true c1, decide_eq_true c2, decide_eq_true c3, decide_eq_true c4]
          refine (sizeC x.1 h1).useD ?_
          simp (config := {maxSteps := 500000, implicitDefEqProofs := false}) only [go_sem, reduceIte, Nat.reduceEqDiff, Nat.reduceAdd, Nat.reduceSub, Nat.reduceMul, Nat.reducePow, Nat.reduceDiv, Nat.reduceMod, Nat.reduceBEq, Nat.reduceBNe, Nat.reduceLT, Nat.reduceLeDiff, Int.reduceToNat, reduceCtorEq]
          refine (sizeC x.2 h2).useD ?_
          simp (config := {maxSteps := 500000, implicitDefEqProofs := false}) only [go_sem, reduceIte, Nat.reduceEqDiff, Nat.reduceAdd, Nat.reduceSub, Nat.reduceMul, Nat.reducePow, Nat.reduceDiv, Nat.reduceMod, Nat.reduceBEq, Nat.reduceBNe, Nat.reduceLT, Nat.reduceLeDiff, Int.reduceToNat, reduceCtorEq]
          refine (divisorC _ _ hb1 hb2).useD ?_
          simp (config := {maxSteps := 500000, implicitDefEqProofs := false}) only [go_sem, reduceIte, Nat.reduceEqDiff, Nat.reduceAdd, Nat.reduceSub, Nat.reduceMul, Nat.reducePow, Nat.reduceDiv, Nat.reduceMod, Nat.reduceBEq, Nat.reduceBNe, Nat.reduceLT, Nat.reduceLeDiff, Int.reduceToNat, reduceCtorEq]
          refine ⟨_, rfl, ?_⟩
          have : decide (((Nat.gcd x.1.natAbs x.2.natAbs : Nat) : Int) = 1) = decide (Nat.gcd x.1.natAbs x.2.natAbs = 1) := by
            by_cases h : Nat.gcd x.1.natAbs x.2.natAbs = 1
            · rw [decide_eq_true h, decide_eq_true (by omega)]
            · rw [decide_eq_false h, decide_eq_false (by omega)]
          simp only [decide_eq_true c1, decide_eq_true c2, decide_eq_true c3, decide_eq_true c4, Bool.true_and, frz_sc, this]
        · simp (config := {maxSteps := 500000, implicitDefEqProofs := false}) only [go_sem, reduceIte, Nat.reduceEqDiff, Nat.reduceAdd, Nat.reduceSub, Nat.reduceMul, Nat.reducePow, Nat.reduceDiv, Nat.reduceMod, Nat.reduceBEq, Nat.reduceBNe, Nat.reduceLT, Nat.reduceLeDiff, Int.reduceToNat, reduceCtorEq, decide_eq_true c1, decide_eq_true c2, decide_eq_true c3, decide_eq_false c4]
          refine ⟨_, rfl, ?_⟩
          simp only [decide_eq_false c4, Bool.false_and, Bool.and_false, frz_sc]
      · simp (config := {maxSteps := 500000, implicitDefEqProofs := false}) only [go_sem, reduceIte, Nat.reduceEqDiff, Nat.reduceAdd, Nat.reduceSub, Nat.reduceMul, Nat.reducePow, Nat.reduceDiv, Nat.reduceMod, Nat.reduceBEq, Nat.reduceBNe, Nat.reduceLT, Nat.reduceLeDiff, Int.reduceToNat, reduceCtorEq, decide_eq_true c1, decide_eq_true c2, decide_eq_false c3]
        refine ⟨_, rfl, ?_⟩
        simp only [decide_eq_false c3, Bool.false_and, Bool.and_false, frz_sc]
    · simp (config := {maxSteps := 500000, implicitDefEqProofs := false}) only [go_sem, reduceIte, Nat.reduceEqDiff, Nat.reduceAdd, Nat.reduceSub, Nat.reduceMul, Nat.reducePow, Nat.reduceDiv, Nat.reduceMod, Nat.reduceBEq, Nat.reduceBNe, Nat.reduceLT, Nat.reduceLeDiff, Int.reduceToNat, reduceCtorEq, decide_eq_true c1, decide_eq_false c2]
      refine ⟨_, rfl, ?_⟩
      simp only [decide_eq_false c2, Bool.false_and, Bool.and_false, frz_sc]
  · simp (config := {maxSteps := 500000, implicitDefEqProofs := false}) only [go_sem, reduceIte, Nat.reduceEqDiff, Nat.reduceAdd, Nat.reduceSub, Nat.reduceMul, Nat.reducePow, Nat.reduceDiv, Nat.reduceMod, Nat.reduceBEq, Nat.reduceBNe, Nat.reduceLT, Nat.reduceLeDiff, Int.reduceToNat, reduceCtorEq, decide_eq_false c1]
    refine ⟨_, rfl, ?_⟩
    simp only [decide_eq_false c1, Bool.false_and, Bool.and_false, frz_sc]

theorem rmakeC {w : World} (n d : Int) (hn : in64 n) (hd : in64 d) : GivesV (EE w) 47 [(AVal.sc (Value.int IntKind.i64 (n))), (AVal.sc (Value.int IntKind.i64 (d)))] (rE (makeR n d)) := by
  refine GivesV.of (fun _ => .sc _) (.cons _ _ (.sc _) (.cons _ _ (.sc _) .nil)) 4 ?_
  have hb1 : n.natAbs < 18446744073709551616 := by obtain ⟨h5, h6⟩ := hn; omega
  have hb2 : d.natAbs < 18446744073709551616 := by obtain ⟨h5, h6⟩ := hd; omega
  refine of_47 rfl rfl rfl (by kernel_rfl) ?_
  simp (config := {maxSteps := 500000, implicitDefEqProofs := false}) only [go_sem, reduceIte, Nat.reduceEqDiff, Nat.reduceAdd, Nat.reduceSub, Nat.reduceMul, Nat.reducePow, Nat.reduceDiv, Nat.reduceMod, Nat.reduceBEq, Nat.reduceBNe, Nat.reduceLT, Nat.reduceLeDiff, Int.reduceToNat, reduceCtorEq]
  (first | refine Z_dec (by exact rfl) (fun h => ?_) (fun h => ?_) | refine Zs_dec (by exact rfl) (fun h => ?_) (fun h => ?_) | refine Z_ndec (by exact rfl) (fun h => ?_) (fun h => ?_) | refine Zs_ndec (by exact rfl) (fun h => ?_) (fun h => ?_))
  · simp (config := {maxSteps := 500000, implicitDefEqProofs := false}) only [go_sem, reduceIte, Nat.reduceEqDiff, Nat.reduceAdd, Nat.reduceSub, Nat.reduceMul, Nat.reducePow, Nat.reduceDiv, Nat.reduceMod, Nat.reduceBEq, Nat.reduceBNe, Nat.reduceLT, Nat.reduceLeDiff, Int.reduceToNat, reduceCtorEq]
    exact ⟨_, rfl, by simp only [makeR, if_pos h]; rfl⟩
  · simp (config := {maxSteps := 500000, implicitDefEqProofs := false}) only [go_sem, reduceIte, Nat.reduceEqDiff, Nat.reduceAdd, Nat.reduceSub, Nat.reduceMul, Nat.reducePow, Nat.reduceDiv, Nat.reduceMod, Nat.reduceBEq, Nat.reduceBNe, Nat.reduceLT, Nat.reduceLeDiff, Int.reduceToNat, reduceCtorEq]
    refine (sizeC n hn).use ?_
    simp (config := {maxSteps := 500000, implicitDefEqProofs := false}) only [go_sem, reduceIte, Nat.reduceEqDiff, Nat.reduceAdd, Nat.reduceSub, Nat.reduceMul, Nat.reducePow, Nat.reduceDiv, Nat.reduceMod, Nat.reduceBEq, Nat.reduceBNe, Nat.reduceLT, Nat.reduceLeDiff, Int.reduceToNat, reduceCtorEq]
    refine (sizeC d hd).use ?_
    simp (config := {maxSteps := 500000, implicitDefEqProofs := false}) only [go_sem, reduceIte, Nat.reduceEqDiff, Nat.reduceAdd, Nat.reduceSub, Nat.reduceMul, Nat.reducePow, Nat.reduceDiv, Nat.reduceMod, Nat.reduceBEq, Nat.reduceBNe, Nat.reduceLT, Nat.reduceLeDiff, Int.reduceToNat, reduceCtorEq]
    refine (divisorC _ _ hb1 hb2).use ?_
    have hg0 : Nat.gcd n.natAbs d.natAbs ≠ 0 := by
      intro h0
      have := Nat.eq_zero_of_gcd_eq_zero_right h0
      omega
    have hmk : makeR n d = if 2147483647 < n.natAbs / Nat.gcd n.natAbs d.natAbs ∨ 2147483647 < d.natAbs / Nat.gcd n.natAbs d.natAbs then ((0, 0), 7)
      else ((if decide (n < 0) = decide (d < 0) then ((n.natAbs / Nat.gcd n.natAbs d.natAbs : Nat) : Int) else -((n.natAbs / Nat.gcd n.natAbs d.natAbs : Nat) : Int), ((d.natAbs / Nat.gcd n.natAbs d.natAbs : Nat) : Int)), 0) := by
      simp only [makeR, if_neg h]
    have q1 := sc_quoU (a := n.natAbs) hg0 hb1
    have q2 := sc_quoU (a := d.natAbs) hg0 hb2
    rw [hmk]
    generalize hga : n.natAbs / Nat.gcd n.natAbs d.natAbs = a at *
    generalize hgb : d.natAbs / Nat.gcd n.natAbs d.natAbs = b at *
    clear hmk
    simp (config := {maxSteps := 500000, implicitDefEqProofs := false}) only [go_sem, reduceIte, Nat.reduceEqDiff, Nat.reduceAdd, Nat.reduceSub, Nat.reduceMul, Nat.reducePow, Nat.reduceDiv, Nat.reduceMod, Nat.reduceBEq, Nat.reduceBNe, Nat.reduceLT, Nat.reduceLeDiff, Int.reduceToNat, reduceCtorEq]
    (first | refine Z_draw (by kernel_rfl) [0, 2, 4, 6, 1, 3, 5, 7, 8, 9] [(9, 511), (8, 63), (7, 115), (5, 19), (3, 7), (1, 1), (6, 0), (4, 0), (2, 0), (0, 0)] (by kernel_rfl) (by kernel_rfl) ?_ | (refine Z_seq ?_; (try simp (config := {maxSteps := 500000, implicitDefEqProofs := false}) only [go_sem, reduceIte, Nat.reduceEqDiff, Nat.reduceAdd, Nat.reduceSub, Nat.reduceMul, Nat.reducePow, Nat.reduceDiv, Nat.reduceMod, Nat.reduceBEq, Nat.reduceBNe, Nat.reduceLT, Nat.reduceLeDiff, Int.reduceToNat, reduceCtorEq]); refine Z_draw (by kernel_rfl) [0, 2, 4, 6, 1, 3, 5, 7, 8, 9] [(9, 511), (8, 63), (7, 115), (5, 19), (3, 7), (1, 1), (6, 0), (4, 0), (2, 0), (0, 0)] (by kernel_rfl) (by kernel_rfl) ?_))
    simp (config := {maxSteps := 500000, implicitDefEqProofs := false}) only [go_sem, reduceIte, Nat.reduceEqDiff, Nat.reduceAdd, Nat.reduceSub, Nat.reduceMul, Nat.reducePow, Nat.reduceDiv, Nat.reduceMod, Nat.reduceBEq, Nat.reduceBNe, Nat.reduceLT, Nat.reduceLeDiff, Int.reduceToNat, reduceCtorEq]
    refine (sizeC n hn).useD ?_
    simp (config := {maxSteps := 500000, implicitDefEqProofs := false}) only [go_sem, reduceIte, Nat.reduceEqDiff, Nat.reduceAdd, Nat.reduceSub, Nat.reduceMul, Nat.reducePow, Nat.reduceDiv, Nat.reduceMod, Nat.reduceBEq, Nat.reduceBNe, Nat.reduceLT, Nat.reduceLeDiff, Int.reduceToNat, reduceCtorEq, q1]
    refine (sizeC d hd).useD ?_
    simp (config := {maxSteps := 500000, implicitDefEqProofs := false}) only [go_sem, reduceIte, Nat.reduceEqDiff, Nat.reduceAdd, Nat.reduceSub, Nat.reduceMul, Nat.reducePow, Nat.reduceDiv, Nat.reduceMod, Nat.reduceBEq, Nat.reduceBNe, Nat.reduceLT, Nat.reduceLeDiff, Int.reduceToNat, reduceCtorEq, q1, q2]
    by_cases c1 : (2147483647 : Int) < (a : Int)
    · simp (config := {maxSteps := 500000, implicitDefEqProofs := false}) only [go_sem, reduceIte, Nat.reduceEqDiff, Nat.reduceAdd, Nat.reduceSub, Nat.reduceMul, Nat.reducePow, Nat.reduceDiv, Nat.reduceMod, Nat.reduceBEq, Nat.reduceBNe, Nat.reduceLT, Nat.reduceLeDiff, Int.reduceToNat, reduceCtorEq, decide_eq_true c1]
      refine Z_true (by exact rfl) ?_
      simp (config := {maxSteps := 500000, implicitDefEqProofs := false}) only [go_sem, reduceIte, Nat.reduceEqDiff, Nat.reduceAdd, Nat.reduceSub, Nat.reduceMul, Nat.reducePow, Nat.reduceDiv, Nat.reduceMod, Nat.reduceBEq, Nat.reduceBNe, Nat.reduceLT, Nat.reduceLeDiff, Int.reduceToNat, reduceCtorEq]
      exact ⟨_, rfl, by rw [if_pos (.inl (by omega))]; rfl⟩
    · by_cases c2 : (2147483647 : Int) < (b : Int)
      · simp (config := {maxSteps := 500000, implicitDefEqProofs := false}) only [go_sem, reduceIte, Nat.reduceEqDiff, Nat.reduceAdd, Nat.reduceSub, Nat.reduceMul, Nat.reducePow, Nat.reduceDiv, Nat.reduceMod, Nat.reduceBEq, Nat.reduceBNe, Nat.reduceLT, Nat.reduceLeDiff, Int.reduceToNat, reduceCtorEq, decide_eq_false c1, decide_eq_true c2]
        refine Z_true (by exact rfl) ?_
        simp (config := {maxSteps := 500000, implicitDefEqProofs := false}) only [go_sem, reduceIte, Nat.reduceEqDiff, Nat.reduceAdd, Nat.reduceSub, Nat.reduceMul, Nat.reducePow, Nat.reduceDiv, Nat.reduceMod, Nat.reduceBEq, Nat.reduceBNe, Nat.reduceLT, Nat.reduceLeDiff, Int.reduceToNat, reduceCtorEq]
        exact ⟨_, rfl, by rw [if_pos (.inr (by omega))]; rfl⟩
      · have w1 : IntKind.i64.wrap (a : Int) = a := wrap64 (by omega) (by omega)
        have w2 : IntKind.i64.wrap (b : Int) = b := wrap64 (by omega) (by omega)
        have w3 : IntKind.i64.wrap (0 - (a : Int)) = -(a : Int) := by rw [wrap64 (by omega) (by omega)]; omega
        rw [if_neg (by omega)]
        simp (config := {maxSteps := 500000, implicitDefEqProofs := false}) only [go_sem, reduceIte, Nat.reduceEqDiff, Nat.reduceAdd, Nat.reduceSub, Nat.reduceMul, Nat.reducePow, Nat.reduceDiv, Nat.reduceMod, Nat.reduceBEq, Nat.reduceBNe, Nat.reduceLT, Nat.reduceLeDiff, Int.reduceToNat, reduceCtorEq, decide_eq_false c1, decide_eq_false c2]
        refine Z_false (by exact rfl) ?_
        by_cases d1 : n < 0
        · by_cases d2 : d < 0
          · simp (config := {maxSteps := 500000, implicitDefEqProofs := false}) only [go_sem, reduceIte, Nat.reduceEqDiff, Nat.reduceAdd, Nat.reduceSub, Nat.reduceMul, Nat.reducePow, Nat.reduceDiv, Nat.reduceMod, Nat.reduceBEq, Nat.reduceBNe, Nat.reduceLT, Nat.reduceLeDiff, Int.reduceToNat, reduceCtorEq, decide_eq_true d1, decide_eq_true d2, w1, w2]
            refine Z_false (by exact rfl) ?_
            simp (config := {maxSteps := 500000, implicitDefEqProofs := false}) only [go_sem, reduceIte, Nat.reduceEqDiff, Nat.reduceAdd, Nat.reduceSub, Nat.reduceMul, Nat.reducePow, Nat.reduceDiv, Nat.reduceMod, Nat.reduceBEq, Nat.reduceBNe, Nat.reduceLT, Nat.reduceLeDiff, Int.reduceToNat, reduceCtorEq]
            exact ⟨_, rfl, by first | rfl | (rw [if_pos (by simp [d1, d2])]; rfl)⟩
          · simp (config := {maxSteps := 500000, implicitDefEqProofs := false}) only [go_sem, reduceIte, Nat.reduceEqDiff, Nat.reduceAdd, Nat.reduceSub, Nat.reduceMul, Nat.reducePow, Nat.reduceDiv, Nat.reduceMod, Nat.reduceBEq, Nat.reduceBNe, Nat.reduceLT, Nat.reduceLeDiff, Int.reduceToNat, reduceCtorEq, decide_eq_true d1, decide_eq_false d2, w1, w2]
            refine Z_true (by exact rfl) ?_
            simp (config := {maxSteps := 500000, implicitDefEqProofs := false}) only [go_sem, reduceIte, Nat.reduceEqDiff, Nat.reduceAdd, Nat.reduceSub, Nat.reduceMul, Nat.reducePow, Nat.reduceDiv, Nat.reduceMod, Nat.reduceBEq, Nat.reduceBNe, Nat.reduceLT, Nat.reduceLeDiff, Int.reduceToNat, reduceCtorEq, w3]
            exact ⟨_, rfl, by first | rfl | (rw [if_neg (by simp [d1, d2])]; rfl)⟩
        · by_cases d2 : d < 0
          · simp (config := {maxSteps := 500000, implicitDefEqProofs := false}) only [go_sem, reduceIte, Nat.reduceEqDiff, Nat.reduceAdd, Nat.reduceSub, Nat.reduceMul, Nat.reducePow, Nat.reduceDiv, Nat.reduceMod, Nat.reduceBEq, Nat.reduceBNe, Nat.reduceLT, Nat.reduceLeDiff, Int.reduceToNat, reduceCtorEq, decide_eq_false d1, decide_eq_true d2, w1, w2]
            refine Z_true (by exact rfl) ?_
            simp (config := {maxSteps := 500000, implicitDefEqProofs := false}) only [go_sem, reduceIte, Nat.reduceEqDiff, Nat.reduceAdd, Nat.reduceSub, Nat.reduceMul, Nat.reducePow, Nat.reduceDiv, Nat.reduceMod, Nat.reduceBEq, Nat.reduceBNe, Nat.reduceLT, Nat.reduceLeDiff, Int.reduceToNat, reduceCtorEq, w3]
            exact ⟨_, rfl, by first | rfl | (rw [if_neg (by simp [d1, d2])]; rfl)⟩
          · simp (config := {maxSteps := 500000, implicitDefEqProofs := false}) only [go_sem, reduceIte, Nat.reduceEqDiff, Nat.reduceAdd, Nat.reduceSub, Nat.reduceMul, Nat.reducePow, Nat.reduceDiv, Nat.reduceMod, Nat.reduceBEq, Nat.reduceBNe, Nat.reduceLT, Nat.reduceLeDiff, Int.reduceToNat, reduceCtorEq, decide_eq_false d1, decide_eq_false d2, w1, w2]
            refine Z_false (by exact rfl) ?_
            simp (config := {maxSteps := 500000, implicitDefEqProofs := false}) only [go_sem, reduceIte, Nat.reduceEqDiff, Nat.reduceAdd, Nat.reduceSub, Nat.reduceMul, Nat.reducePow, Nat.reduceDiv, Nat.reduceMod, Nat.reduceBEq, Nat.reduceBNe, Nat.reduceLT, Nat.reduceLeDiff, Int.reduceToNat, reduceCtorEq]
            exact ⟨_, rfl, by first | rfl | (rw [if_pos (by simp [d1, d2])]; rfl)⟩

theorem raddC {w : World} (x y : Int × Int) (h1 : in64 x.1) (h2 : in64 x.2) (h3 : in64 y.1) (h4 : in64 y.2) : GivesV (EE w) 19 [rA x, rA y] (rE (addR x y)) := by
  refine GivesV.of (fun _ => .sc _) (.cons _ _ (wfR x) (.cons _ _ (wfR y) .nil)) 4 ?_
  have hx : (rA x).fit = true := id rfl
  have hy : (rA y).fit = true := id rfl
  have lx : loadCs true 2 0 (rA x).cells = some (rA x) := rfl
  have ly : loadCs true 2 0 (rA y).cells = some (rA y) := rfl
  have kx : (rA x).cells.length = 2 := rfl
  have ky : (rA y).cells.length = 2 := rfl
  refine of_19 rfl rfl rfl (by kernel_rfl) ?_
  simp (config := {maxSteps := 500000, implicitDefEqProofs := false}) only [go_sem, reduceIte, Nat.reduceEqDiff, Nat.reduceAdd, Nat.reduceSub, Nat.reduceMul, Nat.reducePow, Nat.reduceDiv, Nat.reduceMod, Nat.reduceBEq, Nat.reduceBNe, Nat.reduceLT, Nat.reduceLeDiff, Int.reduceToNat, reduceCtorEq, hx, hy, lx, ly, kx, ky]
  refine (rvalidC x h1 h2).use ?_
  have fin0 : validR x = false ∨ validR y = false → addR x y = ((0, 0), 2) := by
    intro h
    simp only [addR]
    rcases h with h | h <;> simp [h]
  cases hv : validR x with
  | false =>
    simp (config := {maxSteps := 500000, implicitDefEqProofs := false}) only [go_sem, reduceIte, Nat.reduceEqDiff, Nat.reduceAdd, Nat.reduceSub, Nat.reduceMul, Nat.reducePow, Nat.reduceDiv, Nat.reduceMod, Nat.reduceBEq, Nat.reduceBNe, Nat.reduceLT, Nat.reduceLeDiff, Int.reduceToNat, reduceCtorEq]
    refine Z_true (by exact rfl) ?_
    simp (config := {maxSteps := 500000, implicitDefEqProofs := false}) only [go_sem, reduceIte, Nat.reduceEqDiff, Nat.reduceAdd, Nat.reduceSub, Nat.reduceMul, Nat.reducePow, Nat.reduceDiv, Nat.reduceMod, Nat.reduceBEq, Nat.reduceBNe, Nat.reduceLT, Nat.reduceLeDiff, Int.reduceToNat, reduceCtorEq]
    exact ⟨_, rfl, by rw [fin0 (.inl hv)]; rfl⟩
  | true =>
    simp (config := {maxSteps := 500000, implicitDefEqProofs := false}) only [go_sem, reduceIte, Nat.reduceEqDiff, Nat.reduceAdd, Nat.reduceSub, Nat.reduceMul, Nat.reducePow, Nat.reduceDiv, Nat.reduceMod, Nat.reduceBEq, Nat.reduceBNe, Nat.reduceLT, Nat.reduceLeDiff, Int.reduceToNat, reduceCtorEq, hx, hy, lx, ly, kx, ky]
    refine (rvalidC y h3 h4).use ?_
    cases hv2 : validR y with
    | false =>
      simp (config := {maxSteps := 500000, implicitDefEqProofs := false}) only [go_sem, reduceIte, Nat.reduceEqDiff, Nat.reduceAdd, Nat.reduceSub, Nat.reduceMul, Nat.reducePow, Nat.reduceDiv, Nat.reduceMod, Nat.reduceBEq, Nat.reduceBNe, Nat.reduceLT, Nat.reduceLeDiff, Int.reduceToNat, reduceCtorEq]
      refine Z_true (by exact rfl) ?_
      simp (config := {maxSteps := 500000, implicitDefEqProofs := false}) only [go_sem, reduceIte, Nat.reduceEqDiff, Nat.reduceAdd, Nat.reduceSub, Nat.reduceMul, Nat.reducePow, Nat.reduceDiv, Nat.reduceMod, Nat.reduceBEq, Nat.reduceBNe, Nat.reduceLT, Nat.reduceLeDiff, Int.reduceToNat, reduceCtorEq]
      exact ⟨_, rfl, by rw [fin0 (.inr hv2)]; rfl⟩
    | true =>
      obtain ⟨a1, a2, a3, a4⟩ := validR_bounds hv
      obtain ⟨b1, b2, b3, b4⟩ := validR_bounds hv2
      have bd : ∀ p q : Int, -2147483647 ≤ p → p ≤ 2147483647 → 0 < q → q ≤ 2147483647 → -4611686014132420609 ≤ p * q ∧ p * q ≤ 4611686014132420609 := by
        intro p q g1 g2 g3 g4
        constructor
        · have := Int.mul_le_mul_of_nonneg_right g1 (by omega : 0 ≤ q)
          omega
        · have := Int.mul_le_mul_of_nonneg_right g2 (by omega : 0 ≤ q)
          omega
      obtain ⟨p1, p2⟩ := bd x.1 y.2 a3 a4 b1 b2
      obtain ⟨p3, p4⟩ := bd y.1 x.2 b3 b4 a1 a2
      obtain ⟨p5, p6⟩ := bd x.2 y.2 (by omega) a2 b1 b2
      have w1 : IntKind.i64.wrap (x.1 * y.2) = x.1 * y.2 := wrap64 (by omega) (by omega)
      have w2 : IntKind.i64.wrap (y.1 * x.2) = y.1 * x.2 := wrap64 (by omega) (by omega)
      have w3 : IntKind.i64.wrap (x.2 * y.2) = x.2 * y.2 := wrap64 (by omega) (by omega)
      have w4 : IntKind.i64.wrap (x.1 * y.2 + y.1 * x.2) = x.1 * y.2 + y.1 * x.2 := wrap64 (by omega) (by omega)
      simp (config := {maxSteps := 500000, implicitDefEqProofs := false}) only [go_sem, reduceIte, Nat.reduceEqDiff, Nat.reduceAdd, Nat.reduceSub, Nat.reduceMul, Nat.reducePow, Nat.reduceDiv, Nat.reduceMod, Nat.reduceBEq, Nat.reduceBNe, Nat.reduceLT, Nat.reduceLeDiff, Int.reduceToNat, reduceCtorEq]
      refine Z_false (by exact rfl) ?_
      simp (config := {maxSteps := 500000, implicitDefEqProofs := false}) only [go_sem, reduceIte, Nat.reduceEqDiff, Nat.reduceAdd, Nat.reduceSub, Nat.reduceMul, Nat.reducePow, Nat.reduceDiv, Nat.reduceMod, Nat.reduceBEq, Nat.reduceBNe, Nat.reduceLT, Nat.reduceLeDiff, Int.reduceToNat, reduceCtorEq, rA, w1, w2, w3, w4]
      refine (rmakeC _ _ ⟨by omega, by omega⟩ ⟨by omega, by omega⟩).use ?_
      simp (config := {maxSteps := 500000, implicitDefEqProofs := false}) only [go_sem, reduceIte, Nat.reduceEqDiff, Nat.reduceAdd, Nat.reduceSub, Nat.reduceMul, Nat.reducePow, Nat.reduceDiv, Nat.reduceMod, Nat.reduceBEq, Nat.reduceBNe, Nat.reduceLT, Nat.reduceLeDiff, Int.reduceToNat, reduceCtorEq, rE, rA]
      refine ⟨_, rfl, ?_⟩
      simp only [addR, hv, hv2, Bool.and_self, if_true, rE, rA]
      try rfl
end Abs
