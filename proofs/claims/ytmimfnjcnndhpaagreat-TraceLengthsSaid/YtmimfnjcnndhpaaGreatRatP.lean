/-
  The program's ratios: what the functions of the package that carries them compute, each walked once.
-/
import Derived.Test.YtmimfnjcnndhpaaGreatRatF
import Derived.Test.YtmimfnjcnndhpaaGreatAbsG27
namespace Abs
set_option linter.unusedSimpArgs false
set_option linter.unusedVariables false
set_option maxRecDepth 100000
set_option maxHeartbeats 2000000
open Go Go.Proofs

/-! ### Ratios: what the program's functions return -/

def rA (x : Int × Int) : AVal := .agg [(AVal.sc (Value.int IntKind.i64 (x.1))), (AVal.sc (Value.int IntKind.i64 (x.2)))]
def maxR : Nat := 2147483647
def validR (x : Int × Int) : Bool := decide (0 < x.2) && (decide (x.2 ≤ 2147483647) && (decide (x.1.natAbs ≤ 2147483647) && decide (Nat.gcd x.1.natAbs x.2.natAbs = 1)))

def makeR (n d : Int) : (Int × Int) × Int :=
  if d = 0 then ((0, 0), 2)
  else
    let g := Nat.gcd n.natAbs d.natAbs
    let a := n.natAbs / g
    let b := d.natAbs / g
    if 2147483647 < a ∨ 2147483647 < b then ((0, 0), 7)
    else ((if decide (n < 0) = decide (d < 0) then (a : Int) else -(a : Int), b), 0)
def rE (r : (Int × Int) × Int) : AVal := .tuple [rA r.1, (AVal.sc (Value.int IntKind.i64 (r.2)))]
def addR (x y : Int × Int) : (Int × Int) × Int := if validR x && validR y then makeR (x.1 * y.2 + y.1 * x.2) (x.2 * y.2) else ((0, 0), 2)

theorem gcd1 {w : World} {p : Nat} : ∀ (b a : Nat) (σ : AStore), a < 18446744073709551616 → b < 18446744073709551616 → σ.get p = some (.cells 1 [.func (.func 97) [] [.ptr p 0 0]]) →
    ACalls (EE w) 97 [(AVal.sc (Value.int IntKind.u64 (a))), (AVal.sc (Value.int IntKind.u64 (b))), .ptr p 0 0] σ fun e σ' => σ' = σ ∧ e = .ret (AVal.sc (Value.int IntKind.u64 (Nat.gcd a b))) := by
  intro b
  induction b using Nat.strongRecOn with
  | ind b ih =>
    intro a σ ha hb hg
    refine of_97 rfl rfl rfl (by kernel_rfl) ?_
    simp (config := {maxSteps := 500000, implicitDefEqProofs := false}) only [go_sem, reduceIte, Nat.reduceEqDiff, Nat.reduceAdd, Nat.reduceSub, Nat.reduceMul, Nat.reducePow, Nat.reduceDiv, Nat.reduceMod, Nat.reduceBEq, Nat.reduceBNe, Nat.reduceLT, Nat.reduceLeDiff, Int.reduceToNat, reduceCtorEq]
    (first | refine Z_dec (by exact rfl) (fun h => ?_) (fun h => ?_) | refine Zs_dec (by exact rfl) (fun h => ?_) (fun h => ?_) | refine Z_ndec (by exact rfl) (fun h => ?_) (fun h => ?_) | refine Zs_ndec (by exact rfl) (fun h => ?_) (fun h => ?_))
    · simp (config := {maxSteps := 500000, implicitDefEqProofs := false}) only [go_sem, reduceIte, Nat.reduceEqDiff, Nat.reduceAdd, Nat.reduceSub, Nat.reduceMul, Nat.reducePow, Nat.reduceDiv, Nat.reduceMod, Nat.reduceBEq, Nat.reduceBNe, Nat.reduceLT, Nat.reduceLeDiff, Int.reduceToNat, reduceCtorEq]
      obtain rfl : b = 0 := by omega
      rw [Nat.gcd_zero_right]
    · simp (config := {maxSteps := 500000, implicitDefEqProofs := false}) only [go_sem, reduceIte, Nat.reduceEqDiff, Nat.reduceAdd, Nat.reduceSub, Nat.reduceMul, Nat.reducePow, Nat.reduceDiv, Nat.reduceMod, Nat.reduceBEq, Nat.reduceBNe, Nat.reduceLT, Nat.reduceLeDiff, Int.reduceToNat, reduceCtorEq]
      have hb0 : b ≠ 0 := by omega
      have hrem := sc_remU (a := a) hb0
      (first | refine Z_draw (by kernel_rfl) [0, 1, 2, 3, 4, 5, 6] [(6, 63), (5, 31), (4, 12), (3, 0), (2, 0), (1, 0), (0, 0)] (by kernel_rfl) (by kernel_rfl) ?_ | (refine Z_seq ?_; (try simp (config := {maxSteps := 500000, implicitDefEqProofs := false}) only [go_sem, reduceIte, Nat.reduceEqDiff, Nat.reduceAdd, Nat.reduceSub, Nat.reduceMul, Nat.reducePow, Nat.reduceDiv, Nat.reduceMod, Nat.reduceBEq, Nat.reduceBNe, Nat.reduceLT, Nat.reduceLeDiff, Int.reduceToNat, reduceCtorEq]); refine Z_draw (by kernel_rfl) [0, 1, 2, 3, 4, 5, 6] [(6, 63), (5, 31), (4, 12), (3, 0), (2, 0), (1, 0), (0, 0)] (by kernel_rfl) (by kernel_rfl) ?_))
      simp (config := {maxSteps := 500000, implicitDefEqProofs := false}) only [go_sem, reduceIte, Nat.reduceEqDiff, Nat.reduceAdd, Nat.reduceSub, Nat.reduceMul, Nat.reducePow, Nat.reduceDiv, Nat.reduceMod, Nat.reduceBEq, Nat.reduceBNe, Nat.reduceLT, Nat.reduceLeDiff, Int.reduceToNat, reduceCtorEq, hg, hrem]
      refine (ih (a % b) (Nat.mod_lt _ (by omega)) b σ hb (by have := Nat.mod_lt a (show 0 < b by omega); omega) hg).use1D ?_
      simp (config := {maxSteps := 500000, implicitDefEqProofs := false}) only [go_sem, reduceIte, Nat.reduceEqDiff, Nat.reduceAdd, Nat.reduceSub, Nat.reduceMul, Nat.reducePow, Nat.reduceDiv, Nat.reduceMod, Nat.reduceBEq, Nat.reduceBNe, Nat.reduceLT, Nat.reduceLeDiff, Int.reduceToNat, reduceCtorEq]
      rw [Nat.gcd_comm b, ← Nat.gcd_rec, Nat.gcd_comm]

theorem gcdC {w : World} (a b : Nat) (ha : a < 18446744073709551616) (hb : b < 18446744073709551616) : GivesV (EE w) 42 [(AVal.sc (Value.int IntKind.u64 (a))), (AVal.sc (Value.int IntKind.u64 (b)))] (AVal.sc (Value.int IntKind.u64 (Nat.gcd a b))) := by
  refine GivesV.of (fun _ => .sc _) (.cons _ _ (.sc _) (.cons _ _ (.sc _) .nil)) 1 ?_
  refine of_42 rfl rfl rfl (by kernel_rfl) ?_
  simp (config := {maxSteps := 500000, implicitDefEqProofs := false}) only [go_sem, reduceIte, Nat.reduceEqDiff, Nat.reduceAdd, Nat.reduceSub, Nat.reduceMul, Nat.reducePow, Nat.reduceDiv, Nat.reduceMod, Nat.reduceBEq, Nat.reduceBNe, Nat.reduceLT, Nat.reduceLeDiff, Int.reduceToNat, reduceCtorEq]
  refine (gcd1 b a _ ha hb (by simp (config := {maxSteps := 500000, implicitDefEqProofs := false}) only [go_sem, reduceIte, Nat.reduceEqDiff, Nat.reduceAdd, Nat.reduceSub, Nat.reduceMul, Nat.reducePow, Nat.reduceDiv, Nat.reduceMod, Nat.reduceBEq, Nat.reduceBNe, Nat.reduceLT, Nat.reduceLeDiff, Int.reduceToNat, reduceCtorEq])).use1 ?_
  simp (config := {maxSteps := 500000, implicitDefEqProofs := false}) only [go_sem, reduceIte, Nat.reduceEqDiff, Nat.reduceAdd, Nat.reduceSub, Nat.reduceMul, Nat.reducePow, Nat.reduceDiv, Nat.reduceMod, Nat.reduceBEq, Nat.reduceBNe, Nat.reduceLT, Nat.reduceLeDiff, Int.reduceToNat, reduceCtorEq]
  exact ⟨_, rfl, rfl⟩

theorem absC {w : World} (n : Int) (hn : in64 n) : GivesV (EE w) 41 [(AVal.sc (Value.int IntKind.i64 (n)))] (AVal.sc (Value.int IntKind.u64 (n.natAbs))) := by
  obtain ⟨h1, h2⟩ := hn
  refine GivesV.of (fun _ => .sc _) (.cons _ _ (.sc _) .nil) 1 ?_
  refine of_41 rfl rfl rfl (by kernel_rfl) ?_
  simp (config := {maxSteps := 500000, implicitDefEqProofs := false}) only [go_sem, reduceIte, Nat.reduceEqDiff, Nat.reduceAdd, Nat.reduceSub, Nat.reduceMul, Nat.reducePow, Nat.reduceDiv, Nat.reduceMod, Nat.reduceBEq, Nat.reduceBNe, Nat.reduceLT, Nat.reduceLeDiff, Int.reduceToNat, reduceCtorEq]
  (first | refine Z_dec (by exact rfl) (fun h => ?_) (fun h => ?_) | refine Zs_dec (by exact rfl) (fun h => ?_) (fun h => ?_) | refine Z_ndec (by exact rfl) (fun h => ?_) (fun h => ?_) | refine Zs_ndec (by exact rfl) (fun h => ?_) (fun h => ?_))
  · have e1 : IntKind.u64.wrap n = n + 18446744073709551616 := by
      have key : IntKind.u64.wrap n = n % 2 ^ 64 := by simp [IntKind.wrap, IntKind.bits, IntKind.signed]
      rw [key]; omega
    have e2 : IntKind.u64.wrap (0 - (n + 18446744073709551616)) = (n.natAbs : Int) := by
      have key : IntKind.u64.wrap (0 - (n + 18446744073709551616)) = (0 - (n + 18446744073709551616)) % 2 ^ 64 := by simp [IntKind.wrap, IntKind.bits, IntKind.signed]
      rw [key]; omega
    simp (config := {maxSteps := 500000, implicitDefEqProofs := false}) only [go_sem, reduceIte, Nat.reduceEqDiff, Nat.reduceAdd, Nat.reduceSub, Nat.reduceMul, Nat.reducePow, Nat.reduceDiv, Nat.reduceMod, Nat.reduceBEq, Nat.reduceBNe, Nat.reduceLT, Nat.reduceLeDiff, Int.reduceToNat, reduceCtorEq, e1, e2]
    exact ⟨_, rfl, rfl⟩
  · have e1 : IntKind.u64.wrap n = (n.natAbs : Int) := by rw [wrapU (by omega) (by omega)]; omega
    simp (config := {maxSteps := 500000, implicitDefEqProofs := false}) only [go_sem, reduceIte, Nat.reduceEqDiff, Nat.reduceAdd, Nat.reduceSub, Nat.reduceMul, Nat.reducePow, Nat.reduceDiv, Nat.reduceMod, Nat.reduceBEq, Nat.reduceBNe, Nat.reduceLT, Nat.reduceLeDiff, Int.reduceToNat, reduceCtorEq, e1]
    exact ⟨_, rfl, rfl⟩

theorem wfR (x : Int × Int) : WF 0 (rA x) := .agg _ (.cons _ _ (.sc _) (.cons _ _ (.sc _) .nil))

theorem validC {w : World} (x : Int × Int) (h1 : in64 x.1) (h2 : in64 x.2) : GivesV (EE w) 16 [rA x] (AVal.sc (Value.bool (validR x))) := by
  refine GivesV.of (fun _ => .sc _) (.cons _ _ (wfR x) .nil) 1 ?_
  have hn := h1
  obtain ⟨h3, h4⟩ := h2
  have e1 : 0 < x.2 → IntKind.u64.wrap x.2 = (x.2.natAbs : Int) := fun h => by rw [wrapU (by omega) (by omega)]; omega
  have hb1 : x.1.natAbs < 18446744073709551616 := by obtain ⟨h5, h6⟩ := h1; omega
  have hb2 : x.2.natAbs < 18446744073709551616 := by omega
  refine of_16 rfl rfl rfl (by kernel_rfl) ?_
  simp (config := {maxSteps := 500000, implicitDefEqProofs := false}) only [go_sem, reduceIte, Nat.reduceEqDiff, Nat.reduceAdd, Nat.reduceSub, Nat.reduceMul, Nat.reducePow, Nat.reduceDiv, Nat.reduceMod, Nat.reduceBEq, Nat.reduceBNe, Nat.reduceLT, Nat.reduceLeDiff, Int.reduceToNat, reduceCtorEq, rA]
  (first | refine Z_draw (by kernel_rfl) [0, 1, 2, 3, 4, 5, 6, 7, 8, 9, 10, 11, 12, 13, 14, 15, 16, 18, 19, 20, 17, 21, 22, 23, 24] [(24, 16777215), (23, 8388607), (22, 4194303), (21, 2097151), (17, 131071), (20, 819199), (19, 294911), (18, 32767), (16, 65535), (15, 32767), (14, 16383), (13, 8191), (12, 4095), (11, 2047), (10, 1023), (9, 511), (8, 255), (7, 127), (6, 63), (5, 31), (4, 15), (3, 7), (2, 3), (1, 1), (0, 0)] (by kernel_rfl) (by kernel_rfl) ?_ | (refine Z_seq ?_; (try simp (config := {maxSteps := 500000, implicitDefEqProofs := false}) only [go_sem, reduceIte, Nat.reduceEqDiff, Nat.reduceAdd, Nat.reduceSub, Nat.reduceMul, Nat.reducePow, Nat.reduceDiv, Nat.reduceMod, Nat.reduceBEq, Nat.reduceBNe, Nat.reduceLT, Nat.reduceLeDiff, Int.reduceToNat, reduceCtorEq]); refine Z_draw (by kernel_rfl) [0, 1, 2, 3, 4, 5, 6, 7, 8, 9, 10, 11, 12, 13, 14, 15, 16, 18, 19, 20, 17, 21, 22, 23, 24] [(24, 16777215), (23, 8388607), (22, 4194303), (21, 2097151), (17, 131071), (20, 819199), (19, 294911), (18, 32767), (16, 65535), (15, 32767), (14, 16383), (13, 8191), (12, 4095), (11, 2047), (10, 1023), (9, 511), (8, 255), (7, 127), (6, 63), (5, 31), (4, 15), (3, 7), (2, 3), (1, 1), (0, 0)] (by kernel_rfl) (by kernel_rfl) ?_))
  by_cases c1 : 0 < x.2
  · by_cases c2 : x.2 ≤ 2147483647
    · simp (config := {maxSteps := 500000, implicitDefEqProofs := false}) only [go_sem, reduceIte, Nat.reduceEqDiff, Nat.reduceAdd, Nat.reduceSub, Nat.reduceMul, Nat.reducePow, Nat.reduceDiv, Nat.reduceMod, Nat.reduceBEq, Nat.reduceBNe, Nat.reduceLT, Nat.reduceLeDiff, Int.reduceToNat, reduceCtorEq, decide_eq_true c1, decide_eq_true c2]
      refine (absC x.1 hn).useD ?_
      by_cases c3 : (x.1.natAbs : Int) ≤ 2147483647
      · have c3' : x.1.natAbs ≤ 2147483647 := by omega
        simp (config := {maxSteps := 500000, implicitDefEqProofs := false}) only [go_sem, reduceIte, Nat.reduceEqDiff, Nat.reduceAdd, Nat.reduceSub, Nat.reduceMul, Nat.reducePow, Nat.reduceDiv, Nat.reduceMod, Nat.reduceBEq, Nat.reduceBNe, Nat.reduceLT, Nat.reduceLeDiff, Int.reduceToNat, reduceCtorEq, decide_eq_true c3, e1 c1]
        refine (absC x.1 hn).useD ?_
        simp (config := {maxSteps := 500000, implicitDefEqProofs := false}) only [go_sem, reduceIte, Nat.reduceEqDiff, Nat.reduceAdd, Nat.reduceSub, Nat.reduceMul, Nat.reducePow, Nat.reduceDiv, Nat.reduceMod, Nat.reduceBEq, Nat.reduceBNe, Nat.reduceLT, Nat.reduceLeDiff, Int.reduceToNat, reduceCtorEq]
        refine (gcdC _ _ hb1 hb2).useD ?_
        simp (config := {maxSteps := 500000, implicitDefEqProofs := false}) only [go_sem, reduceIte, Nat.reduceEqDiff, Nat.reduceAdd, Nat.reduceSub, Nat.reduceMul, Nat.reducePow, Nat.reduceDiv, Nat.reduceMod, Nat.reduceBEq, Nat.reduceBNe, Nat.reduceLT, Nat.reduceLeDiff, Int.reduceToNat, reduceCtorEq]
        refine ⟨_, rfl, ?_⟩
        have : decide (((Nat.gcd x.1.natAbs x.2.natAbs : Nat) : Int) = 1) = decide (Nat.gcd x.1.natAbs x.2.natAbs = 1) := by
          by_cases h : Nat.gcd x.1.natAbs x.2.natAbs = 1
          · rw [decide_eq_true h, decide_eq_true (by omega)]
          · rw [decide_eq_false h, decide_eq_false (by omega)]
        simp only [validR, decide_eq_true c1, decide_eq_true c2, decide_eq_true c3', Bool.true_and, frz_sc, this]
      · have c3' : ¬ x.1.natAbs ≤ 2147483647 := by omega
        simp (config := {maxSteps := 500000, implicitDefEqProofs := false}) only [go_sem, reduceIte, Nat.reduceEqDiff, Nat.reduceAdd, Nat.reduceSub, Nat.reduceMul, Nat.reducePow, Nat.reduceDiv, Nat.reduceMod, Nat.reduceBEq, Nat.reduceBNe, Nat.reduceLT, Nat.reduceLeDiff, Int.reduceToNat, reduceCtorEq, decide_eq_false c3]
        refine ⟨_, rfl, ?_⟩
        simp only [validR, decide_eq_false c3', Bool.false_and, Bool.and_false, frz_sc]
    · simp (config := {maxSteps := 500000, implicitDefEqProofs := false}) only [go_sem, reduceIte, Nat.reduceEqDiff, Nat.reduceAdd, Nat.reduceSub, Nat.reduceMul, Nat.reducePow, Nat.reduceDiv, Nat.reduceMod, Nat.reduceBEq, Nat.reduceBNe, Nat.reduceLT, Nat.reduceLeDiff, Int.reduceToNat, reduceCtorEq, decide_eq_true c1, decide_eq_false c2]
      refine ⟨_, rfl, ?_⟩
      simp only [validR, decide_eq_false c2, Bool.false_and, Bool.and_false, frz_sc]
  · simp (config := {maxSteps := 500000, implicitDefEqProofs := false}) only [go_sem, reduceIte, Nat.reduceEqDiff, Nat.reduceAdd, Nat.reduceSub, Nat.reduceMul, Nat.reducePow, Nat.reduceDiv, Nat.reduceMod, Nat.reduceBEq, Nat.reduceBNe, Nat.reduceLT, Nat.reduceLeDiff, Int.reduceToNat, reduceCtorEq, decide_eq_false c1]
    refine ⟨_, rfl, ?_⟩
    simp only [validR, decide_eq_false c1, Bool.false_and, frz_sc]

theorem validsC {w : World} (x y : Int × Int) (h1 : in64 x.1) (h2 : in64 x.2) (h3 : in64 y.1) (h4 : in64 y.2) : GivesV (EE w) 43 [rA x, rA y] (AVal.sc (Value.bool (validR x && validR y))) := by
  refine GivesV.of (fun _ => .sc _) (.cons _ _ (wfR x) (.cons _ _ (wfR y) .nil)) 1 ?_
  have hx : (rA x).fit = true := id rfl
  have hy : (rA y).fit = true := id rfl
  have lx : loadCs true 2 0 (rA x).cells = some (rA x) := rfl
  have ly : loadCs true 2 0 (rA y).cells = some (rA y) := rfl
  have kx : (rA x).cells.length = 2 := rfl
  have ky : (rA y).cells.length = 2 := rfl
  refine of_43 rfl rfl rfl (by kernel_rfl) ?_
  simp (config := {maxSteps := 500000, implicitDefEqProofs := false}) only [go_sem, reduceIte, Nat.reduceEqDiff, Nat.reduceAdd, Nat.reduceSub, Nat.reduceMul, Nat.reducePow, Nat.reduceDiv, Nat.reduceMod, Nat.reduceBEq, Nat.reduceBNe, Nat.reduceLT, Nat.reduceLeDiff, Int.reduceToNat, reduceCtorEq, hx, hy, lx, ly, kx, ky]
  refine (validC x h1 h2).use ?_
  cases hv : validR x with
  | true =>
    simp (config := {maxSteps := 500000, implicitDefEqProofs := false}) only [go_sem, reduceIte, Nat.reduceEqDiff, Nat.reduceAdd, Nat.reduceSub, Nat.reduceMul, Nat.reducePow, Nat.reduceDiv, Nat.reduceMod, Nat.reduceBEq, Nat.reduceBNe, Nat.reduceLT, Nat.reduceLeDiff, Int.reduceToNat, reduceCtorEq, hx, hy, lx, ly, kx, ky]
    refine (validC y h3 h4).use ?_
    simp (config := {maxSteps := 500000, implicitDefEqProofs := false}) only [go_sem, reduceIte, Nat.reduceEqDiff, Nat.reduceAdd, Nat.reduceSub, Nat.reduceMul, Nat.reducePow, Nat.reduceDiv, Nat.reduceMod, Nat.reduceBEq, Nat.reduceBNe, Nat.reduceLT, Nat.reduceLeDiff, Int.reduceToNat, reduceCtorEq]
    exact ⟨_, rfl, rfl⟩
  | false =>
    simp (config := {maxSteps := 500000, implicitDefEqProofs := false}) only [go_sem, reduceIte, Nat.reduceEqDiff, Nat.reduceAdd, Nat.reduceSub, Nat.reduceMul, Nat.reducePow, Nat.reduceDiv, Nat.reduceMod, Nat.reduceBEq, Nat.reduceBNe, Nat.reduceLT, Nat.reduceLeDiff, Int.reduceToNat, reduceCtorEq, hx, hy, lx, ly, kx, ky]
    exact ⟨_, rfl, rfl⟩

theorem makeC {w : World} (n d : Int) (hn : in64 n) (hd : in64 d) : GivesV (EE w) 44 [(AVal.sc (Value.int IntKind.i64 (n))), (AVal.sc (Value.int IntKind.i64 (d)))] (rE (makeR n d)) := by
  refine GivesV.of (fun _ => .sc _) (.cons _ _ (.sc _) (.cons _ _ (.sc _) .nil)) 4 ?_
  have hb1 : n.natAbs < 18446744073709551616 := by obtain ⟨h5, h6⟩ := hn; omega
  have hb2 : d.natAbs < 18446744073709551616 := by obtain ⟨h5, h6⟩ := hd; omega
  refine of_44 rfl rfl rfl (by kernel_rfl) ?_
  simp (config := {maxSteps := 500000, implicitDefEqProofs := false}) only [go_sem, reduceIte, Nat.reduceEqDiff, Nat.reduceAdd, Nat.reduceSub, Nat.reduceMul, Nat.reducePow, Nat.reduceDiv, Nat.reduceMod, Nat.reduceBEq, Nat.reduceBNe, Nat.reduceLT, Nat.reduceLeDiff, Int.reduceToNat, reduceCtorEq]
  (first | refine Z_dec (by exact rfl) (fun h => ?_) (fun h => ?_) | refine Zs_dec (by exact rfl) (fun h => ?_) (fun h => ?_) | refine Z_ndec (by exact rfl) (fun h => ?_) (fun h => ?_) | refine Zs_ndec (by exact rfl) (fun h => ?_) (fun h => ?_))
  · simp (config := {maxSteps := 500000, implicitDefEqProofs := false}) only [go_sem, reduceIte, Nat.reduceEqDiff, Nat.reduceAdd, Nat.reduceSub, Nat.reduceMul, Nat.reducePow, Nat.reduceDiv, Nat.reduceMod, Nat.reduceBEq, Nat.reduceBNe, Nat.reduceLT, Nat.reduceLeDiff, Int.reduceToNat, reduceCtorEq]
    exact ⟨_, rfl, by simp only [makeR, if_pos h]; rfl⟩
  · simp (config := {maxSteps := 500000, implicitDefEqProofs := false}) only [go_sem, reduceIte, Nat.reduceEqDiff, Nat.reduceAdd, Nat.reduceSub, Nat.reduceMul, Nat.reducePow, Nat.reduceDiv, Nat.reduceMod, Nat.reduceBEq, Nat.reduceBNe, Nat.reduceLT, Nat.reduceLeDiff, Int.reduceToNat, reduceCtorEq]
    refine (absC n hn).use ?_
    simp (config := {maxSteps := 500000, implicitDefEqProofs := false}) only [go_sem, reduceIte, Nat.reduceEqDiff, Nat.reduceAdd, Nat.reduceSub, Nat.reduceMul, Nat.reducePow, Nat.reduceDiv, Nat.reduceMod, Nat.reduceBEq, Nat.reduceBNe, Nat.reduceLT, Nat.reduceLeDiff, Int.reduceToNat, reduceCtorEq]
    refine (absC d hd).use ?_
    simp (config := {maxSteps := 500000, implicitDefEqProofs := false}) only [go_sem, reduceIte, Nat.reduceEqDiff, Nat.reduceAdd, Nat.reduceSub, Nat.reduceMul, Nat.reducePow, Nat.reduceDiv, Nat.reduceMod, Nat.reduceBEq, Nat.reduceBNe, Nat.reduceLT, Nat.reduceLeDiff, Int.reduceToNat, reduceCtorEq]
    refine (gcdC _ _ hb1 hb2).use ?_
    simp (config := {maxSteps := 500000, implicitDefEqProofs := false}) only [go_sem, reduceIte, Nat.reduceEqDiff, Nat.reduceAdd, Nat.reduceSub, Nat.reduceMul, Nat.reducePow, Nat.reduceDiv, Nat.reduceMod, Nat.reduceBEq, Nat.reduceBNe, Nat.reduceLT, Nat.reduceLeDiff, Int.reduceToNat, reduceCtorEq]
    have hg0 : Nat.gcd n.natAbs d.natAbs ≠ 0 := by
      intro h0
      have := Nat.eq_zero_of_gcd_eq_zero_right h0
      omega
    have hmk : makeR n d = if 2147483647 < n.natAbs / Nat.gcd n.natAbs d.natAbs ∨ 2147483647 < d.natAbs / Nat.gcd n.natAbs d.natAbs then ((0, 0), 7)
      else ((if decide (n < 0) = decide (d < 0) then ((n.natAbs / Nat.gcd n.natAbs d.natAbs : Nat) : Int) else -((n.natAbs / Nat.gcd n.natAbs d.natAbs : Nat) : Int), ((d.natAbs / Nat.gcd n.natAbs d.natAbs : Nat) : Int)), 0) := by
      simp only [makeR, if_neg h]
    have q1 := sc_quoU (a := n.natAbs) hg0 hb1
    have q2 := sc_quoU (a := d.natAbs) hg0 hb2
    rw [hmk]
    generalize n.natAbs / Nat.gcd n.natAbs d.natAbs = a at *
    generalize d.natAbs / Nat.gcd n.natAbs d.natAbs = b at *
    clear hmk
    (first | refine Z_draw (by kernel_rfl) [0, 1, 2, 3, 4, 5, 6, 7] [(7, 127), (6, 7), (5, 24), (4, 0), (3, 0), (2, 3), (1, 0), (0, 0)] (by kernel_rfl) (by kernel_rfl) ?_ | (refine Z_seq ?_; (try simp (config := {maxSteps := 500000, implicitDefEqProofs := false}) only [go_sem, reduceIte, Nat.reduceEqDiff, Nat.reduceAdd, Nat.reduceSub, Nat.reduceMul, Nat.reducePow, Nat.reduceDiv, Nat.reduceMod, Nat.reduceBEq, Nat.reduceBNe, Nat.reduceLT, Nat.reduceLeDiff, Int.reduceToNat, reduceCtorEq]); refine Z_draw (by kernel_rfl) [0, 1, 2, 3, 4, 5, 6, 7] [(7, 127), (6, 7), (5, 24), (4, 0), (3, 0), (2, 3), (1, 0), (0, 0)] (by kernel_rfl) (by kernel_rfl) ?_))
    simp (config := {maxSteps := 500000, implicitDefEqProofs := false}) only [go_sem, reduceIte, Nat.reduceEqDiff, Nat.reduceAdd, Nat.reduceSub, Nat.reduceMul, Nat.reducePow, Nat.reduceDiv, Nat.reduceMod, Nat.reduceBEq, Nat.reduceBNe, Nat.reduceLT, Nat.reduceLeDiff, Int.reduceToNat, reduceCtorEq, q1, q2]
    by_cases c1 : (2147483647 : Int) < (a : Int)
    · simp (config := {maxSteps := 500000, implicitDefEqProofs := false}) only [go_sem, reduceIte, Nat.reduceEqDiff, Nat.reduceAdd, Nat.reduceSub, Nat.reduceMul, Nat.reducePow, Nat.reduceDiv, Nat.reduceMod, Nat.reduceBEq, Nat.reduceBNe, Nat.reduceLT, Nat.reduceLeDiff, Int.reduceToNat, reduceCtorEq, decide_eq_true c1]
      refine Z_true (by exact rfl) ?_
      simp (config := {maxSteps := 500000, implicitDefEqProofs := false}) only [go_sem, reduceIte, Nat.reduceEqDiff, Nat.reduceAdd, Nat.reduceSub, Nat.reduceMul, Nat.reducePow, Nat.reduceDiv, Nat.reduceMod, Nat.reduceBEq, Nat.reduceBNe, Nat.reduceLT, Nat.reduceLeDiff, Int.reduceToNat, reduceCtorEq]
      exact ⟨_, rfl, by rw [if_pos (.inl (by omega))]; rfl⟩
    · by_cases c2 : (2147483647 : Int) < (b : Int)
      · simp (config := {maxSteps := 500000, implicitDefEqProofs := false}) only [go_sem, reduceIte, Nat.reduceEqDiff, Nat.reduceAdd, Nat.reduceSub, Nat.reduceMul, Nat.reducePow, Nat.reduceDiv, Nat.reduceMod, Nat.reduceBEq, Nat.reduceBNe, Nat.reduceLT, Nat.reduceLeDiff, Int.reduceToNat, reduceCtorEq, decide_eq_false c1, decide_eq_true c2]
        refine Z_true (by exact rfl) ?_
        simp (config := {maxSteps := 500000, implicitDefEqProofs := false}) only [go_sem, reduceIte, Nat.reduceEqDiff, Nat.reduceAdd, Nat.reduceSub, Nat.reduceMul, Nat.reducePow, Nat.reduceDiv, Nat.reduceMod, Nat.reduceBEq, Nat.reduceBNe, Nat.reduceLT, Nat.reduceLeDiff, Int.reduceToNat, reduceCtorEq]
        exact ⟨_, rfl, by rw [if_pos (.inr (by omega))]; rfl⟩
      · have w1 : IntKind.i64.wrap (a : Int) = a := wrap64 (by omega) (by omega)
        have w2 : IntKind.i64.wrap (b : Int) = b := wrap64 (by omega) (by omega)
        have w3 : IntKind.i64.wrap (0 - (a : Int)) = -(a : Int) := by rw [wrap64 (by omega) (by omega)]; omega
        rw [if_neg (by omega)]
        simp (config := {maxSteps := 500000, implicitDefEqProofs := false}) only [go_sem, reduceIte, Nat.reduceEqDiff, Nat.reduceAdd, Nat.reduceSub, Nat.reduceMul, Nat.reducePow, Nat.reduceDiv, Nat.reduceMod, Nat.reduceBEq, Nat.reduceBNe, Nat.reduceLT, Nat.reduceLeDiff, Int.reduceToNat, reduceCtorEq, decide_eq_false c1, decide_eq_false c2]
        refine Z_false (by exact rfl) ?_
        by_cases d1 : n < 0
        · by_cases d2 : d < 0
          · simp (config := {maxSteps := 500000, implicitDefEqProofs := false}) only [go_sem, reduceIte, Nat.reduceEqDiff, Nat.reduceAdd, Nat.reduceSub, Nat.reduceMul, Nat.reducePow, Nat.reduceDiv, Nat.reduceMod, Nat.reduceBEq, Nat.reduceBNe, Nat.reduceLT, Nat.reduceLeDiff, Int.reduceToNat, reduceCtorEq, decide_eq_true d1, decide_eq_true d2, w1, w2]
            refine Z_false (by exact rfl) ?_
            simp (config := {maxSteps := 500000, implicitDefEqProofs := false}) only [go_sem, reduceIte, Nat.reduceEqDiff, Nat.reduceAdd, Nat.reduceSub, Nat.reduceMul, Nat.reducePow, Nat.reduceDiv, Nat.reduceMod, Nat.reduceBEq, Nat.reduceBNe, Nat.reduceLT, Nat.reduceLeDiff, Int.reduceToNat, reduceCtorEq]
            exact ⟨_, rfl, by first | rfl | (rw [if_pos (by simp [d1, d2])]; rfl)⟩
          · simp (config := {maxSteps := 500000, implicitDefEqProofs := false}) only [go_sem, reduceIte, Nat.reduceEqDiff, Nat.reduceAdd, Nat.reduceSub, Nat.reduceMul, Nat.reducePow, Nat.reduceDiv, Nat.reduceMod, Nat.reduceBEq, Nat.reduceBNe, Nat.reduceLT, Nat.reduceLeDiff, Int.reduceToNat, reduceCtorEq, decide_eq_true d1, decide_eq_false d2, w1, w2]
            refine Z_true (by exact rfl) ?_
            simp (config := {maxSteps := 500000, implicitDefEqProofs := false}) only [go_sem, reduceIte, Nat.reduceEqDiff, Nat.reduceAdd, Nat.reduceSub, Nat.reduceMul, Nat.reducePow, Nat.reduceDiv, Nat.reduceMod, Nat.reduceBEq, Nat.reduceBNe, Nat.reduceLT, Nat.reduceLeDiff, Int.reduceToNat, reduceCtorEq, w3]
            exact ⟨_, rfl, by first | rfl | (rw [if_neg (by simp [d1, d2])]; rfl)⟩
        · by_cases d2 : d < 0
          · simp (config := {maxSteps := 500000, implicitDefEqProofs := false}) only [go_sem, reduceIte, Nat.reduceEqDiff, Nat.reduceAdd, Nat.reduceSub, Nat.reduceMul, Nat.reducePow, Nat.reduceDiv, Nat.reduceMod, Nat.reduceBEq, Nat.reduceBNe, Nat.reduceLT, Nat.reduceLeDiff, Int.reduceToNat, reduceCtorEq, decide_eq_false d1, decide_eq_true d2, w1, w2]
            refine Z_true (by exact rfl) ?_
            simp (config := {maxSteps := 500000, implicitDefEqProofs := false}) only [go_sem, reduceIte, Nat.reduceEqDiff, Nat.reduceAdd, Nat.reduceSub, Nat.reduceMul, Nat.reducePow, Nat.reduceDiv, Nat.reduceMod, Nat.reduceBEq, Nat.reduceBNe, Nat.reduceLT, Nat.reduceLeDiff, Int.reduceToNat, reduceCtorEq, w3]
            exact ⟨_, rfl, by first | rfl | (rw [if_neg (by simp [d1, d2])]; rfl)⟩
          · simp (config := {maxSteps := 500000, implicitDefEqProofs := false}) only [go_sem, reduceIte, Nat.reduceEqDiff, Nat.reduceAdd, Nat.reduceSub, Nat.reduceMul, Nat.reducePow, Nat.reduceDiv, Nat.reduceMod, Nat.reduceBEq, Nat.reduceBNe, Nat.reduceLT, Nat.reduceLeDiff, Int.reduceToNat, reduceCtorEq, decide_eq_false d1, decide_eq_false d2, w1, w2]
            refine Z_false (by exact rfl) ?_
            simp (config := {maxSteps := 500000, implicitDefEqProofs := false}) only [go_sem, reduceIte, Nat.reduceEqDiff, Nat.reduceAdd, Nat.reduceSub, Nat.reduceMul, Nat.reducePow, Nat.reduceDiv, Nat.reduceMod, Nat.reduceBEq, Nat.reduceBNe, Nat.reduceLT, Nat.reduceLeDiff, Int.reduceToNat, reduceCtorEq]
            exact ⟨_, rfl, by first | rfl | (rw [if_pos (by simp [d1, d2])]; rfl)⟩

theorem validR_bounds {x : Int × Int} (h : validR x = true) : 0 < x.2 ∧ x.2 ≤ 2147483647 ∧ -2147483647 ≤ x.1 ∧ x.1 ≤ 2147483647 := by
  simp only [validR, Bool.and_eq_true, decide_eq_true_eq] at h
  obtain ⟨h1, h2, h3, _⟩ := h
  omega

theorem addC {w : World} (x y : Int × Int) (h1 : in64 x.1) (h2 : in64 x.2) (h3 : in64 y.1) (h4 : in64 y.2) : GivesV (EE w) 17 [rA x, rA y] (rE (addR x y)) := by
  refine GivesV.of (fun _ => .sc _) (.cons _ _ (wfR x) (.cons _ _ (wfR y) .nil)) 4 ?_
  have hx : (rA x).fit = true := id rfl
  have hy : (rA y).fit = true := id rfl
  have lx : loadCs true 2 0 (rA x).cells = some (rA x) := rfl
  have ly : loadCs true 2 0 (rA y).cells = some (rA y) := rfl
  have kx : (rA x).cells.length = 2 := rfl
  have ky : (rA y).cells.length = 2 := rfl
  refine of_17 rfl rfl rfl (by kernel_rfl) ?_
  simp (config := {maxSteps := 500000, implicitDefEqProofs := false}) only [go_sem, reduceIte, Nat.reduceEqDiff, Nat.reduceAdd, Nat.reduceSub, Nat.reduceMul, Nat.reducePow, Nat.reduceDiv, Nat.reduceMod, Nat.reduceBEq, Nat.reduceBNe, Nat.reduceLT, Nat.reduceLeDiff, Int.reduceToNat, reduceCtorEq, hx, hy, lx, ly, kx, ky]
  refine (validsC x y h1 h2 h3 h4).use ?_
  cases hv : validR x && validR y with
  | false =>
    simp (config := {maxSteps := 500000, implicitDefEqProofs := false}) only [go_sem, reduceIte, Nat.reduceEqDiff, Nat.reduceAdd, Nat.reduceSub, Nat.reduceMul, Nat.reducePow, Nat.reduceDiv, Nat.reduceMod, Nat.reduceBEq, Nat.reduceBNe, Nat.reduceLT, Nat.reduceLeDiff, Int.reduceToNat, reduceCtorEq]
    refine Z_true (by exact rfl) ?_
    simp (config := {maxSteps := 500000, implicitDefEqProofs := false}) only [go_sem, reduceIte, Nat.reduceEqDiff, Nat.reduceAdd, Nat.reduceSub, Nat.reduceMul, Nat.reducePow, Nat.reduceDiv, Nat.reduceMod, Nat.reduceBEq, Nat.reduceBNe, Nat.reduceLT, Nat.reduceLeDiff, Int.reduceToNat, reduceCtorEq]
    exact ⟨_, rfl, by simp only [addR, hv]; rfl⟩
  | true =>
    have hv' := hv
    simp only [Bool.and_eq_true] at hv'
    obtain ⟨a1, a2, a3, a4⟩ := validR_bounds hv'.1
    obtain ⟨b1, b2, b3, b4⟩ := validR_bounds hv'.2
    have bd : ∀ p q : Int, -2147483647 ≤ p → p ≤ 2147483647 → 0 < q → q ≤ 2147483647 → -4611686014132420609 ≤ p * q ∧ p * q ≤ 4611686014132420609 := by
      intro p q g1 g2 g3 g4
      constructor
      · have := Int.mul_le_mul_of_nonneg_right g1 (by omega : 0 ≤ q)
        omega
      · have := Int.mul_le_mul_of_nonneg_right g2 (by omega : 0 ≤ q)
        omega
    obtain ⟨p1, p2⟩ := bd x.1 y.2 a3 a4 b1 b2
    obtain ⟨p3, p4⟩ := bd y.1 x.2 b3 b4 a1 a2
    obtain ⟨p5, p6⟩ := bd x.2 y.2 (by omega) a2 b1 b2
    have w1 : IntKind.i64.wrap (x.1 * y.2) = x.1 * y.2 := wrap64 (by omega) (by omega)
    have w2 : IntKind.i64.wrap (y.1 * x.2) = y.1 * x.2 := wrap64 (by omega) (by omega)
    have w3 : IntKind.i64.wrap (x.2 * y.2) = x.2 * y.2 := wrap64 (by omega) (by omega)
    have w4 : IntKind.i64.wrap (x.1 * y.2 + y.1 * x.2) = x.1 * y.2 + y.1 * x.2 := wrap64 (by omega) (by omega)
    simp (config := {maxSteps := 500000, implicitDefEqProofs := false}) only [go_sem, reduceIte, Nat.reduceEqDiff, Nat.reduceAdd, Nat.reduceSub, Nat.reduceMul, Nat.reducePow, Nat.reduceDiv, Nat.reduceMod, Nat.reduceBEq, Nat.reduceBNe, Nat.reduceLT, Nat.reduceLeDiff, Int.reduceToNat, reduceCtorEq]
    refine Z_false (by exact rfl) ?_
    simp (config := {maxSteps := 500000, implicitDefEqProofs := false}) only [go_sem, reduceIte, Nat.reduceEqDiff, Nat.reduceAdd, Nat.reduceSub, Nat.reduceMul, Nat.reducePow, Nat.reduceDiv, Nat.reduceMod, Nat.reduceBEq, Nat.reduceBNe, Nat.reduceLT, Nat.reduceLeDiff, Int.reduceToNat, reduceCtorEq, rA, w1, w2, w3, w4]
    refine (makeC _ _ ⟨by omega, by omega⟩ ⟨by omega, by omega⟩).use ?_
    simp (config := {maxSteps := 500000, implicitDefEqProofs := false}) only [go_sem, reduceIte, Nat.reduceEqDiff, Nat.reduceAdd, Nat.reduceSub, Nat.reduceMul, Nat.reducePow, Nat.reduceDiv, Nat.reduceMod, Nat.reduceBEq, Nat.reduceBNe, Nat.reduceLT, Nat.reduceLeDiff, Int.reduceToNat, reduceCtorEq, rE, rA]
    refine ⟨_, rfl, ?_⟩
    simp only [addR, hv, if_true, rE, rA]
    try rfl
end Abs
