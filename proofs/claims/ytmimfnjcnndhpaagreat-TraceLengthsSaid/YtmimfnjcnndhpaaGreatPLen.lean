/-
  Plain mathematics: the length that both the program and the reference compute.
-/
import Derived.Test.YtmimfnjcnndhpaaGreatRatP
namespace Abs
set_option linter.unusedSimpArgs false
set_option linter.unusedVariables false
set_option maxRecDepth 100000
set_option maxHeartbeats 2000000
open Go Go.Proofs

/-! ### The time of a run: plain -/

theorem makeR_ok {n d : Int} {r : Int × Int} (h : makeR n d = (r, 0)) : validR r = true := by
  unfold makeR at h
  split at h
  · cases h
  · rename_i hd
    simp only [] at h
    split at h
    · cases h
    · rename_i hh
      have hd0 : 0 < d.natAbs := by omega
      have hg : 0 < Nat.gcd n.natAbs d.natAbs := Nat.gcd_pos_of_pos_right _ hd0
      have hco := Nat.gcd_div_gcd_div_gcd_of_pos_right (n := n.natAbs) hd0
      have hb : 0 < d.natAbs / Nat.gcd n.natAbs d.natAbs := Nat.div_pos (Nat.le_of_dvd hd0 (Nat.gcd_dvd_right _ _)) hg
      generalize n.natAbs / Nat.gcd n.natAbs d.natAbs = a at *
      generalize d.natAbs / Nat.gcd n.natAbs d.natAbs = b at *
      simp only [Prod.mk.injEq, and_true] at h
      subst h
      have hab : ∀ x : Int, x.natAbs = a → validR (x, (b : Int)) = true := by
        intro x hx
        simp only [validR, hx, Int.natAbs_natCast, Bool.and_eq_true, decide_eq_true_eq]
        exact ⟨by omega, by omega, by omega, hco⟩
      apply hab
      split <;> omega

theorem makeR_err {n d : Int} {r : Int × Int} {e : Int} (h : makeR n d = (r, e)) (hd : d ≠ 0) : e = 0 ∨ (e = 7 ∧ r = (0, 0)) := by
  unfold makeR at h
  rw [if_neg hd] at h
  simp only [] at h
  split at h <;> cases h <;> simp

theorem addR_ok {x y r : Int × Int} (h : addR x y = (r, 0)) : validR r = true := by
  unfold addR at h
  split at h
  · exact makeR_ok h
  · cases h
theorem addR_err {x y r : Int × Int} {e : Int} (h : addR x y = (r, e)) (hx : validR x = true) (hy : validR y = true) : e = 0 ∨ (e = 7 ∧ r = (0, 0)) := by
  unfold addR at h
  rw [hx, hy] at h
  have h1 := validR_bounds hx
  have h2 := validR_bounds hy
  refine makeR_err h ?_
  have : 0 < x.2 * y.2 := Int.mul_pos h1.1 h2.1
  omega

def okW (s : (Int × Int) × Int) : Bool := validR s.1 && decide (0 ≤ s.1.1)
def stA (s : (Int × Int) × Int) : AVal := .agg [(AVal.sc (Value.int IntKind.i64 (s.1.1))), (AVal.sc (Value.int IntKind.i64 (s.1.2))), (AVal.sc (Value.int IntKind.i64 (s.2)))]
def sumR : List ((Int × Int) × Int) → Int × Int → (Int × Int) × Int
  | [], s => (s, 0)
  | x :: l, s => match addR s x.1 with
    | (r, e) => if e = 0 then sumR l r else ((0, 0), 7)
def lenR (l : List ((Int × Int) × Int)) : (Int × Int) × Int :=
  if 1000 < l.length then ((0, 0), 3) else if l.all okW then sumR l (0, 1) else ((0, 0), 2)
end Abs
