/-
  Functions of the program walked: each is shown to compute a plain function (RegB2).
-/
import Derived.Test.YtdmelhjbbaaphaaGreatDoorRegM
import Derived.Test.YtdmelhjbbaaphaaGreatDoorRatF
namespace Abs
set_option linter.unusedSimpArgs false
set_option linter.unusedVariables false
set_option maxRecDepth 100000
set_option maxHeartbeats 2000000
open Go Go.Proofs
/-- A number that all of some numbers divide. -/
theorem common {d : Nat → Int} : ∀ n, (∀ i, i < n → 0 < d i) → ∃ D : Int, 0 < D ∧ ∀ i, i < n → ∃ e : Int, 0 < e ∧ D = d i * e
  | 0, _ => ⟨1, by omega, fun i hi => by omega⟩
  | n + 1, h => by
      obtain ⟨D, h1, h2⟩ := common (d := d) n fun i hi => h i (by omega)
      have hn := h n (by omega)
      refine ⟨D * d n, Int.mul_pos h1 hn, fun i hi => ?_⟩
      rcases Nat.lt_or_ge i n with h' | h'
      · obtain ⟨e, e1, e2⟩ := h2 i h'
        exact ⟨e * d n, Int.mul_pos e1 hn, by rw [e2, Int.mul_assoc]⟩
      · obtain rfl : i = n := by omega
        exact ⟨D, h1, Int.mul_comm _ _⟩
theorem coprime_eq {a b c d : Int} (ha : 0 ≤ a) (hb : 0 < b) (hc : 0 ≤ c) (hd : 0 < d) (h1 : Int.gcd a b = 1) (h2 : Int.gcd c d = 1) (h : a * d = c * b) : a = c ∧ b = d := by
 obtain ⟨a, rfl⟩ : ∃ n : Nat, a = n := ⟨a.toNat, by omega⟩
 obtain ⟨b, rfl⟩ : ∃ n : Nat, b = n := ⟨b.toNat, by omega⟩
 obtain ⟨c, rfl⟩ : ∃ n : Nat, c = n := ⟨c.toNat, by omega⟩
 obtain ⟨d, rfl⟩ : ∃ n : Nat, d = n := ⟨d.toNat, by omega⟩
 have h1 : Nat.Coprime a b := h1
 have h2 : Nat.Coprime c d := h2
 have h : a * d = c * b := by exact_mod_cast h
 have b1 : b ∣ d := h1.symm.dvd_of_dvd_mul_left ⟨c, by rw [h, Nat.mul_comm]⟩
 have b2 : d ∣ b := h2.symm.dvd_of_dvd_mul_left ⟨a, by rw [← h, Nat.mul_comm]⟩
 have e : b = d := Nat.dvd_antisymm b1 b2
 subst e
 have := Nat.eq_of_mul_eq_mul_right (by omega) h
 subst this
 exact ⟨rfl, rfl⟩
/-- Fractions as whole numbers. -/
theorem whole_nums {rs : Nat → Int × Int} {n : Nat} (h : ∀ i, i < n → okR (rs i)) : ∃ v : Nat → Int, (∀ i, i < n → (0 < (rs i).1 ↔ 0 < v i)) ∧ (∀ i, i < n → 0 ≤ v i) ∧ (∀ i j, i < n → j < n → (ltF (rs i) (rs j) ↔ v i < v j)) ∧ ∀ i j, i < n → j < n → v i = v j → rs i = rs j := by
 obtain ⟨D, hD, hd⟩ := common (d := fun i => (rs i).2) n fun i hi => (h i hi).2.2.1
 have ch : ∀ i, ∃ e : Int, i < n → 0 < e ∧ D = (rs i).2 * e := fun i => by
  by_cases hi : i < n
  ·obtain ⟨e, he⟩ := hd i hi; exact ⟨e, fun _ => he⟩
  ·exact ⟨0, fun h => absurd h hi⟩
 let E : Nat → Int := fun i => Classical.choose (ch i)
 have hE : ∀ i, i < n → 0 < E i ∧ D = (rs i).2 * E i := fun i => Classical.choose_spec (ch i)
 have key : ∀ i j, i < n → j < n → (rs i).1 * (rs j).2 * (E i * E j) = (rs i).1 * E i * D ∧ (rs j).1 * (rs i).2 * (E i * E j) = (rs j).1 * E j * D := by
  intro i j hi hj
  obtain ⟨e1, e2⟩ := hE i hi
  obtain ⟨f1, f2⟩ := hE j hj
  constructor
  ·rw [f2]; simp only [Int.mul_assoc, Int.mul_comm, Int.mul_left_comm]
  ·rw [e2]; simp only [Int.mul_assoc, Int.mul_comm, Int.mul_left_comm]
 refine ⟨fun i => (rs i).1 * E i, ?_, ?_, ?_, ?_⟩
 ·intro i hi
  obtain ⟨e1, e2⟩ := hE i hi
  exact ⟨fun h => Int.mul_pos h e1, fun h => Int.pos_of_mul_pos_left h e1⟩
 ·intro i hi
  exact Int.mul_nonneg (h i hi).1 (by have := (hE i hi).1; omega)
 ·intro i j hi hj
  obtain ⟨k1, k2⟩ := key i j hi hj
  have hp : 0 < E i * E j := Int.mul_pos (hE i hi).1 (hE j hj).1
  constructor
  ·intro hh
   have := Int.mul_lt_mul_of_pos_right hh hp
   rw [k1, k2] at this
   exact Int.lt_of_mul_lt_mul_right this (by omega)
  ·intro hh
   have := Int.mul_lt_mul_of_pos_right hh hD
   rw [← k1, ← k2] at this
   exact Int.lt_of_mul_lt_mul_right this (by omega)
 ·intro i j hi hj hh
  obtain ⟨k1, k2⟩ := key i j hi hj
  have hp : 0 < E i * E j := Int.mul_pos (hE i hi).1 (hE j hj).1
  have hh : (rs i).1 * E i = (rs j).1 * E j := hh
  rw [hh, ← k2] at k1
  have e := Int.eq_of_mul_eq_mul_right (by omega) k1
  obtain ⟨a1, a2, a3, a4, a5⟩ := h i hi
  obtain ⟨b1, b2, b3, b4, b5⟩ := h j hj
  obtain ⟨c1, c2⟩ := coprime_eq a1 a3 b1 b3 a5 b5 e
  exact Prod.ext c1 c2
theorem cnt_F {rs : Nat → Int × Int} {v : Nat → Int} {n : Nat} (h0 : ∀ i, i < n → (0 < (rs i).1 ↔ 0 < v i)) (hl : ∀ i j, i < n → j < n → (ltF (rs i) (rs j) ↔ v i < v j)) {i : Nat} (hi : i < n) : ∀ m, m ≤ n → cntF rs (rs i) m = cntTo v (v i) m
  | 0, _ => rfl
  | m + 1, hm => by
      have ih := cnt_F h0 hl hi m (by omega)
      have hc : (0 < (rs m).1 ∧ ltF (rs m) (rs i) ∧ newF rs m) ↔ (0 < v m ∧ v m < v i ∧ ∀ h, h < m → v h ≠ v m) := by
        rw [h0 m (by omega), hl m i (by omega) hi]
        refine and_congr Iff.rfl (and_congr Iff.rfl ⟨fun h h' hh => ?_, fun h h' hh => ?_⟩)
        · have := h h' hh
          rw [hl h' m (by omega) (by omega), hl m h' (by omega) (by omega)] at this
          omega
        · have := h h' hh
          rw [hl h' m (by omega) (by omega), hl m h' (by omega) (by omega)]
          omega
      show cntF rs (rs i) m + (if _ then 1 else 0) = cntTo v (v i) m + (if _ then 1 else 0)
      rw [ih]
      congr 1
      by_cases hb : 0 < v m ∧ v m < v i ∧ ∀ h, h < m → v h ≠ v m
      · rw [if_pos (hc.2 hb), if_pos hb]
      · rw [if_neg (fun h => hb (hc.1 h)), if_neg hb]
/-- The ranks that are given before the round 'r'. -/
def rkTo (rs : Nat → Int × Int) (n r i : Nat) : Int := if 0 < (rs i).1 ∧ cntF rs (rs i) n + 1 < r then 1 + (cntF rs (rs i) n : Int) else 0
/-- One round: the least of those without a rank get the next one. -/
theorem round_eq {rs : Nat → Int × Int} {n r m : Nat} (h : ∀ i, i < n → okR (rs i)) (hr : 1 ≤ r) (hm : m < n) (hp : 0 < (rs m).1) (hno : rkTo rs n r m = 0)
  (hleast : ∀ i, i < n → 0 < (rs i).1 → rkTo rs n r i = 0 → ¬ ltF (rs i) (rs m)) :
  r ≤ n ∧ (∀ i, i < n → (rs i = rs m → rkTo rs n (r + 1) i = r) ∧ (rs i ≠ rs m → rkTo rs n (r + 1) i = rkTo rs n r i)) := by
 obtain ⟨v, v0, vn, vl, ve⟩ := whole_nums h
 have hc : ∀ i, i < n → cntF rs (rs i) n = cntTo v (v i) n := fun i hi => cnt_F v0 vl hi n (Nat.le_refl _)
 have un : ∀ i, i < n → 0 < (rs i).1 → (rkTo rs n r i = 0 ↔ r ≤ cntTo v (v i) n + 1) := by
  intro i hi h0
  unfold rkTo
  rw [hc i hi]
  split <;> omega
 have hm0 := (un m hm hp).1 hno
 have hcm : cntTo v (v m) n = r - 1 := cnt_least ((v0 m hm).1 hp) (by omega) fun i hi hvi hri => by
  have h1 := (v0 i hi).2 hvi
  have := hleast i hi h1 ((un i hi h1).2 (by omega))
  rw [vl i m hi hm] at this
  omega
 have hle : cntTo v (v m) n < n := by
  have h2 := cntF_le rs (rs m) n
  rw [hc m hm] at h2
  rcases Nat.lt_or_ge (cntTo v (v m) n) n with h3 | h3
  ·exact h3
  ·exfalso
   have h4 : cntTo v (v m) n < cntTo v (v m + 1) n := cnt_strict ((v0 m hm).1 hp) (by omega) ⟨m, hm, rfl⟩
   have h5 : ∀ (x : Int) k, cntTo v x k ≤ k := by
    intro x k
    induction k with
    | zero => exact Nat.le_refl _
    | succ k ih => unfold cntTo; split <;> omega
   have := h5 (v m + 1) n
   omega
 refine ⟨by omega, fun i hi => ⟨fun he => ?_, fun hne => ?_⟩⟩
 ·unfold rkTo
  rw [he, if_pos ⟨hp, by rw [hc m hm]; omega⟩, hc m hm]
  omega
 ·by_cases h0 : 0 < (rs i).1
  ·have hvi := (v0 i hi).1 h0
   have hcne : cntTo v (v i) n ≠ r - 1 := by
    intro hce
    have hge : ¬ ltF (rs i) (rs m) := hleast i hi h0 ((un i hi h0).2 (by omega))
    rw [vl i m hi hm] at hge
    by_cases he : v i = v m
    ·exact hne (ve i m hi hm he)
    ·have := cnt_strict (v := v) (x := v i) (y := v m) (n := n) ((v0 m hm).1 hp) (by omega) ⟨m, hm, rfl⟩
     omega
   unfold rkTo
   rw [hc i hi]
   by_cases hb : cntTo v (v i) n + 1 < r
   ·rw [if_pos ⟨h0, by omega⟩, if_pos ⟨h0, hb⟩]
   ·rw [if_neg (fun hh => by omega), if_neg (fun hh => hb hh.2)]
  ·unfold rkTo
   rw [if_neg (fun hh => h0 hh.1), if_neg (fun hh => h0 hh.1)]
theorem rkTo_one {rs : Nat → Int × Int} {n i : Nat} : rkTo rs n 1 i = 0 := by unfold rkTo; rw [if_neg (by omega)]
/-- No one is left. -/
theorem rkTo_end {rs : Nat → Int × Int} {n r : Nat} (h : ∀ i, i < n → okR (rs i)) (hno : ∀ i, i < n → 0 < (rs i).1 → rkTo rs n r i ≠ 0) : ∀ i, i < n → rkTo rs n r i = rkV rs n i := by
 intro i hi
 have h0 := (h i hi).1
 by_cases hp : 0 < (rs i).1
 ·have := hno i hi hp
  unfold rkTo at this ⊢
  split at this
  ·rename_i hh
   rw [if_pos hh]
   unfold rkV
   rw [if_neg (by omega)]
  ·exact absurd rfl this
 ·unfold rkTo rkV
  rw [if_neg (fun hh => hp hh.1), if_pos (by omega)]
end Abs
namespace Abs
set_option linter.unusedSimpArgs false
set_option linter.unusedVariables false
set_option maxRecDepth 100000
set_option maxHeartbeats 2000000
open Go Go.Proofs
theorem floorC {w : World} (n d : Int) (hn : 0 ≤ n) (hn2 : n ≤ 2147483647) (hd : 0 < d) (hd2 : d ≤ 2147483647) : GivesV (EE w) 55 [(AVal.sc (Value.int IntKind.i64 (n))), (AVal.sc (Value.int IntKind.i64 (d)))] (AVal.sc (Value.int IntKind.i64 (n / d))) := by
 refine GivesV.of (fun _ => .sc _) (.cons _ _ (.sc _) (.cons _ _ (.sc _) .nil)) 1 ?_
 have q0 : 0 ≤ n / d := Int.ediv_nonneg hn (by omega)
 have q9 : n / d ≤ n := Int.ediv_le_self _ hn
 have m0 := Int.emod_nonneg n (show d ≠ 0 by omega)
 have hq1 : scBin .quo (.int .i64 n) (.int .i64 d) = some (.int .i64 (n / d)) := by rw [sc_quo (by omega), Int.tdiv_eq_ediv_of_nonneg hn, wrap64 (by omega) (by omega)]
 have hq2 : scBin .rem (.int .i64 n) (.int .i64 d) = some (.int .i64 (n % d)) := by rw [sc_rem (by omega), Int.tmod_eq_emod_of_nonneg hn]
 have hm : decide (n % d < 0) = false := dcf (by omega)
 refine of_55 rfl rfl rfl (by kernel_rfl) ?_
 simp (maxSteps := 500000) -implicitDefEqProofs only [go_sem, hq1, hq2, hm]
 (repeat' first | ((first | refine vy1 ?_ ?_ | refine vy2 ?_ ?_ | refine vy3 ?_ ?_) <;> rintro ⟨hd, hq⟩ <;> first | (exfalso; omega) | simp (maxSteps := 500000) -implicitDefEqProofs only [go_sem, hd] | skip) | refine vzt ?_ | refine vzf ?_ | refine vsb ?_ | refine vzb ?_ | refine vzq ?_ | simp (maxSteps := 500000) -implicitDefEqProofs only [go_sem])
 exact ⟨_, rfl, rfl⟩
theorem FloorC {w : World} (x : Int × Int) (hv : validR x = true) (h0 : 0 ≤ x.1) : GivesV (EE w) 33 [rA x] (.tuple [(AVal.sc (Value.int IntKind.i64 (x.1 / x.2))), (AVal.sc (Value.int IntKind.i64 (0)))]) := by
 refine GivesV.of (fun _ => .sc _) (.cons _ _ (wfR x) .nil) 4 ?_
 obtain ⟨v1, v2, v3, v4⟩ := validR_b hv
 have vC := rvalidC (w := w) x ⟨by omega, by omega⟩ ⟨by omega, by omega⟩
 have fC := floorC (w := w) x.1 x.2 h0 (by omega) v1 (by omega)
 rw [hv] at vC
 simp only [rA] at vC
 refine of_33 rfl rfl rfl (by kernel_rfl) ?_
 simp (maxSteps := 500000) -implicitDefEqProofs only [go_sem, rA]
 refine vC.use ?_
 (repeat' first | ((first | refine vy1 ?_ ?_ | refine vy2 ?_ ?_ | refine vy3 ?_ ?_) <;> rintro ⟨hd, hq⟩ <;> first | (exfalso; omega) | simp (maxSteps := 500000) -implicitDefEqProofs only [go_sem, hd] | skip) | refine vzt ?_ | refine vzf ?_ | refine vsb ?_ | refine vzb ?_ | refine vzq ?_ | simp (maxSteps := 500000) -implicitDefEqProofs only [go_sem])
 refine fC.use ?_
 (repeat' first | ((first | refine vy1 ?_ ?_ | refine vy2 ?_ ?_ | refine vy3 ?_ ?_) <;> rintro ⟨hd, hq⟩ <;> first | (exfalso; omega) | simp (maxSteps := 500000) -implicitDefEqProofs only [go_sem, hd] | skip) | refine vzt ?_ | refine vzf ?_ | refine vsb ?_ | refine vzb ?_ | refine vzq ?_ | simp (maxSteps := 500000) -implicitDefEqProofs only [go_sem])
 exact ⟨_, rfl, rfl⟩
/-- What is left of a number above its floor. -/
theorem SubC {w : World} (x : Int × Int) (hv : validR x = true) (h0 : 0 ≤ x.1) : GivesV (EE w) 34 [rA x, rA (x.1 / x.2, 1)] (.tuple [rA (x.1 % x.2, x.2), (AVal.sc (Value.int IntKind.i64 (0)))]) := by
 refine GivesV.of (fun _ => .sc _) (.cons _ _ (wfR x) (.cons _ _ (wfR _) .nil)) 4 ?_
 obtain ⟨v1, v2, v3, v4⟩ := validR_b hv
 have q0 : 0 ≤ x.1 / x.2 := Int.ediv_nonneg h0 (by omega)
 have q9 : x.1 / x.2 ≤ x.1 := Int.ediv_le_self _ h0
 have m0 := Int.emod_nonneg x.1 (show x.2 ≠ 0 by omega)
 have m1 := Int.emod_lt_of_pos x.1 v1
 have hdm := Int.mul_ediv_add_emod x.1 x.2
 have hwn : IntKind.i64.wrap (0 - x.1 / x.2) = -(x.1 / x.2) := by rw [wrap64 (by omega) (by omega)]; omega
 have hv2 : validR (-(x.1 / x.2), 1) = true := by
  simp only [validR, Bool.and_eq_true, decide_eq_true_eq]
  exact ⟨by omega, by omega, by omega, by simp⟩
 have okm : okR (x.1 % x.2, x.2) := by
  have hp := part_ok (c := x.1 / x.2 + 1) hv h0
  unfold partV at hp
  rw [if_neg (by omega)] at hp
  exact hp
 have hadd : addR x (-(x.1 / x.2), 1) = ((x.1 % x.2, x.2), 0) := by
  simp only [addR, hv, hv2, Bool.and_self, if_true]
  have e1 : x.1 * 1 + -(x.1 / x.2) * x.2 = x.1 % x.2 := by
   rw [Int.mul_one, Int.neg_mul, Int.mul_comm]; omega
  rw [e1, Int.mul_one]
  unfold makeR
  have hg : Nat.gcd (x.1 % x.2).natAbs x.2.natAbs = 1 := okm.2.2.2.2
  rw [if_neg (by omega)]
  simp only [hg, Nat.div_one]
  rw [if_neg (by omega), if_pos (by rw [dcf (by omega), dcf (by omega)])]
  congr 2
  ·omega
  ·omega
 have aC := raddC (w := w) x (-(x.1 / x.2), 1) ⟨by omega, by omega⟩ ⟨by omega, by omega⟩ ⟨by dsimp only; omega, by dsimp only; omega⟩ ⟨by dsimp only; omega, by dsimp only; omega⟩
 rw [hadd] at aC
 simp only [rA, rE] at aC
 refine of_34 rfl rfl rfl (by kernel_rfl) ?_
 simp (maxSteps := 500000) -implicitDefEqProofs only [go_sem, rA, hwn]
 (repeat' first | ((first | refine vy1 ?_ ?_ | refine vy2 ?_ ?_ | refine vy3 ?_ ?_) <;> rintro ⟨hd, hq⟩ <;> first | (exfalso; omega) | simp (maxSteps := 500000) -implicitDefEqProofs only [go_sem, hd] | skip) | refine vzt ?_ | refine vzf ?_ | refine vsb ?_ | refine vzb ?_ | refine vzq ?_ | simp (maxSteps := 500000) -implicitDefEqProofs only [go_sem])
 refine aC.use ?_
 (repeat' first | ((first | refine vy1 ?_ ?_ | refine vy2 ?_ ?_ | refine vy3 ?_ ?_) <;> rintro ⟨hd, hq⟩ <;> first | (exfalso; omega) | simp (maxSteps := 500000) -implicitDefEqProofs only [go_sem, hd] | skip) | refine vzt ?_ | refine vzf ?_ | refine vsb ?_ | refine vzb ?_ | refine vzq ?_ | simp (maxSteps := 500000) -implicitDefEqProofs only [go_sem])
 exact ⟨_, rfl, rfl⟩
theorem sameclC {w : World} {A B : AVal} {a b : List (Int × Int)} (hA : IsD 2 A (a.map rA)) (hB : IsD 2 B (b.map rA)) (ha : a.length ≤ 1000000) (hb : b.length ≤ 1000000) :
  GivesV (EE w) 14 [A, B] (AVal.sc (Value.bool (decide (a = b)))) := by
 refine GivesV.of (fun _ => .sc _) (.cons _ _ (hA.wf (map_rA_wf a)) (.cons _ _ (hB.wf (map_rA_wf b)) .nil)) 4 ?_
 refine of_14 rfl rfl rfl (by kernel_rfl) ?_
 simp (maxSteps := 500000) -implicitDefEqProofs only [go_sem, hA.len, hB.len]
 by_cases e1 : a.length = b.length
 case neg =>
  have e1' : ¬ (a.length : Int) = b.length := by omega
  (repeat' first | ((first | refine vy1 ?_ ?_ | refine vy2 ?_ ?_ | refine vy3 ?_ ?_) <;> rintro ⟨hd, hq⟩ <;> first | (exfalso; omega) | simp (maxSteps := 500000) -implicitDefEqProofs only [go_sem, hd, dcf e1', dct e1'] | skip) | refine vzt ?_ | refine vzf ?_ | refine vsb ?_ | refine vzb ?_ | refine vzq ?_ | simp (maxSteps := 500000) -implicitDefEqProofs only [go_sem, dcf e1', dct e1'])
  exact ⟨_, rfl, by rw [dcf (fun h => e1 (by rw [h]))]; rfl⟩
 (repeat' first | ((first | refine vy1 ?_ ?_ | refine vy2 ?_ ?_ | refine vy3 ?_ ?_) <;> rintro ⟨hd, hq⟩ <;> first | (exfalso; omega) | simp (maxSteps := 500000) -implicitDefEqProofs only [go_sem, hd, hA.len, hB.len, e1] | skip) | refine vzt ?_ | refine vzf ?_ | refine vsb ?_ | refine vzb ?_ | refine vzq ?_ | simp (maxSteps := 500000) -implicitDefEqProofs only [go_sem, hA.len, hB.len, e1])
 (first | refine Z_block_loop (ι := Nat) (fun i => [(0, A), (1, B), (4, (AVal.sc (Value.bool (false)))), (5, (AVal.sc (Value.int IntKind.i64 (i))))]) (fun i σ => i ≤ a.length ∧ a.take i = b.take i) (fun i => a.length - i) (fun _ => rfl) 0 ?_ ?_ ?_ | refine Z_seq_loop (ι := Nat) (fun i => [(0, A), (1, B), (4, (AVal.sc (Value.bool (false)))), (5, (AVal.sc (Value.int IntKind.i64 (i))))]) (fun i σ => i ≤ a.length ∧ a.take i = b.take i) (fun i => a.length - i) (fun _ => rfl) 0 ?_ ?_ ?_ | refine Z_loop (ι := Nat) (fun i => [(0, A), (1, B), (4, (AVal.sc (Value.bool (false)))), (5, (AVal.sc (Value.int IntKind.i64 (i))))]) (fun i σ => i ≤ a.length ∧ a.take i = b.take i) (fun i => a.length - i) (fun _ => rfl) 0 ?_ ?_ ?_)
 ·(repeat' (first | exact trivial | refine ⟨rfl, ?_⟩))
 ·exact ⟨Nat.zero_le _, rfl⟩
 rintro i σ ⟨hi, heq⟩
 simp (maxSteps := 500000) -implicitDefEqProofs only [go_sem, hA.len]
 ((first | refine vz2 ?_ ?_ | refine vz3 ?_ ?_) <;> intro h2)
 ·obtain ⟨⟨x1, x2⟩, hx⟩ : ∃ c, a[i]? = some c := ⟨a[i]'(by omega), by simp⟩
  obtain ⟨⟨y1, y2⟩, hy⟩ : ∃ c, b[i]? = some c := ⟨b[i]'(by omega), by simp⟩
  have hx' : (a.map rA)[i]? = some (rA (x1, x2)) := by simp [hx]
  have hy' : (b.map rA)[i]? = some (rA (y1, y2)) := by simp [hy]
  have hw := wrapS (i := i) (by omega)
  (repeat' first | ((first | refine vy1 ?_ ?_ | refine vy2 ?_ ?_ | refine vy3 ?_ ?_) <;> rintro ⟨hd, hq⟩ <;> first | (exfalso; omega) | simp (maxSteps := 500000) -implicitDefEqProofs only [go_sem, hd] | skip) | refine vzt ?_ | refine vzf ?_ | refine vsb ?_ | refine vzb ?_ | refine vzq ?_ | simp (maxSteps := 500000) -implicitDefEqProofs only [go_sem])
  ((try (refine Z_seq ?_; (try simp (maxSteps := 500000) -implicitDefEqProofs only [go_sem]))); refine Z_draw (by kernel_rfl) [0, 1, 2, 3, 4, 5, 6, 7, 8] [(8, 255), (7, 112), (6, 48), (5, 0), (4, 0), (3, 7), (2, 3), (1, 0), (0, 0)] (by kernel_rfl) (by kernel_rfl) ?_)
  have h49 : eqD (EE w) 49 = some [true, true] := by kernel_rfl
  have hne : ∀ (σ : AStore) (cst : Bool), opBin (EE w) σ .neq 49 cst (some (.agg [(AVal.sc (Value.int IntKind.i64 (x1))), (AVal.sc (Value.int IntKind.i64 (x2)))])) (some (.agg [(AVal.sc (Value.int IntKind.i64 (y1))), (AVal.sc (Value.int IntKind.i64 (y2)))])) = .val (.sc (.bool (!(decide ((x1, x2) = (y1, y2)))))) σ := by
   intro σ cst
   rw [opBin_neA h49 (b := decide (x1 = y1) && (decide (x2 = y2) && true)) (by simp [eqL])]
   congr 4
   by_cases h1 : x1 = y1 <;> by_cases h2 : x2 = y2 <;> simp [h1, h2]
  simp (maxSteps := 500000) -implicitDefEqProofs only [go_sem, hA.idx hx', hB.idx hy', rA, hne]
  by_cases h3 : (x1, x2) = (y1, y2)
  ·rw [dct h3]
   (repeat' first | ((first | refine vy1 ?_ ?_ | refine vy2 ?_ ?_ | refine vy3 ?_ ?_) <;> rintro ⟨hd, hq⟩ <;> first | (exfalso; omega) | simp (maxSteps := 500000) -implicitDefEqProofs only [go_sem, hd, hw] | skip) | refine vzt ?_ | refine vzf ?_ | refine vsb ?_ | refine vzb ?_ | refine vzq ?_ | simp (maxSteps := 500000) -implicitDefEqProofs only [go_sem, hw])
   refine ⟨i + 1, by dsimp only; omega, ⟨by omega, ?_⟩, ?_⟩
   ·rw [List.take_add_one, List.take_add_one, heq, hx, hy, h3]
   ·(repeat' (first | exact trivial | refine ⟨rfl, ?_⟩))
  ·rw [dcf h3]
   (repeat' first | ((first | refine vy1 ?_ ?_ | refine vy2 ?_ ?_ | refine vy3 ?_ ?_) <;> rintro ⟨hd, hq⟩ <;> first | (exfalso; omega) | simp (maxSteps := 500000) -implicitDefEqProofs only [go_sem, hd] | skip) | refine vzt ?_ | refine vzf ?_ | refine vsb ?_ | refine vzb ?_ | refine vzq ?_ | simp (maxSteps := 500000) -implicitDefEqProofs only [go_sem])
   refine ⟨_, rfl, ?_⟩
   rw [dcf (fun e => h3 (by rw [e, hy] at hx; cases hx; rfl))]
   rfl
 ·obtain rfl : i = a.length := by omega
  have hab : a = b := by rw [List.take_length, e1, List.take_length] at heq; exact heq
  rw [dct hab]
  (repeat' first | ((first | refine vy1 ?_ ?_ | refine vy2 ?_ ?_ | refine vy3 ?_ ?_) <;> rintro ⟨hd, hq⟩ <;> first | (exfalso; omega) | simp (maxSteps := 500000) -implicitDefEqProofs only [go_sem, hd] | skip) | refine vzt ?_ | refine vzf ?_ | refine vsb ?_ | refine vzb ?_ | refine vzq ?_ | simp (maxSteps := 500000) -implicitDefEqProofs only [go_sem])
  exact ⟨_, rfl, rfl⟩
theorem eqR49 {w : World} (σ : AStore) (cst : Bool) (x y : Int × Int) : opBin (EE w) σ .eql 49 cst (some (.agg [(AVal.sc (Value.int IntKind.i64 (x.1))), (AVal.sc (Value.int IntKind.i64 (x.2)))])) (some (.agg [(AVal.sc (Value.int IntKind.i64 (y.1))), (AVal.sc (Value.int IntKind.i64 (y.2)))])) = .val (.sc (.bool (decide (x = y)))) σ := by
 have h49 : eqD (EE w) 49 = some [true, true] := by kernel_rfl
 rw [opBin_eqA h49 (b := decide (x.1 = y.1) && (decide (x.2 = y.2) && true)) (by simp [eqL])]
 obtain ⟨x1, x2⟩ := x
 obtain ⟨y1, y2⟩ := y
 congr 3
 by_cases h1 : x1 = y1 <;> by_cases h2 : x2 = y2 <;> simp [h1, h2]
end Abs
namespace Abs
set_option linter.unusedSimpArgs false
set_option linter.unusedVariables false
set_option maxRecDepth 100000
set_option maxHeartbeats 2000000
open Go Go.Proofs
/-- Two slices are not of one block. -/
def Apart (v v' : AVal) : Prop := ∀ b l l', v = .slice b 0 l → v' ≠ .slice b 0 l'
theorem apart_nil {v : AVal} : Apart (AVal.sc (Value.slice none 0 0)) v := fun b l l' h => by cases h
theorem Gw.lt {m : Nat} {σ : AStore} {sz : Nat} {v : AVal} {els : List AVal} (h : Gw m σ sz v els) {b l : Nat} (hv : v = .slice b 0 l) : m ≤ b ∧ b < σ.next := by
 rcases h with ⟨_, h⟩ | ⟨b', h1, h2, h3⟩
 ·rw [hv] at h; cases h
 ·rw [hv] at h2; cases h2; exact ⟨h1, AStore.lt_of_get h3⟩
theorem Gw.up {m : Nat} {σ τ : AStore} {sz : Nat} {v : AVal} {els : List AVal} (h : Gw m σ sz v els) (hk : ∀ b z, m ≤ b → (∃ l, v = .slice b 0 l) → σ.get b = some z → τ.get b = some z) : Gw m τ sz v els := by
 rcases h with h | ⟨b, h1, h2, h3⟩
 ·exact .inl h
 ·exact .inr ⟨b, h1, h2, hk b _ h1 ⟨_, h2⟩ h3⟩
theorem Gw.put {m b : Nat} {σ : AStore} {sz : Nat} {v : AVal} {els : List AVal} {x : ABlk} (h : Gw m σ sz v els) (ha : ∀ l, v ≠ .slice b 0 l) : Gw m (σ.set b x) sz v els :=
 h.up fun b' z _ ⟨l, hl⟩ hz => by
  rw [AStore.get_set, if_neg (fun hc => ha l (by rw [hl, hc.1]))]; exact hz
theorem Gw.low {m b : Nat} {σ : AStore} {sz : Nat} {v : AVal} {els : List AVal} {x : ABlk} (h : Gw m σ sz v els) (hb : b < m) : Gw m (σ.set b x) sz v els :=
 h.up fun b' z hm _ hz => by
  rw [AStore.get_set, if_neg (by omega)]; exact hz
theorem Gw.new {m : Nat} {σ : AStore} {sz : Nat} {v : AVal} {els : List AVal} {x : ABlk} (h : Gw m σ sz v els) : Gw m (σ.alloc x) sz v els := h.up fun _ _ _ _ hz => get_alloc_old hz
theorem Gw.cells {m : Nat} {σ : AStore} {sz : Nat} {v : AVal} {els : List AVal} (h : Gw m σ sz v els) : v.cells = [v] ∧ v.isCell = true ∧ v.fit = true := by
 rcases h with ⟨_, rfl⟩ | ⟨b, _, rfl, _⟩ <;> exact ⟨rfl, rfl, rfl⟩
theorem get_set_ne {σ : AStore} {b b' : Nat} {x z : ABlk} (h : σ.get b' = some z) (hne : b' ≠ b) : (σ.set b x).get b' = some z := by
 rw [AStore.get_set, if_neg (fun hc => hne hc.1)]; exact h
/-- The three lists of the search grow by one. -/
structure Three (σ : AStore) (W R S : AVal) (w r : List Int) (s : List (Int × Int)) : Prop where
 g0 : σ.get 0 = some (.cells 2 [.agg [(AVal.sc (Value.slice none 0 0)), (AVal.sc (Value.slice none 0 0))]])
 g1 : σ.get 1 = some (.cells 2 [.agg [W, R]])
 gw : Gw 2 σ 1 W (w.map iA)
 gr : Gw 2 σ 1 R (r.map iA)
 gs : Gw 2 σ 2 S (s.map rA)
 wr : Apart W R
 ws : Apart W S
 rs : Apart R S
theorem Three.n2 {σ : AStore} {W R S : AVal} {w r : List Int} {s : List (Int × Int)} (h : Three σ W R S w r s) : 2 ≤ σ.next := AStore.lt_of_get h.g1
theorem Three.new {σ : AStore} {W R S : AVal} {w r : List Int} {s : List (Int × Int)} (h : Three σ W R S w r s) (x : ABlk) : Three (σ.alloc x) W R S w r s :=
 ⟨get_alloc_old h.g0, get_alloc_old h.g1, h.gw.new, h.gr.new, h.gs.new, h.wr, h.ws, h.rs⟩
/-- A block beside the three is written. -/
theorem Three.put {σ : AStore} {W R S : AVal} {w r : List Int} {s : List (Int × Int)} (h : Three σ W R S w r s) {b : Nat} {x : ABlk} (h2 : 2 ≤ b) (hw : ∀ l, W ≠ .slice b 0 l) (hr : ∀ l, R ≠ .slice b 0 l) (hs : ∀ l, S ≠ .slice b 0 l) : Three (σ.set b x) W R S w r s :=
 ⟨get_set_ne h.g0 (by omega), get_set_ne h.g1 (by omega), h.gw.put hw, h.gr.put hr, h.gs.put hs, h.wr, h.ws, h.rs⟩
/-- One element that stands in the text is appended. -/
theorem Gw.add {m : Nat} {σ : AStore} {sz : Nat} {v : AVal} {els : List AVal} (h : Gw m σ sz v els) (bytes : Nat) (x : AVal) (hm : m ≤ σ.next) (hb : (els.length + 1) * bytes ≤ 140737488355328) (h1 : sz ≠ 0) (h2 : bytes ≠ 0) (hc : allCells [x] = true) :
  ∃ σ', aAppend sz bytes v [x] σ = some (.slice σ.next 0 (els.length + 1), σ') ∧ Gw m σ' sz (.slice σ.next 0 (els.length + 1)) (els ++ [x]) ∧ σ'.next = σ.next + 1 ∧
   (∀ b z, σ.get b = some z → (∀ l, v ≠ .slice b 0 l) → σ'.get b = some z) ∧ (∀ b z, b < m → σ.get b = some z → σ'.get b = some z) := by
 rcases h with ⟨rfl, rfl⟩ | ⟨b, hmb, rfl, hg⟩
 ·refine ⟨σ.alloc (.cells sz [x]), ?_, .inr ⟨σ.next, by omega, rfl, ?_⟩, rfl, ?_, ?_⟩
  ·exact app_nil (by simp) (by simpa using hb) h1 h2
  ·rw [AStore.get_alloc, if_pos rfl]; rfl
  ·intro b z hz _; exact get_alloc_old hz
  ·intro b z _ hz; exact get_alloc_old hz
 ·have kp : ∀ b' z, σ.get b' = some z → b' ≠ b → ((σ.del b).alloc (.cells sz (els ++ [x]))).get b' = some z := by
   intro b' z hz hne
   refine get_alloc_old ?_
   rw [AStore.get_del, if_neg (fun hc => hne hc)]
   exact hz
  refine ⟨(σ.del b).alloc (.cells sz (els ++ [x])), ?_, .inr ⟨σ.next, by omega, by simp, ?_⟩, rfl, ?_, ?_⟩
  ·rw [app_full hg (by simp) hb h1 h2 hc]; rfl
  ·have : (σ.del b).next = σ.next := rfl
   rw [AStore.get_alloc, this, if_pos rfl]
  ·intro b' z hz hv; exact kp b' z hz fun e => by subst e; exact hv _ rfl
  ·intro b' z hb' hz; exact kp b' z hz (by omega)
theorem Three.push {σ : AStore} {W R S : AVal} {w r : List Int} {s : List (Int × Int)} (h : Three σ W R S w r s) {n : Nat} (hw : w.length = n) (hr : r.length = n) (hs : s.length = n) (hn : n ≤ 1000000) (x : Int) (y : Int × Int) :
  ∃ b1 b2 b3 σ1 σ2 σ3, aAppend 1 8 W [(AVal.sc (Value.int IntKind.i64 (x)))] σ = some (.slice b1 0 (n + 1), σ1) ∧
   aAppend 2 16 S [.agg [(AVal.sc (Value.int IntKind.i64 (y.1))), (AVal.sc (Value.int IntKind.i64 (y.2)))]] ((σ1.set 1 (.cells 2 [.agg [.slice b1 0 (n + 1), R]])).alloc (.cells 2 [.agg [(AVal.sc (Value.int IntKind.i64 (y.1))), (AVal.sc (Value.int IntKind.i64 (y.2)))]])) = some (.slice b2 0 (n + 1), σ2) ∧
   aAppend 1 8 R [(AVal.sc (Value.int IntKind.i64 (0)))] (σ2.alloc (.cells 1 [(AVal.sc (Value.int IntKind.i64 (0)))])) = some (.slice b3 0 (n + 1), σ3) ∧
   σ.get 1 = some (.cells 2 [.agg [W, R]]) ∧ σ1.get 1 = some (.cells 2 [.agg [W, R]]) ∧ 1 < σ1.next ∧ σ2.get 1 = some (.cells 2 [.agg [.slice b1 0 (n + 1), R]]) ∧ σ3.get 1 = some (.cells 2 [.agg [.slice b1 0 (n + 1), R]]) ∧ 1 < σ3.next ∧
   Three (σ3.set 1 (.cells 2 [.agg [.slice b1 0 (n + 1), .slice b3 0 (n + 1)]])) (.slice b1 0 (n + 1)) (.slice b3 0 (n + 1)) (.slice b2 0 (n + 1)) (w ++ [x]) (r ++ [0]) (s ++ [y]) ∧
   ∀ b z, σ.get b = some z → (∀ l, W ≠ .slice b 0 l) → σ1.get b = some z := by
 have h2 := h.n2
 obtain ⟨σ1, q1, p1, n1, k1, o1⟩ := h.gw.add 8 (AVal.sc (Value.int IntKind.i64 (x))) h2 (by rw [List.length_map]; omega) (by decide) (by decide) (by rfl)
 rw [List.length_map, hw] at q1 p1
 have lW := fun b l (hl : W = .slice b 0 l) => h.gw.lt hl
 have lR := fun b l (hl : R = .slice b 0 l) => h.gr.lt hl
 have lS := fun b l (hl : S = .slice b 0 l) => h.gs.lt hl
 have a0 := o1 0 _ (by omega) h.g0
 have a1 := o1 1 _ (by omega) h.g1
 have aR : Gw 2 σ1 1 R (r.map iA) := h.gr.up fun b z _ ⟨l, hl⟩ hz => k1 b z hz fun l' hl' => h.wr b l' l hl' hl
 have aS : Gw 2 σ1 2 S (s.map rA) := h.gs.up fun b z _ ⟨l, hl⟩ hz => k1 b z hz fun l' hl' => h.ws b l' l hl' hl
 obtain ⟨τ1, ht1⟩ : ∃ τ1, τ1 = σ1.set 1 (.cells 2 [.agg [.slice σ.next 0 (n + 1), R]]) := ⟨_, rfl⟩
 have t1n : τ1.next = σ.next + 1 := by rw [ht1]; exact n1
 have b0 : τ1.get 0 = some (.cells 2 [.agg [(AVal.sc (Value.slice none 0 0)), (AVal.sc (Value.slice none 0 0))]]) := by rw [ht1]; exact get_set_ne a0 (by omega)
 have b1 : τ1.get 1 = some (.cells 2 [.agg [.slice σ.next 0 (n + 1), R]]) := by rw [ht1, AStore.get_set, if_pos ⟨rfl, by omega⟩]
 have bW : Gw 2 τ1 1 (.slice σ.next 0 (n + 1)) (w.map iA ++ [(AVal.sc (Value.int IntKind.i64 (x)))]) := by rw [ht1]; exact p1.low (by omega)
 have bR : Gw 2 τ1 1 R (r.map iA) := by rw [ht1]; exact aR.low (by omega)
 have bS : Gw 2 τ1 2 S (s.map rA) := by rw [ht1]; exact aS.low (by omega)
 obtain ⟨σ2, q2, p2, n2, k2, o2⟩ := bS.push 16 (.cells 2 [.agg [(AVal.sc (Value.int IntKind.i64 (y.1))), (AVal.sc (Value.int IntKind.i64 (y.2)))]]) (.agg [(AVal.sc (Value.int IntKind.i64 (y.1))), (AVal.sc (Value.int IntKind.i64 (y.2)))]) (by omega) (by rw [List.length_map]; omega) (by decide) (by decide) (rfl_cells y)
 rw [List.length_map, hs] at q2 p2
 have c0 := o2 0 _ (by omega) b0
 have c1 := o2 1 _ (by omega) b1
 have cW : Gw 2 σ2 1 (.slice σ.next 0 (n + 1)) (w.map iA ++ [(AVal.sc (Value.int IntKind.i64 (x)))]) := bW.up fun b z _ ⟨l, hl⟩ hz => k2 b z hz fun l' hl' => by have := lS _ _ hl'; cases hl; omega
 have cR : Gw 2 σ2 1 R (r.map iA) := bR.up fun b z _ ⟨l, hl⟩ hz => k2 b z hz fun l' hl' => h.rs b l l' hl hl'
 obtain ⟨σ3, q3, p3, n3, k3, o3⟩ := cR.push 8 (.cells 1 [(AVal.sc (Value.int IntKind.i64 (0)))]) (AVal.sc (Value.int IntKind.i64 (0))) (by omega) (by rw [List.length_map]; omega) (by decide) (by decide) (by rfl)
 rw [List.length_map, hr] at q3 p3
 have d0 := o3 0 _ (by omega) c0
 have d1 := o3 1 _ (by omega) c1
 have dW : Gw 2 σ3 1 (.slice σ.next 0 (n + 1)) (w.map iA ++ [(AVal.sc (Value.int IntKind.i64 (x)))]) := cW.up fun b z _ ⟨l, hl⟩ hz => k3 b z hz fun l' hl' => by have := lR _ _ hl'; cases hl; omega
 have dS : Gw 2 σ3 2 (.slice (τ1.next + 1) 0 (n + 1)) (s.map rA ++ [.agg [(AVal.sc (Value.int IntKind.i64 (y.1))), (AVal.sc (Value.int IntKind.i64 (y.2)))]]) := p2.up fun b z _ ⟨l, hl⟩ hz => k3 b z hz fun l' hl' => by have := lR _ _ hl'; simp only [AVal.slice.injEq] at hl; omega
 refine ⟨σ.next, τ1.next + 1, σ2.next + 1, σ1, σ2, σ3, q1, by rw [← ht1]; exact q2, q3, h.g1, a1, by omega, c1, d1, by omega, ⟨get_set_ne d0 (by omega), ?_, ?_, ?_, ?_, ?_, ?_, ?_⟩, k1⟩
 ·rw [AStore.get_set, if_pos ⟨rfl, by omega⟩]
 ·rw [List.map_append]; exact dW.low (by omega)
 ·rw [List.map_append]; exact p3.low (by omega)
 ·rw [List.map_append]; exact dS.low (by omega)
 ·intro b l l' h1 h2; simp only [AVal.slice.injEq] at h1 h2; omega
 ·intro b l l' h1 h2; simp only [AVal.slice.injEq] at h1 h2; omega
 ·intro b l l' h1 h2; simp only [AVal.slice.injEq] at h1 h2; omega
theorem rep_snoc {n : Nat} : List.replicate n (0 : Int) ++ [0] = List.replicate (n + 1) 0 := by rw [List.replicate_succ', ]
theorem rng_snoc {α : Type} {f : Nat → α} {n : Nat} {x : α} (h : x = f n) : (List.range n).map f ++ [x] = (List.range (n + 1)).map f := by rw [List.range_succ, List.map_append, h]; rfl
theorem sgn_neg {x y : Int × Int} : (sgn x y < 0) ↔ ltF x y := by
 unfold sgn ltF
 split
 ·omega
 ·split <;> omega
theorem sgn_pos {x y : Int × Int} : (0 < sgn x y) ↔ ltF y x := by
 unfold sgn ltF
 split
 ·omega
 ·split <;> omega
theorem okR_valid {x : Int × Int} (h : okR x) : validR x = true := by
 obtain ⟨h1, h2, h3, h4, h5⟩ := h
 simp only [validR, Bool.and_eq_true, decide_eq_true_eq]
 exact ⟨h3, h4, by omega, h5⟩
theorem part_lt {c : Int} {x : Int × Int} (hv : validR x = true) : (partV c x).2.1 < (partV c x).2.2 := by
 have := (validR_b hv).1
 unfold partV
 split
 ·exact (by decide : (0 : Int) < 1)
 ·exact Int.emod_lt_of_pos _ this
/-- A number is beyond a whole one. -/
theorem ltF_whole {c : Int} {x : Int × Int} (hd : 0 < x.2) : ltF (c, 1) x ↔ (c < x.1 / x.2 ∨ (x.1 / x.2 = c ∧ 0 < x.1 % x.2)) := by
 have m0 := Int.emod_nonneg x.1 (show x.2 ≠ 0 by omega)
 have m1 := Int.emod_lt_of_pos x.1 hd
 have hm := Int.mul_ediv_add_emod x.1 x.2
 unfold ltF
 dsimp only
 rw [Int.mul_one]
 generalize x.1 / x.2 = q at *
 generalize x.1 % x.2 = m at *
 rw [← hm]
 constructor
 ·intro h
  rcases Int.lt_trichotomy c q with h' | h' | h'
  ·exact .inl h'
  ·subst h'; rw [Int.mul_comm] at h; exact .inr ⟨rfl, by omega⟩
  ·exfalso
   have := Int.mul_le_mul_of_nonneg_left (show q + 1 ≤ c by omega) (show 0 ≤ x.2 by omega)
   rw [Int.mul_add, Int.mul_comm x.2 c] at this
   omega
 ·rintro (h | ⟨rfl, h⟩)
  ·have := Int.mul_le_mul_of_nonneg_left (show c + 1 ≤ q by omega) (show 0 ≤ x.2 by omega)
   rw [Int.mul_add, Int.mul_comm x.2 c] at this
   omega
  ·rw [Int.mul_comm]; omega
theorem Gw.slice {m n : Nat} {σ : AStore} {sz : Nat} {v : AVal} {els : List AVal} (h : Gw m σ sz v els) (hl : els.length = n) (hn : 0 < n) : ∃ b, m ≤ b ∧ v = .slice b 0 n ∧ σ.get b = some (.cells sz els) := by
 rcases h with ⟨rfl, _⟩ | ⟨b, h1, h2, h3⟩
 ·simp at hl; omega
 ·exact ⟨b, h1, by rw [← hl]; exact h2, h3⟩
theorem Three.setR {σ : AStore} {W S : AVal} {w r : List Int} {s : List (Int × Int)} {b2 n i : Nat} (h : Three σ W (.slice b2 0 n) S w r s) (v : Int) (hb : 2 ≤ b2) (hlt : b2 < σ.next) (hr : r.length = n) :
  Three (σ.set b2 (.cells 1 ((r.map iA).set i (iA v)))) W (.slice b2 0 n) S w (r.set i v) s := by
 refine ⟨get_set_ne h.g0 (by omega), get_set_ne h.g1 (by omega), h.gw.put fun l hl => h.wr b2 l n hl rfl, ?_, h.gs.put fun l hl => h.rs b2 n l rfl hl, h.wr, h.ws, h.rs⟩
 refine .inr ⟨b2, hb, by simp [hr], ?_⟩
 rw [AStore.get_set, if_pos ⟨rfl, hlt⟩, List.map_set]
theorem ltF_trans {a b c : Int × Int} (ha : 0 < a.2) (hb : 0 < b.2) (hc : 0 < c.2) (h1 : ltF a b) (h2 : ltF b c) : ltF a c := by
 have e1 := Int.mul_lt_mul_of_pos_right h1 hc
 have e2 := Int.mul_lt_mul_of_pos_right h2 ha
 have e3 : b.1 * a.2 * c.2 = b.1 * c.2 * a.2 := Int.mul_right_comm _ _ _
 rw [e3] at e1
 have e4 := Int.lt_trans e1 e2
 rw [Int.mul_right_comm a.1, Int.mul_right_comm c.1] at e4
 exact Int.lt_of_mul_lt_mul_right e4 (by omega)
theorem ltF_irr {a : Int × Int} : ¬ ltF a a := fun h => by unfold ltF at h; omega
/-- Who may get the next rank. -/
def cand (rs : Nat → Int × Int) (n r j : Nat) : Prop := 0 < (rs j).1 ∧ rkTo rs n r j = 0
end Abs
namespace Abs
set_option linter.unusedSimpArgs false
set_option linter.unusedVariables false
set_option maxRecDepth 100000
set_option maxHeartbeats 2000000
open Go Go.Proofs
theorem rkTo_ones {rs : Nat → Int × Int} {n : Nat} : List.replicate n 0 = (List.range n).map (rkTo rs n 1) := by
 apply List.ext_getElem (by simp)
 intro i h1 h2
 simp [rkTo_one]
set_option maxHeartbeats 8000000 in
theorem of2C {w : World} : OfC w 8 := by
 intro K CL k cl hK hC hk hcl hin
 refine Gives.of (fun _ => .sc _) (.cons _ _ (hK.wf (wf_is k)) (.cons _ _ (hC.wf (map_rA_wf cl)) .nil)) 6 ?_
 refine of_8 rfl rfl rfl (by kernel_rfl) ?_
 simp (maxSteps := 500000) -implicitDefEqProofs only [go_sem]
 refine (constantsC hK hk).use ?_
 cases hf : fineB k with
 | false =>
  rw [of_bad fun h => by rw [h.1] at hf; cases hf]
  (repeat' first | ((first | refine vy1 ?_ ?_ | refine vy2 ?_ ?_ | refine vy3 ?_ ?_) <;> rintro ⟨hd, hq⟩ <;> first | (exfalso; omega) | simp (maxSteps := 500000) -implicitDefEqProofs only [go_sem, hd] | skip) | refine vzt ?_ | refine vzf ?_ | refine vsb ?_ | refine vzb ?_ | refine vzq ?_ | simp (maxSteps := 500000) -implicitDefEqProofs only [go_sem])
  exact ⟨_, _, rfl, rfl, _, _, rfl, .inl ⟨rfl, _, _, rfl⟩, .inl ⟨rfl, _, _, rfl⟩⟩
 | true =>
 by_cases e1 : cl.length = k.length
 case neg =>
  have e1' : ¬ (cl.length : Int) = k.length := by omega
  rw [of_bad fun h => e1 h.2.1]
  (repeat' first | ((first | refine vy1 ?_ ?_ | refine vy2 ?_ ?_ | refine vy3 ?_ ?_) <;> rintro ⟨hd, hq⟩ <;> first | (exfalso; omega) | simp (maxSteps := 500000) -implicitDefEqProofs only [go_sem, hd, hK.len, hC.len, dcf e1', dct e1'] | skip) | refine vzt ?_ | refine vzf ?_ | refine vsb ?_ | refine vzb ?_ | refine vzq ?_ | simp (maxSteps := 500000) -implicitDefEqProofs only [go_sem, hK.len, hC.len, dcf e1', dct e1'])
  exact ⟨_, _, rfl, rfl, _, _, rfl, .inl ⟨rfl, _, _, rfl⟩, .inl ⟨rfl, _, _, rfl⟩⟩
 have k10 := fine_len hf
 (repeat' first | ((first | refine vy1 ?_ ?_ | refine vy2 ?_ ?_ | refine vy3 ?_ ?_) <;> rintro ⟨hd, hq⟩ <;> first | (exfalso; omega) | simp (maxSteps := 500000) -implicitDefEqProofs only [go_sem, hd, hK.len, hC.len, e1] | skip) | refine vzt ?_ | refine vzf ?_ | refine vsb ?_ | refine vzb ?_ | refine vzq ?_ | simp (maxSteps := 500000) -implicitDefEqProofs only [go_sem, hK.len, hC.len, e1])
 (first | refine Z_block_loop (ι := Nat × AVal × AVal × AVal) (fun s => [(0, K), (1, CL), (4, .ptr 0 0 0), (5, (AVal.sc (Value.int IntKind.i64 (0)))), (6, .ptr 1 0 0), (7, s.2.2.2), (8, (AVal.sc (Value.int IntKind.i64 (s.1))))]) (fun s σ => s.1 ≤ k.length ∧ (∀ j, j < s.1 → validR (pcl cl j) = true ∧ 0 ≤ (pcl cl j).1) ∧ Three σ s.2.1 s.2.2.1 s.2.2.2 ((List.range s.1).map (whV k cl)) (List.replicate s.1 0) ((List.range s.1).map (rsV k cl))) (fun s => k.length - s.1) (fun _ => rfl) (0, (AVal.sc (Value.slice none 0 0)), (AVal.sc (Value.slice none 0 0)), (AVal.sc (Value.slice none 0 0))) ?_ ?_ ?_ | refine Z_seq_loop (ι := Nat × AVal × AVal × AVal) (fun s => [(0, K), (1, CL), (4, .ptr 0 0 0), (5, (AVal.sc (Value.int IntKind.i64 (0)))), (6, .ptr 1 0 0), (7, s.2.2.2), (8, (AVal.sc (Value.int IntKind.i64 (s.1))))]) (fun s σ => s.1 ≤ k.length ∧ (∀ j, j < s.1 → validR (pcl cl j) = true ∧ 0 ≤ (pcl cl j).1) ∧ Three σ s.2.1 s.2.2.1 s.2.2.2 ((List.range s.1).map (whV k cl)) (List.replicate s.1 0) ((List.range s.1).map (rsV k cl))) (fun s => k.length - s.1) (fun _ => rfl) (0, (AVal.sc (Value.slice none 0 0)), (AVal.sc (Value.slice none 0 0)), (AVal.sc (Value.slice none 0 0))) ?_ ?_ ?_ | refine Z_loop (ι := Nat × AVal × AVal × AVal) (fun s => [(0, K), (1, CL), (4, .ptr 0 0 0), (5, (AVal.sc (Value.int IntKind.i64 (0)))), (6, .ptr 1 0 0), (7, s.2.2.2), (8, (AVal.sc (Value.int IntKind.i64 (s.1))))]) (fun s σ => s.1 ≤ k.length ∧ (∀ j, j < s.1 → validR (pcl cl j) = true ∧ 0 ≤ (pcl cl j).1) ∧ Three σ s.2.1 s.2.2.1 s.2.2.2 ((List.range s.1).map (whV k cl)) (List.replicate s.1 0) ((List.range s.1).map (rsV k cl))) (fun s => k.length - s.1) (fun _ => rfl) (0, (AVal.sc (Value.slice none 0 0)), (AVal.sc (Value.slice none 0 0)), (AVal.sc (Value.slice none 0 0))) ?_ ?_ ?_)
 ·(repeat' (first | exact trivial | refine ⟨rfl, ?_⟩))
 ·exact ⟨Nat.zero_le _, by omega, ⟨by simp only [go_sem, reduceIte] <;> rfl, by simp only [go_sem, reduceIte] <;> rfl, Gw.nil, Gw.nil, Gw.nil, apart_nil, apart_nil, apart_nil⟩⟩
 ·rintro ⟨i, W, R, S⟩ τ ⟨hi, hall, h3⟩
  dsimp only at hi hall h3
  simp (maxSteps := 500000) -implicitDefEqProofs only [go_sem, hK.len]
  ((first | refine vz2 ?_ ?_ | refine vz3 ?_ ?_) <;> intro h2)
  ·have hik : i < k.length := by omega
   obtain ⟨c, hc⟩ : ∃ c, k[i]? = some c := ⟨k[i], List.getElem?_eq_getElem hik⟩
   obtain ⟨⟨xn, xd⟩, hx⟩ : ∃ x, cl[i]? = some x := ⟨cl[i]'(by omega), List.getElem?_eq_getElem _⟩
   have hc' : (k.map iA)[i]? = some (iA c) := by simp [hc]
   have hx' : (cl.map rA)[i]? = some (rA (xn, xd)) := by simp [hx]
   obtain ⟨c1, c2⟩ := fine_in hf hc
   obtain ⟨i1, i2⟩ := hin _ (List.mem_of_getElem? hx)
   have hw := wrapS (i := i) (by omega)
   have px := pcl_of hx
   have vC := rvalidC (w := w) (xn, xd) i1 i2
   obtain ⟨p, hp⟩ : ∃ p, p = τ.next := ⟨_, rfl⟩
   obtain ⟨σ0, hs0⟩ : ∃ σ0, σ0 = (τ.alloc (.cells 2 [.agg [(AVal.sc (Value.int IntKind.i64 (0))), (AVal.sc (Value.int IntKind.i64 (0)))]])).set p (.cells 2 [.agg [(AVal.sc (Value.int IntKind.i64 (xn))), (AVal.sc (Value.int IntKind.i64 (xd)))]]) := ⟨_, rfl⟩
   have h30 : Three σ0 W R S ((List.range i).map (whV k cl)) (List.replicate i 0) ((List.range i).map (rsV k cl)) := by
    rw [hs0]
    exact (h3.new _).put (by have := h3.n2; omega) (fun l hl => by have := h3.gw.lt hl; omega) (fun l hl => by have := h3.gr.lt hl; omega) (fun l hl => by have := h3.gs.lt hl; omega)
   have gp : σ0.get p = some (.cells 2 [.agg [(AVal.sc (Value.int IntKind.i64 (xn))), (AVal.sc (Value.int IntKind.i64 (xd)))]]) := by rw [hs0, AStore.get_set, if_pos ⟨rfl, by rw [hp, alloc_next]; omega⟩]
   have g0 := h30.g0
   have g1 := h30.g1
   have n0 : σ0.next = p + 1 := by rw [hs0, hp]; rfl
   have q2 := h3.n2
   have p0 : ¬ 0 = p := by omega
   have p1 : ¬ 1 = p := by omega
   have p0' : ¬ p = 0 := by omega
   have p1' : ¬ p = 1 := by omega
   have z0 : 0 < σ0.next := by omega
   obtain ⟨cw1, cw2, cw3⟩ := h3.gw.cells
   obtain ⟨cr1, cr2, cr3⟩ := h3.gr.cells
   obtain ⟨cs1, cs2, cs3⟩ := h3.gs.cells
   simp only [rA] at vC
   (repeat' first | ((first | refine vy1 ?_ ?_ | refine vy2 ?_ ?_ | refine vy3 ?_ ?_) <;> rintro ⟨hd, hq⟩ <;> first | (exfalso; omega) | simp (maxSteps := 500000) -implicitDefEqProofs only [go_sem, hd, hC.idx hx', rA, ← hp, ← hs0, gp] | skip) | refine vzt ?_ | refine vzf ?_ | refine vsb ?_ | refine vzb ?_ | refine vzq ?_ | simp (maxSteps := 500000) -implicitDefEqProofs only [go_sem, hC.idx hx', rA, ← hp, ← hs0, gp])
   refine vC.use ?_
   by_cases hv : validR (xn, xd) = true
   case neg =>
    have hv' : validR (xn, xd) = false := by simpa using hv
    rw [of_bad fun h => hv (by have := (h.2.2 i hik).1; rw [px] at this; exact this), hv']
    (repeat' first | ((first | refine vy1 ?_ ?_ | refine vy2 ?_ ?_ | refine vy3 ?_ ?_) <;> rintro ⟨hd, hq⟩ <;> first | (exfalso; omega) | simp (maxSteps := 500000) -implicitDefEqProofs only [go_sem, hd, g0, z0] | skip) | refine vzt ?_ | refine vzf ?_ | refine vsb ?_ | refine vzb ?_ | refine vzq ?_ | simp (maxSteps := 500000) -implicitDefEqProofs only [go_sem, g0, z0])
    exact ⟨_, _, rfl, rfl, _, _, rfl, .inl ⟨rfl, _, _, rfl⟩, .inl ⟨rfl, _, _, rfl⟩⟩
   rw [hv]
   by_cases hn : xn < 0
   ·rw [of_bad fun h => by have := (h.2.2 i hik).2; rw [px] at this; dsimp only at this; omega]
    (repeat' first | ((first | refine vy1 ?_ ?_ | refine vy2 ?_ ?_ | refine vy3 ?_ ?_) <;> rintro ⟨hd, hq⟩ <;> first | (exfalso; omega) | simp (maxSteps := 500000) -implicitDefEqProofs only [go_sem, hd, g0, gp, z0, dct hn] | skip) | refine vzt ?_ | refine vzf ?_ | refine vsb ?_ | refine vzb ?_ | refine vzq ?_ | simp (maxSteps := 500000) -implicitDefEqProofs only [go_sem, g0, gp, z0, dct hn])
    exact ⟨_, _, rfl, rfl, _, _, rfl, .inl ⟨rfl, _, _, rfl⟩, .inl ⟨rfl, _, _, rfl⟩⟩
   obtain ⟨v1, v2, v3, v4⟩ := validR_b hv
   dsimp only at v1 v2 v3 v4
   have hall' : ∀ j, j < i + 1 → validR (pcl cl j) = true ∧ 0 ≤ (pcl cl j).1 := by
    intro j hj
    rcases Nat.lt_or_ge j i with h' | h'
    ·exact hall j h'
    ·obtain rfl : j = i := by omega
     rw [px]; exact ⟨hv, by dsimp only; omega⟩
   have hvc : validR (c, 1) = true := by
    simp only [validR, Bool.and_eq_true, decide_eq_true_eq]
    exact ⟨by omega, by omega, by omega, by simp⟩
   have cC := rcmpC (w := w) (xn, xd) (c, 1) i1 i2 ⟨by dsimp only; omega, by dsimp only; omega⟩ ⟨by dsimp only; omega, by dsimp only; omega⟩
   rw [show cmpR (xn, xd) (c, 1) = (sgn (xn, xd) (c, 1), 0) by simp only [cmpR, hv, hvc]; rfl] at cC
   have wC := wholeC (w := w) c
   have wC0 := wholeC (w := w) 0
   simp only [rA] at cC wC wC0
   have hw1 : whV k cl i = if ltF (c, 1) (xn, xd) then c + 1 else xn / xd := by
    unfold whV; rw [at_of hc, px]; unfold partV; dsimp only
    by_cases hh : ltF (c, 1) (xn, xd)
    ·rw [if_pos hh, if_pos ((ltF_whole v1).1 hh)]
    ·rw [if_neg hh, if_neg (fun h => hh ((ltF_whole v1).2 h))]
   have hr1 : rsV k cl i = if ltF (c, 1) (xn, xd) then (0, 1) else (xn % xd, xd) := by
    unfold rsV; rw [at_of hc, px]; unfold partV; dsimp only
    by_cases hh : ltF (c, 1) (xn, xd)
    ·rw [if_pos hh, if_pos ((ltF_whole v1).1 hh)]
    ·rw [if_neg hh, if_neg (fun h => hh ((ltF_whole v1).2 h))]
   have hwc : IntKind.i64.wrap (c + 1) = c + 1 := wrap64 (by omega) (by omega)
   (repeat' first | ((first | refine vy1 ?_ ?_ | refine vy2 ?_ ?_ | refine vy3 ?_ ?_) <;> rintro ⟨hd, hq⟩ <;> first | (exfalso; omega) | simp (maxSteps := 500000) -implicitDefEqProofs only [go_sem, hd, gp, dcf hn] | skip) | refine vzt ?_ | refine vzf ?_ | refine vsb ?_ | refine vzb ?_ | refine vzq ?_ | simp (maxSteps := 500000) -implicitDefEqProofs only [go_sem, gp, dcf hn])
   ((try (refine Z_seq ?_; (try simp (maxSteps := 500000) -implicitDefEqProofs only [go_sem]))); refine Z_draw (by kernel_rfl) [0, 1, 2, 3, 4, 5, 6, 7, 8, 9, 10, 11] [(11, 2047), (10, 511), (9, 255), (8, 255), (7, 127), (6, 63), (5, 30), (4, 14), (3, 6), (2, 0), (1, 0), (0, 0)] (by kernel_rfl) (by kernel_rfl) ?_)
   simp (maxSteps := 500000) -implicitDefEqProofs only [go_sem, gp, hK.idx hc', iA]
   refine wC.useD ?_
   simp (maxSteps := 500000) -implicitDefEqProofs only [go_sem, gp]
   refine cC.useD ?_
   by_cases a1 : ltF (c, 1) (xn, xd)
   ·rw [if_pos a1] at hw1 hr1
    obtain ⟨b1, b2, b3, σ1, σ2, σ3, r1, r2, r3, f1, f2, f3, f4, f5, f6, t3, kk⟩ := h30.push (n := i) (by simp) (by simp) (by simp) (by omega) (c + 1) (0, 1)
    have hs : (0 : Int) < sgn (xn, xd) (c, 1) := sgn_pos.2 a1
    dsimp only at r2
    simp (maxSteps := 500000) -implicitDefEqProofs only [go_sem, dct hs]
    (repeat' first | ((first | refine vy1 ?_ ?_ | refine vy2 ?_ ?_ | refine vy3 ?_ ?_) <;> rintro ⟨hd, hq⟩ <;> first | (exfalso; omega) | simp (maxSteps := 500000) -implicitDefEqProofs only [go_sem, hd, dct hs] | skip) | refine vzt ?_ | refine vzf ?_ | refine vsb ?_ | refine vzb ?_ | refine vzq ?_ | simp (maxSteps := 500000) -implicitDefEqProofs only [go_sem, dct hs])
    ((try (refine Z_seq ?_; (try simp (maxSteps := 500000) -implicitDefEqProofs only [go_sem]))); refine Z_draw (by kernel_rfl) [0, 1, 2, 3, 4, 5, 6, 7, 8, 9, 10] [(10, 1023), (9, 511), (8, 255), (7, 124), (6, 60), (5, 28), (4, 12), (3, 0), (2, 0), (1, 1), (0, 0)] (by kernel_rfl) (by kernel_rfl) ?_)
    simp (maxSteps := 500000) -implicitDefEqProofs only [go_sem, hK.idx hc', iA, hwc, f1, f2, f3, r1, cw1, cw2, cw3, cr1, cr2, cr3]
    (repeat' first | ((first | refine vy1 ?_ ?_ | refine vy2 ?_ ?_ | refine vy3 ?_ ?_) <;> rintro ⟨hd, hq⟩ <;> first | (exfalso; omega) | simp (maxSteps := 500000) -implicitDefEqProofs only [go_sem, hd] | skip) | refine vzt ?_ | refine vzf ?_ | refine vsb ?_ | refine vzb ?_ | refine vzq ?_ | simp (maxSteps := 500000) -implicitDefEqProofs only [go_sem])
    refine wC0.use ?_
    (repeat' first | ((first | refine vy1 ?_ ?_ | refine vy2 ?_ ?_ | refine vy3 ?_ ?_) <;> rintro ⟨hd, hq⟩ <;> first | (exfalso; omega) | simp (maxSteps := 500000) -implicitDefEqProofs only [go_sem, hd, r2, r3, f4, f5, f6, hw, cr1, cr2, cr3] | skip) | refine vzt ?_ | refine vzf ?_ | refine vsb ?_ | refine vzb ?_ | refine vzq ?_ | simp (maxSteps := 500000) -implicitDefEqProofs only [go_sem, r2, r3, f4, f5, f6, hw, cr1, cr2, cr3])
    refine ⟨(i + 1, .slice b1 0 (i + 1), .slice b3 0 (i + 1), .slice b2 0 (i + 1)), by dsimp only; omega, ⟨by dsimp only; omega, hall', ?_⟩, ?_⟩
    ·rw [rep_snoc, rng_snoc hw1.symm, rng_snoc hr1.symm] at t3
     exact t3
    ·(repeat' (first | exact trivial | refine ⟨rfl, ?_⟩))
   ·rw [if_neg a1] at hw1 hr1
    have hs : ¬ (0 : Int) < sgn (xn, xd) (c, 1) := fun h => a1 (sgn_pos.1 h)
    have flC := FloorC (w := w) (xn, xd) hv (by dsimp only; omega)
    have suC := SubC (w := w) (xn, xd) hv (by dsimp only; omega)
    have wCq := wholeC (w := w) (xn / xd)
    simp only [rA] at flC suC wCq
    generalize xn / xd = Q at *
    generalize xn % xd = M at *
    obtain ⟨p2, hp2⟩ : ∃ p2, p2 = σ0.next := ⟨_, rfl⟩
    obtain ⟨σ00, hs00⟩ : ∃ σ00, σ00 = (σ0.alloc (.cells 2 [.agg [(AVal.sc (Value.int IntKind.i64 (0))), (AVal.sc (Value.int IntKind.i64 (0)))]])).set p2 (.cells 2 [.agg [(AVal.sc (Value.int IntKind.i64 (M))), (AVal.sc (Value.int IntKind.i64 (xd)))]]) := ⟨_, rfl⟩
    have h300 : Three σ00 W R S ((List.range i).map (whV k cl)) (List.replicate i 0) ((List.range i).map (rsV k cl)) := by
     rw [hs00]
     exact (h30.new _).put (by have := h30.n2; omega) (fun l hl => by have := h30.gw.lt hl; omega) (fun l hl => by have := h30.gr.lt hl; omega) (fun l hl => by have := h30.gs.lt hl; omega)
    have gp2 : σ00.get p2 = some (.cells 2 [.agg [(AVal.sc (Value.int IntKind.i64 (M))), (AVal.sc (Value.int IntKind.i64 (xd)))]]) := by rw [hs00, AStore.get_set, if_pos ⟨rfl, by rw [hp2, alloc_next]; omega⟩]
    obtain ⟨b1, b2, b3, σ1, σ2, σ3, r1, r2, r3, f1, f2, f3, f4, f5, f6, t3, kk⟩ := (h300.new (.cells 1 [(AVal.sc (Value.int IntKind.i64 (Q)))])).push (n := i) (by simp) (by simp) (by simp) (by omega) Q (M, xd)
    have gp3 := kk p2 _ (get_alloc_old gp2) fun l hl => by have := h30.gw.lt hl; omega
    have f1' := h300.g1
    have p21 : ¬ p2 = 1 := by omega
    have pp : ¬ p = p2 := by omega
    dsimp only at r2
    simp (maxSteps := 500000) -implicitDefEqProofs only [go_sem, dcf hs]
    (repeat' first | ((first | refine vy1 ?_ ?_ | refine vy2 ?_ ?_ | refine vy3 ?_ ?_) <;> rintro ⟨hd, hq⟩ <;> first | (exfalso; omega) | simp (maxSteps := 500000) -implicitDefEqProofs only [go_sem, hd, dcf hs, gp] | skip) | refine vzt ?_ | refine vzf ?_ | refine vsb ?_ | refine vzb ?_ | refine vzq ?_ | simp (maxSteps := 500000) -implicitDefEqProofs only [go_sem, dcf hs, gp])
    refine flC.use ?_
    (repeat' first | ((first | refine vy1 ?_ ?_ | refine vy2 ?_ ?_ | refine vy3 ?_ ?_) <;> rintro ⟨hd, hq⟩ <;> first | (exfalso; omega) | simp (maxSteps := 500000) -implicitDefEqProofs only [go_sem, hd] | skip) | refine vzt ?_ | refine vzf ?_ | refine vsb ?_ | refine vzb ?_ | refine vzq ?_ | simp (maxSteps := 500000) -implicitDefEqProofs only [go_sem])
    ((try (refine Z_seq ?_; (try simp (maxSteps := 500000) -implicitDefEqProofs only [go_sem]))); refine Z_drawT (by kernel_rfl) [0, 1, 2, 3, 4, 5, 6, 7, 8, 9] [(9, 511), (8, 191), (7, 0), (6, 31), (5, 31), (4, 15), (3, 7), (2, 2), (1, 0), (0, 0)] (.one 0 (.one 1 (.two 2 (.two 3 (.one 4 (.one 5 (.one 6 (.one 7 (.one 8 (.one 9 .fin)))))) 7 (.one 3 (.one 4 (.one 5 (.one 6 (.one 8 (.one 9 .fin))))))) 7 (.one 2 (.one 3 (.one 4 (.one 5 (.one 6 (.one 8 (.one 9 .fin)))))))))) (by kernel_rfl) (by kernel_rfl) (by kernel_rfl) ?_)
    have z2 : ¬ p2 = p := by omega
    have z3 : p2 < p2 + 1 := by omega
    simp (maxSteps := 500000) -implicitDefEqProofs only [go_sem, gp, ← hp2, ← hs00, pp, z2, z3]
    refine ⟨wCq.useD ?_, ?_⟩
    ·simp (maxSteps := 500000) -implicitDefEqProofs only [go_sem, gp, ← hp2, ← hs00, pp, z2, z3]
     refine ⟨suC.useD ?_, suC.useE ?_⟩
     ·simp (maxSteps := 500000) -implicitDefEqProofs only [go_sem, gp, ← hp2, ← hs00, pp, z2, z3, f1', cw1, cw2, cw3, cr1, cr2, cr3, cs1, cs2, cs3, r1, f2, f3, p21, gp3, hw]
      (repeat' first | ((first | refine vy1 ?_ ?_ | refine vy2 ?_ ?_ | refine vy3 ?_ ?_) <;> rintro ⟨hd, hq⟩ <;> first | (exfalso; omega) | simp (maxSteps := 500000) -implicitDefEqProofs only [go_sem, hd, gp, ← hp2, ← hs00, pp, z2, z3, f1', cw1, cw2, cw3, cr1, cr2, cr3, cs1, cs2, cs3, r1, f2, f3, p21, gp3, hw, r2, r3, f4, f5, f6] | skip) | refine vzt ?_ | refine vzf ?_ | refine vsb ?_ | refine vzb ?_ | refine vzq ?_ | simp (maxSteps := 500000) -implicitDefEqProofs only [go_sem, gp, ← hp2, ← hs00, pp, z2, z3, f1', cw1, cw2, cw3, cr1, cr2, cr3, cs1, cs2, cs3, r1, f2, f3, p21, gp3, hw, r2, r3, f4, f5, f6])
      refine ⟨(i + 1, .slice b1 0 (i + 1), .slice b3 0 (i + 1), .slice b2 0 (i + 1)), by dsimp only; omega, ⟨by dsimp only; omega, hall', ?_⟩, ?_⟩
      ·rw [rep_snoc, rng_snoc hw1.symm, rng_snoc hr1.symm] at t3
       exact t3
      ·(repeat' (first | exact trivial | refine ⟨rfl, ?_⟩))
     ·simp (maxSteps := 500000) -implicitDefEqProofs only [go_sem, gp, ← hp2, ← hs00, pp, z2, z3, f1', cw1, cw2, cw3, cr1, cr2, cr3, cs1, cs2, cs3, r1, f2, f3, p21, gp3, hw]
      (repeat' first | ((first | refine vy1 ?_ ?_ | refine vy2 ?_ ?_ | refine vy3 ?_ ?_) <;> rintro ⟨hd, hq⟩ <;> first | (exfalso; omega) | simp (maxSteps := 500000) -implicitDefEqProofs only [go_sem, hd, gp, ← hp2, ← hs00, pp, z2, z3, f1', cw1, cw2, cw3, cr1, cr2, cr3, cs1, cs2, cs3, r1, f2, f3, p21, gp3, hw, r2, r3, f4, f5, f6] | skip) | refine vzt ?_ | refine vzf ?_ | refine vsb ?_ | refine vzb ?_ | refine vzq ?_ | simp (maxSteps := 500000) -implicitDefEqProofs only [go_sem, gp, ← hp2, ← hs00, pp, z2, z3, f1', cw1, cw2, cw3, cr1, cr2, cr3, cs1, cs2, cs3, r1, f2, f3, p21, gp3, hw, r2, r3, f4, f5, f6])
      refine ⟨(i + 1, .slice b1 0 (i + 1), .slice b3 0 (i + 1), .slice b2 0 (i + 1)), by dsimp only; omega, ⟨by dsimp only; omega, hall', ?_⟩, ?_⟩
      ·rw [rep_snoc, rng_snoc hw1.symm, rng_snoc hr1.symm] at t3
       exact t3
      ·(repeat' (first | exact trivial | refine ⟨rfl, ?_⟩))
    ·refine wCq.useE ?_
     simp (maxSteps := 500000) -implicitDefEqProofs only [go_sem, gp, ← hp2, ← hs00, pp, z2, z3]
     refine suC.useE ?_
     simp (maxSteps := 500000) -implicitDefEqProofs only [go_sem, gp, ← hp2, ← hs00, pp, z2, z3, f1', cw1, cw2, cw3, cr1, cr2, cr3, cs1, cs2, cs3, r1, f2, f3, p21, gp3, hw]
     (repeat' first | ((first | refine vy1 ?_ ?_ | refine vy2 ?_ ?_ | refine vy3 ?_ ?_) <;> rintro ⟨hd, hq⟩ <;> first | (exfalso; omega) | simp (maxSteps := 500000) -implicitDefEqProofs only [go_sem, hd, gp, ← hp2, ← hs00, pp, z2, z3, f1', cw1, cw2, cw3, cr1, cr2, cr3, cs1, cs2, cs3, r1, f2, f3, p21, gp3, hw, r2, r3, f4, f5, f6] | skip) | refine vzt ?_ | refine vzf ?_ | refine vsb ?_ | refine vzb ?_ | refine vzq ?_ | simp (maxSteps := 500000) -implicitDefEqProofs only [go_sem, gp, ← hp2, ← hs00, pp, z2, z3, f1', cw1, cw2, cw3, cr1, cr2, cr3, cs1, cs2, cs3, r1, f2, f3, p21, gp3, hw, r2, r3, f4, f5, f6])
     refine ⟨(i + 1, .slice b1 0 (i + 1), .slice b3 0 (i + 1), .slice b2 0 (i + 1)), by dsimp only; omega, ⟨by dsimp only; omega, hall', ?_⟩, ?_⟩
     ·rw [rep_snoc, rng_snoc hw1.symm, rng_snoc hr1.symm] at t3
      exact t3
     ·(repeat' (first | exact trivial | refine ⟨rfl, ?_⟩))
  ·obtain rfl : i = k.length := by omega
   have hok : ofOk k cl := ⟨hf, e1, hall⟩
   rw [of_good hok]
   have hr0 : ∀ i, i < k.length → okR (rsV k cl i) := fun i hi => part_ok (hall i hi).1 (hall i hi).2
   have hr1 : ∀ i, i < k.length → (rsV k cl i).1 < (rsV k cl i).2 := fun i hi => part_lt (hall i hi).1
   rw [rkTo_ones (rs := rsV k cl)] at h3
   generalize rsV k cl = rs at *
   generalize (List.range k.length).map (whV k cl) = Wl at *
   clear hall hi hok
   have w1 := wholeC (w := w) 1
   simp only [rA] at w1
   (repeat' first | ((first | refine vy1 ?_ ?_ | refine vy2 ?_ ?_ | refine vy3 ?_ ?_) <;> rintro ⟨hd, hq⟩ <;> first | (exfalso; omega) | simp (maxSteps := 500000) -implicitDefEqProofs only [go_sem, hd] | skip) | refine vzt ?_ | refine vzf ?_ | refine vsb ?_ | refine vzb ?_ | refine vzq ?_ | simp (maxSteps := 500000) -implicitDefEqProofs only [go_sem])
   (first | refine Z_block_loop (ι := Nat) (fun r => [(0, K), (4, .ptr 0 0 0), (5, (AVal.sc (Value.int IntKind.i64 (0)))), (6, .ptr 1 0 0), (7, S), (16, (AVal.sc (Value.int IntKind.i64 (r))))]) (fun r σ' => 1 ≤ r ∧ r ≤ k.length + 1 ∧ Three σ' W R S Wl ((List.range k.length).map (rkTo rs k.length r)) ((List.range k.length).map rs)) (fun r => k.length + 2 - r) (fun _ => rfl) 1 ?_ ?_ ?_ | refine Z_seq_loop (ι := Nat) (fun r => [(0, K), (4, .ptr 0 0 0), (5, (AVal.sc (Value.int IntKind.i64 (0)))), (6, .ptr 1 0 0), (7, S), (16, (AVal.sc (Value.int IntKind.i64 (r))))]) (fun r σ' => 1 ≤ r ∧ r ≤ k.length + 1 ∧ Three σ' W R S Wl ((List.range k.length).map (rkTo rs k.length r)) ((List.range k.length).map rs)) (fun r => k.length + 2 - r) (fun _ => rfl) 1 ?_ ?_ ?_ | refine Z_loop (ι := Nat) (fun r => [(0, K), (4, .ptr 0 0 0), (5, (AVal.sc (Value.int IntKind.i64 (0)))), (6, .ptr 1 0 0), (7, S), (16, (AVal.sc (Value.int IntKind.i64 (r))))]) (fun r σ' => 1 ≤ r ∧ r ≤ k.length + 1 ∧ Three σ' W R S Wl ((List.range k.length).map (rkTo rs k.length r)) ((List.range k.length).map rs)) (fun r => k.length + 2 - r) (fun _ => rfl) 1 ?_ ?_ ?_)
   ·(repeat' (first | exact trivial | refine ⟨rfl, ?_⟩))
   ·exact ⟨Nat.le_refl _, by omega, h3⟩
   clear h3 τ
   rintro r τ ⟨hr, hr9, h3⟩
   obtain ⟨p, hp⟩ : ∃ p, p = τ.next := ⟨_, rfl⟩
   obtain ⟨σ0, hs0⟩ : ∃ σ0, σ0 = (τ.alloc (.cells 2 [.agg [(AVal.sc (Value.int IntKind.i64 (0))), (AVal.sc (Value.int IntKind.i64 (0)))]])).set p (.cells 2 [.agg [(AVal.sc (Value.int IntKind.i64 (1))), (AVal.sc (Value.int IntKind.i64 (1)))]]) := ⟨_, rfl⟩
   have pW : ∀ l, W ≠ .slice p 0 l := fun l hl => by have := h3.gw.lt hl; omega
   have pR : ∀ l, R ≠ .slice p 0 l := fun l hl => by have := h3.gr.lt hl; omega
   have pS : ∀ l, S ≠ .slice p 0 l := fun l hl => by have := h3.gs.lt hl; omega
   have p2 : 2 ≤ p := by have := h3.n2; omega
   have h30 : Three σ0 W R S Wl ((List.range k.length).map (rkTo rs k.length r)) ((List.range k.length).map rs) := by
    rw [hs0]; exact (h3.new _).put p2 pW pR pS
   have gp : σ0.get p = some (.cells 2 [.agg [(AVal.sc (Value.int IntKind.i64 (1))), (AVal.sc (Value.int IntKind.i64 (1)))]]) := by rw [hs0, AStore.get_set, if_pos ⟨rfl, by rw [hp, alloc_next]; omega⟩]
   have p0 : ¬ 0 = p := by omega
   have p1 : ¬ 1 = p := by omega
   obtain ⟨cw1, cw2, cw3⟩ := h3.gw.cells
   obtain ⟨cr1, cr2, cr3⟩ := h3.gr.cells
   simp (maxSteps := 500000) -implicitDefEqProofs only [go_sem]
   (repeat' first | ((first | refine vy1 ?_ ?_ | refine vy2 ?_ ?_ | refine vy3 ?_ ?_) <;> rintro ⟨hd, hq⟩ <;> first | (exfalso; omega) | simp (maxSteps := 500000) -implicitDefEqProofs only [go_sem, hd] | skip) | refine vzt ?_ | refine vzf ?_ | refine vsb ?_ | refine vzb ?_ | refine vzq ?_ | simp (maxSteps := 500000) -implicitDefEqProofs only [go_sem])
   refine w1.use ?_
   (repeat' first | ((first | refine vy1 ?_ ?_ | refine vy2 ?_ ?_ | refine vy3 ?_ ?_) <;> rintro ⟨hd, hq⟩ <;> first | (exfalso; omega) | simp (maxSteps := 500000) -implicitDefEqProofs only [go_sem, hd, ← hp, ← hs0] | skip) | refine vzt ?_ | refine vzf ?_ | refine vsb ?_ | refine vzb ?_ | refine vzq ?_ | simp (maxSteps := 500000) -implicitDefEqProofs only [go_sem, ← hp, ← hs0])
   (first | refine Z_block_loop (ι := Nat × (Int × Int)) (fun s => [(0, K), (4, .ptr 0 0 0), (5, (AVal.sc (Value.int IntKind.i64 (0)))), (6, .ptr 1 0 0), (7, S), (16, (AVal.sc (Value.int IntKind.i64 (r)))), (17, .ptr p 0 0), (18, (AVal.sc (Value.int IntKind.i64 (s.1))))]) (fun s σ' => s.1 ≤ k.length ∧ ((s.2 = (1, 1) ∧ ∀ j, j < s.1 → ¬ cand rs k.length r j) ∨ ∃ m, m < s.1 ∧ cand rs k.length r m ∧ s.2 = rs m ∧ ∀ j, j < s.1 → cand rs k.length r j → ¬ ltF (rs j) (rs m)) ∧ σ'.get p = some (.cells 2 [.agg [(AVal.sc (Value.int IntKind.i64 (s.2.1))), (AVal.sc (Value.int IntKind.i64 (s.2.2)))]]) ∧ Three σ' W R S Wl ((List.range k.length).map (rkTo rs k.length r)) ((List.range k.length).map rs)) (fun s => k.length - s.1) (fun _ => rfl) (0, (1, 1)) ?_ ?_ ?_ | refine Z_seq_loop (ι := Nat × (Int × Int)) (fun s => [(0, K), (4, .ptr 0 0 0), (5, (AVal.sc (Value.int IntKind.i64 (0)))), (6, .ptr 1 0 0), (7, S), (16, (AVal.sc (Value.int IntKind.i64 (r)))), (17, .ptr p 0 0), (18, (AVal.sc (Value.int IntKind.i64 (s.1))))]) (fun s σ' => s.1 ≤ k.length ∧ ((s.2 = (1, 1) ∧ ∀ j, j < s.1 → ¬ cand rs k.length r j) ∨ ∃ m, m < s.1 ∧ cand rs k.length r m ∧ s.2 = rs m ∧ ∀ j, j < s.1 → cand rs k.length r j → ¬ ltF (rs j) (rs m)) ∧ σ'.get p = some (.cells 2 [.agg [(AVal.sc (Value.int IntKind.i64 (s.2.1))), (AVal.sc (Value.int IntKind.i64 (s.2.2)))]]) ∧ Three σ' W R S Wl ((List.range k.length).map (rkTo rs k.length r)) ((List.range k.length).map rs)) (fun s => k.length - s.1) (fun _ => rfl) (0, (1, 1)) ?_ ?_ ?_ | refine Z_loop (ι := Nat × (Int × Int)) (fun s => [(0, K), (4, .ptr 0 0 0), (5, (AVal.sc (Value.int IntKind.i64 (0)))), (6, .ptr 1 0 0), (7, S), (16, (AVal.sc (Value.int IntKind.i64 (r)))), (17, .ptr p 0 0), (18, (AVal.sc (Value.int IntKind.i64 (s.1))))]) (fun s σ' => s.1 ≤ k.length ∧ ((s.2 = (1, 1) ∧ ∀ j, j < s.1 → ¬ cand rs k.length r j) ∨ ∃ m, m < s.1 ∧ cand rs k.length r m ∧ s.2 = rs m ∧ ∀ j, j < s.1 → cand rs k.length r j → ¬ ltF (rs j) (rs m)) ∧ σ'.get p = some (.cells 2 [.agg [(AVal.sc (Value.int IntKind.i64 (s.2.1))), (AVal.sc (Value.int IntKind.i64 (s.2.2)))]]) ∧ Three σ' W R S Wl ((List.range k.length).map (rkTo rs k.length r)) ((List.range k.length).map rs)) (fun s => k.length - s.1) (fun _ => rfl) (0, (1, 1)) ?_ ?_ ?_)
   ·(repeat' (first | exact trivial | refine ⟨rfl, ?_⟩))
   ·exact ⟨Nat.zero_le _, .inl ⟨rfl, by omega⟩, gp, h30⟩
   clear h30 gp hs0 h3 hp τ σ0
   rintro ⟨i, l1, l2⟩ τ ⟨hi, hl, gp, h3⟩
   dsimp only at hi hl gp h3
   have okl : okR (l1, l2) := by
    rcases hl with ⟨e, _⟩ | ⟨m, hm, _, e, _⟩
    ·rw [e]; exact ⟨by decide, by decide, by decide, by decide, by decide⟩
    ·rw [e]; exact hr0 m (by omega)
   simp (maxSteps := 500000) -implicitDefEqProofs only [go_sem, hK.len]
   ((first | refine vz2 ?_ ?_ | refine vz3 ?_ ?_) <;> intro h2)
   ·have hik : i < k.length := by omega
    have hix : (0 : Int) ≤ i ∧ (i : Int) < (k.length : Int) := ⟨by omega, by omega⟩
    have hw := wrapS (i := i) (by omega)
    obtain ⟨b3, hb3, rfl, gS⟩ := h3.gs.slice (n := k.length) (by simp) (by omega)
    obtain ⟨b2, hb2, rfl, gR⟩ := h3.gr.slice (n := k.length) (by simp) (by omega)
    have hx' : (((List.range k.length).map rs).map rA)[i]? = some (rA (rs i)) := by rw [List.getElem?_map, List.getElem?_map, List.getElem?_range hik]; rfl
    have hy' : (((List.range k.length).map (rkTo rs k.length r)).map iA)[i]? = some (iA (rkTo rs k.length r i)) := by rw [List.getElem?_map, List.getElem?_map, List.getElem?_range hik]; rfl
    have okx := hr0 i hik
    have ltx := hr1 i hik
    have hcd : cand rs k.length r i ↔ 0 < (rs i).1 ∧ rkTo rs k.length r i = 0 := Iff.rfl
    obtain ⟨⟨x1, x2⟩, hxe⟩ : ∃ x, x = rs i := ⟨_, rfl⟩
    rw [← hxe] at hx' okx ltx hcd
    have cC := rcmpC (w := w) (x1, x2) (l1, l2) (by have := okx.1; have := okx.2.1; exact ⟨by omega, by omega⟩) (by have := okx.2.2.1; have := okx.2.2.2.1; exact ⟨by omega, by omega⟩) (by have := okl.1; have := okl.2.1; exact ⟨by omega, by omega⟩) (by have := okl.2.2.1; have := okl.2.2.2.1; exact ⟨by omega, by omega⟩)
    rw [show cmpR (x1, x2) (l1, l2) = (sgn (x1, x2) (l1, l2), 0) by simp only [cmpR, okR_valid okx, okR_valid okl]; rfl] at cC
    simp only [rA] at cC
    generalize rkTo rs k.length r i = rk at *
    have g1 := h3.g1
    have t2 := h3.n2
    have q1 : 1 < τ.next := by omega
    have qp := AStore.lt_of_get gp
    have more : ¬ (cand rs k.length r i ∧ ltF (x1, x2) (l1, l2)) → (((l1, l2) = ((1 : Int), (1 : Int)) ∧ ∀ j, j < i + 1 → ¬ cand rs k.length r j) ∨ ∃ m, m < i + 1 ∧ cand rs k.length r m ∧ (l1, l2) = rs m ∧ ∀ j, j < i + 1 → cand rs k.length r j → ¬ ltF (rs j) (rs m)) := by
     intro hn
     rcases hl with ⟨e, ha⟩ | ⟨m, hm, hc, e, ha⟩
     ·refine .inl ⟨e, fun j hj hcj => ?_⟩
      rcases Nat.lt_or_ge j i with h' | h'
      ·exact ha j h' hcj
      ·obtain rfl : j = i := by omega
       refine hn ⟨hcj, ?_⟩
       rw [e]; unfold ltF; dsimp only at ltx ⊢; omega
     ·refine .inr ⟨m, by omega, hc, e, fun j hj hcj => ?_⟩
      rcases Nat.lt_or_ge j i with h' | h'
      ·exact ha j h' hcj
      ·obtain rfl : j = i := by omega
       intro hlt
       exact hn ⟨hcj, by rw [e, hxe]; exact hlt⟩
    have keep : ¬ (cand rs k.length r i ∧ ltF (x1, x2) (l1, l2)) → (i + 1 ≤ k.length ∧ (((l1, l2) = ((1 : Int), (1 : Int)) ∧ ∀ j, j < i + 1 → ¬ cand rs k.length r j) ∨ ∃ m, m < i + 1 ∧ cand rs k.length r m ∧ (l1, l2) = rs m ∧ ∀ j, j < i + 1 → cand rs k.length r j → ¬ ltF (rs j) (rs m)) ∧ τ.get p = some (.cells 2 [.agg [(AVal.sc (Value.int IntKind.i64 (l1))), (AVal.sc (Value.int IntKind.i64 (l2)))]]) ∧ Three τ W (.slice b2 0 k.length) (.slice b3 0 k.length) Wl ((List.range k.length).map (rkTo rs k.length r)) ((List.range k.length).map rs)) := fun hn => ⟨by omega, more hn, gp, h3⟩
    (repeat' first | ((first | refine vy1 ?_ ?_ | refine vy2 ?_ ?_ | refine vy3 ?_ ?_) <;> rintro ⟨hd, hq⟩ <;> first | (exfalso; omega) | simp (maxSteps := 500000) -implicitDefEqProofs only [go_sem, hd] | skip) | refine vzt ?_ | refine vzf ?_ | refine vsb ?_ | refine vzb ?_ | refine vzq ?_ | simp (maxSteps := 500000) -implicitDefEqProofs only [go_sem])
    ((try (refine Z_seq ?_; (try simp (maxSteps := 500000) -implicitDefEqProofs only [go_sem]))); refine Z_draw (by kernel_rfl) [0, 1, 2, 3, 4, 5, 6, 7, 8, 9, 10] [(10, 1023), (9, 255), (8, 127), (7, 127), (6, 63), (5, 31), (4, 0), (3, 7), (2, 3), (1, 0), (0, 0)] (by kernel_rfl) (by kernel_rfl) ?_)
    simp (maxSteps := 500000) -implicitDefEqProofs only [go_sem, gS, hx', hix, rA, gp]
    refine cC.useD ?_
    by_cases a1 : 0 < x1
    ·by_cases a2 : rk = 0
     ·by_cases a3 : ltF (x1, x2) (l1, l2)
      ·have hs : sgn (x1, x2) (l1, l2) < 0 := sgn_neg.2 a3
       simp (maxSteps := 500000) -implicitDefEqProofs only [go_sem]
       (repeat' first | ((first | refine vy1 ?_ ?_ | refine vy2 ?_ ?_ | refine vy3 ?_ ?_) <;> rintro ⟨hd, hq⟩ <;> first | (exfalso; omega) | simp (maxSteps := 500000) -implicitDefEqProofs only [go_sem, hd, gS, hx', hix, rA, gp, gR, hy', iA, g1, cw1, cw2, cw3, hw, qp, dct a1, dct a2, dct hs] | skip) | refine vzt ?_ | refine vzf ?_ | refine vsb ?_ | refine vzb ?_ | refine vzq ?_ | simp (maxSteps := 500000) -implicitDefEqProofs only [go_sem, gS, hx', hix, rA, gp, gR, hy', iA, g1, cw1, cw2, cw3, hw, qp, dct a1, dct a2, dct hs])
       refine ⟨(i + 1, (x1, x2)), by dsimp only; omega, ⟨by dsimp only; omega, .inr ⟨i, by dsimp only; omega, hcd.2 ⟨a1, a2⟩, hxe, ?_⟩, ?_, h3.put p2 pW pR pS⟩, ?_⟩
       ·intro j hj hcj
        rcases Nat.lt_or_ge j i with h' | h'
        ·rw [← hxe]
         intro hlt
         rcases hl with ⟨e, ha⟩ | ⟨m, hm, hc, e, ha⟩
         ·exact ha j h' hcj
         ·refine ha j h' hcj (ltF_trans (hr0 j (by omega)).2.2.1 okx.2.2.1 (hr0 m (by omega)).2.2.1 hlt ?_)
          rw [← e]; exact a3
        ·obtain rfl : j = i := by dsimp only at hj; omega
         exact ltF_irr
       ·simp (maxSteps := 500000) -implicitDefEqProofs only [go_sem, qp]
       ·(repeat' (first | exact trivial | refine ⟨rfl, ?_⟩))
      ·have hs : ¬ sgn (x1, x2) (l1, l2) < 0 := fun h => a3 (sgn_neg.1 h)
       simp (maxSteps := 500000) -implicitDefEqProofs only [go_sem]
       (repeat' first | ((first | refine vy1 ?_ ?_ | refine vy2 ?_ ?_ | refine vy3 ?_ ?_) <;> rintro ⟨hd, hq⟩ <;> first | (exfalso; omega) | simp (maxSteps := 500000) -implicitDefEqProofs only [go_sem, hd, gS, hx', hix, rA, gp, gR, hy', iA, g1, cw1, cw2, cw3, hw, dct a1, dct a2, dcf hs] | skip) | refine vzt ?_ | refine vzf ?_ | refine vsb ?_ | refine vzb ?_ | refine vzq ?_ | simp (maxSteps := 500000) -implicitDefEqProofs only [go_sem, gS, hx', hix, rA, gp, gR, hy', iA, g1, cw1, cw2, cw3, hw, dct a1, dct a2, dcf hs])
       refine ⟨(i + 1, (l1, l2)), by dsimp only; omega, keep fun h => a3 h.2, ?_⟩
       (repeat' (first | exact trivial | refine ⟨rfl, ?_⟩))
     ·simp (maxSteps := 500000) -implicitDefEqProofs only [go_sem]
      (repeat' first | ((first | refine vy1 ?_ ?_ | refine vy2 ?_ ?_ | refine vy3 ?_ ?_) <;> rintro ⟨hd, hq⟩ <;> first | (exfalso; omega) | simp (maxSteps := 500000) -implicitDefEqProofs only [go_sem, hd, gS, hx', hix, rA, gp, gR, hy', iA, g1, cw1, cw2, cw3, hw, dct a1, dcf a2] | skip) | refine vzt ?_ | refine vzf ?_ | refine vsb ?_ | refine vzb ?_ | refine vzq ?_ | simp (maxSteps := 500000) -implicitDefEqProofs only [go_sem, gS, hx', hix, rA, gp, gR, hy', iA, g1, cw1, cw2, cw3, hw, dct a1, dcf a2])
      refine ⟨(i + 1, (l1, l2)), by dsimp only; omega, keep fun h => a2 (hcd.1 h.1).2, ?_⟩
      (repeat' (first | exact trivial | refine ⟨rfl, ?_⟩))
    ·simp (maxSteps := 500000) -implicitDefEqProofs only [go_sem]
     (repeat' first | ((first | refine vy1 ?_ ?_ | refine vy2 ?_ ?_ | refine vy3 ?_ ?_) <;> rintro ⟨hd, hq⟩ <;> first | (exfalso; omega) | simp (maxSteps := 500000) -implicitDefEqProofs only [go_sem, hd, gS, hx', hix, rA, gp, gR, hy', iA, g1, cw1, cw2, cw3, hw, dcf a1] | skip) | refine vzt ?_ | refine vzf ?_ | refine vsb ?_ | refine vzb ?_ | refine vzq ?_ | simp (maxSteps := 500000) -implicitDefEqProofs only [go_sem, gS, hx', hix, rA, gp, gR, hy', iA, g1, cw1, cw2, cw3, hw, dcf a1])
     refine ⟨(i + 1, (l1, l2)), by dsimp only; omega, keep fun h => a1 (hcd.1 h.1).1, ?_⟩
     (repeat' (first | exact trivial | refine ⟨rfl, ?_⟩))
   ·obtain rfl : i = k.length := by omega
    have hq : ∀ (σ : AStore) (cst : Bool), opBin (EE w) σ .eql 49 cst (some (.agg [(AVal.sc (Value.int IntKind.i64 (l1))), (AVal.sc (Value.int IntKind.i64 (l2)))])) (some (.agg [(AVal.sc (Value.int IntKind.i64 (1))), (AVal.sc (Value.int IntKind.i64 (1)))])) = .val (.sc (.bool (decide ((l1, l2) = ((1 : Int), (1 : Int)))))) σ := fun σ cst => eqR49 σ cst (l1, l2) (1, 1)
    have g1 := h3.g1
    have g0 := h3.g0
    have t2 := h3.n2
    have q0 : 0 < τ.next := by omega
    (repeat' first | ((first | refine vy1 ?_ ?_ | refine vy2 ?_ ?_ | refine vy3 ?_ ?_) <;> rintro ⟨hd, hq⟩ <;> first | (exfalso; omega) | simp (maxSteps := 500000) -implicitDefEqProofs only [go_sem, hd] | skip) | refine vzt ?_ | refine vzf ?_ | refine vsb ?_ | refine vzb ?_ | refine vzq ?_ | simp (maxSteps := 500000) -implicitDefEqProofs only [go_sem])
    ((try (refine Z_seq ?_; (try simp (maxSteps := 500000) -implicitDefEqProofs only [go_sem]))); refine Z_draw (by kernel_rfl) [0, 1, 2] [(2, 3), (1, 0), (0, 0)] (by kernel_rfl) (by kernel_rfl) ?_)
    simp (maxSteps := 500000) -implicitDefEqProofs only [go_sem, gp]
    refine w1.useD ?_
    simp (maxSteps := 500000) -implicitDefEqProofs only [go_sem, gp, hq]
    by_cases d1 : (l1, l2) = ((1 : Int), (1 : Int))
    ·have hno : ∀ j, j < k.length → ¬ cand rs k.length r j := by
      rcases hl with ⟨_, ha⟩ | ⟨m, hm, hc, e, ha⟩
      ·exact ha
      ·exfalso
       have := hr1 m hm
       rw [← e, d1] at this
       exact absurd this (by decide)
     have hend := rkTo_end (r := r) hr0 fun i hi h0 hz => hno i hi ⟨h0, hz⟩
     have hmap : (List.range k.length).map (rkTo rs k.length r) = (List.range k.length).map (rkV rs k.length) := List.map_congr_left fun i hi => hend i (by simpa using hi)
     rw [hmap] at h3
     rw [dct d1]
     obtain ⟨V1, f1, f2⟩ := (h3.gw.low (b := 0) (x := .cells 2 [.agg [W, R]]) (by omega)).frz (n := 3) (mapO_iA _)
     obtain ⟨V2, f3, f4⟩ := (h3.gr.low (b := 0) (x := .cells 2 [.agg [W, R]]) (by omega)).frz (n := 3) (mapO_iA _)
     (repeat' first | ((first | refine vy1 ?_ ?_ | refine vy2 ?_ ?_ | refine vy3 ?_ ?_) <;> rintro ⟨hd, hq⟩ <;> first | (exfalso; omega) | simp (maxSteps := 500000) -implicitDefEqProofs only [go_sem, hd, g1, g0, q0, cw1, cw2, cw3, cr1, cr2, cr3] | skip) | refine vzt ?_ | refine vzf ?_ | refine vsb ?_ | refine vzb ?_ | refine vzq ?_ | simp (maxSteps := 500000) -implicitDefEqProofs only [go_sem, g1, g0, q0, cw1, cw2, cw3, cr1, cr2, cr3])
     exact ⟨_, _, rfl, by simp only [frz_tuple, mapO_cons', mapO_nil', frz_agg, f1, f3]; rfl, V1, V2, rfl, f2, f4⟩
    ·rw [dcf d1]
     obtain ⟨m, hm, hc, e, ha⟩ := hl.resolve_left fun h => d1 h.1
     obtain ⟨rn, hrd⟩ := round_eq hr0 hr hm hc.1 hc.2 fun i hi h0 hz => ha i hi ⟨h0, hz⟩
     have hwr := wrapS (i := r) (by omega)
     (repeat' first | ((first | refine vy1 ?_ ?_ | refine vy2 ?_ ?_ | refine vy3 ?_ ?_) <;> rintro ⟨hd, hq⟩ <;> first | (exfalso; omega) | simp (maxSteps := 500000) -implicitDefEqProofs only [go_sem, hd] | skip) | refine vzt ?_ | refine vzf ?_ | refine vsb ?_ | refine vzb ?_ | refine vzq ?_ | simp (maxSteps := 500000) -implicitDefEqProofs only [go_sem])
     (first | refine Z_block_loop (ι := Nat) (fun i => [(0, K), (4, .ptr 0 0 0), (5, (AVal.sc (Value.int IntKind.i64 (0)))), (6, .ptr 1 0 0), (7, S), (16, (AVal.sc (Value.int IntKind.i64 (r)))), (17, .ptr p 0 0), (21, (AVal.sc (Value.int IntKind.i64 (i))))]) (fun i σ' => i ≤ k.length ∧ σ'.get p = some (.cells 2 [.agg [(AVal.sc (Value.int IntKind.i64 (l1))), (AVal.sc (Value.int IntKind.i64 (l2)))]]) ∧ Three σ' W R S Wl (mixG (rkTo rs k.length (r + 1)) ((List.range k.length).map (rkTo rs k.length r)) i) ((List.range k.length).map rs)) (fun i => k.length - i) (fun _ => rfl) 0 ?_ ?_ ?_ | refine Z_seq_loop (ι := Nat) (fun i => [(0, K), (4, .ptr 0 0 0), (5, (AVal.sc (Value.int IntKind.i64 (0)))), (6, .ptr 1 0 0), (7, S), (16, (AVal.sc (Value.int IntKind.i64 (r)))), (17, .ptr p 0 0), (21, (AVal.sc (Value.int IntKind.i64 (i))))]) (fun i σ' => i ≤ k.length ∧ σ'.get p = some (.cells 2 [.agg [(AVal.sc (Value.int IntKind.i64 (l1))), (AVal.sc (Value.int IntKind.i64 (l2)))]]) ∧ Three σ' W R S Wl (mixG (rkTo rs k.length (r + 1)) ((List.range k.length).map (rkTo rs k.length r)) i) ((List.range k.length).map rs)) (fun i => k.length - i) (fun _ => rfl) 0 ?_ ?_ ?_ | refine Z_loop (ι := Nat) (fun i => [(0, K), (4, .ptr 0 0 0), (5, (AVal.sc (Value.int IntKind.i64 (0)))), (6, .ptr 1 0 0), (7, S), (16, (AVal.sc (Value.int IntKind.i64 (r)))), (17, .ptr p 0 0), (21, (AVal.sc (Value.int IntKind.i64 (i))))]) (fun i σ' => i ≤ k.length ∧ σ'.get p = some (.cells 2 [.agg [(AVal.sc (Value.int IntKind.i64 (l1))), (AVal.sc (Value.int IntKind.i64 (l2)))]]) ∧ Three σ' W R S Wl (mixG (rkTo rs k.length (r + 1)) ((List.range k.length).map (rkTo rs k.length r)) i) ((List.range k.length).map rs)) (fun i => k.length - i) (fun _ => rfl) 0 ?_ ?_ ?_)
     ·(repeat' (first | exact trivial | refine ⟨rfl, ?_⟩))
     ·exact ⟨Nat.zero_le _, gp, by rw [mixg_zero]; exact h3⟩
     clear h3 gp g1 g0 t2 q0 hi hl τ
     rintro i τ ⟨hi, gp, h3⟩
     simp (maxSteps := 500000) -implicitDefEqProofs only [go_sem, hK.len]
     ((first | refine vz2 ?_ ?_ | refine vz3 ?_ ?_) <;> intro h2)
     ·have hik : i < k.length := by omega
      have hix : (0 : Int) ≤ i ∧ (i : Int) < (k.length : Int) := ⟨by omega, by omega⟩
      have hw := wrapS (i := i) (by omega)
      have lr : ((List.range k.length).map (rkTo rs k.length r)).length = k.length := by simp
      obtain ⟨b3, hb3, rfl, gS⟩ := h3.gs.slice (n := k.length) (by simp) (by omega)
      obtain ⟨b2, hb2, rfl, gR⟩ := h3.gr.slice (n := k.length) (by rw [List.length_map, mixg_len (by omega), lr]) (by omega)
      have hx' : (((List.range k.length).map rs).map rA)[i]? = some (rA (rs i)) := by rw [List.getElem?_map, List.getElem?_map, List.getElem?_range hik]; rfl
      have hold : ((List.range k.length).map (rkTo rs k.length r))[i]? = some (rkTo rs k.length r i) := by rw [List.getElem?_map, List.getElem?_range hik]; rfl
      have hy' : ((mixG (rkTo rs k.length (r + 1)) ((List.range k.length).map (rkTo rs k.length r)) i).map iA)[i]? = some (iA (rkTo rs k.length r i)) := by rw [List.getElem?_map, mixg_get, hold]; rfl
      obtain ⟨⟨x1, x2⟩, hxe⟩ : ∃ x, x = rs i := ⟨_, rfl⟩
      rw [← hxe] at hx'
      have hq2 : ∀ (σ : AStore) (cst : Bool), opBin (EE w) σ .eql 49 cst (some (.agg [(AVal.sc (Value.int IntKind.i64 (x1))), (AVal.sc (Value.int IntKind.i64 (x2)))])) (some (.agg [(AVal.sc (Value.int IntKind.i64 (l1))), (AVal.sc (Value.int IntKind.i64 (l2)))])) = .val (.sc (.bool (decide ((x1, x2) = (l1, l2))))) σ := fun σ cst => eqR49 σ cst (x1, x2) (l1, l2)
      have g1 := h3.g1
      have lt2 := AStore.lt_of_get gR
      have pb : ¬ p = b2 := fun h => pR k.length (by rw [h])
      (repeat' first | ((first | refine vy1 ?_ ?_ | refine vy2 ?_ ?_ | refine vy3 ?_ ?_) <;> rintro ⟨hd, hq⟩ <;> first | (exfalso; omega) | simp (maxSteps := 500000) -implicitDefEqProofs only [go_sem, hd] | skip) | refine vzt ?_ | refine vzf ?_ | refine vsb ?_ | refine vzb ?_ | refine vzq ?_ | simp (maxSteps := 500000) -implicitDefEqProofs only [go_sem])
      ((try (refine Z_seq ?_; (try simp (maxSteps := 500000) -implicitDefEqProofs only [go_sem]))); refine Z_draw (by kernel_rfl) [0, 1, 2, 3, 4, 5] [(5, 31), (4, 0), (3, 7), (2, 3), (1, 0), (0, 0)] (by kernel_rfl) (by kernel_rfl) ?_)
      simp (maxSteps := 500000) -implicitDefEqProofs only [go_sem, gS, hx', hix, rA, gp, hq2]
      by_cases a1 : (x1, x2) = (l1, l2)
      ·have hnew := (hrd i hik).1 (by rw [← hxe, a1, e])
       have hst := mixg_set (f := rkTo rs k.length (r + 1)) (l := (List.range k.length).map (rkTo rs k.length r)) (i := i) (by rw [lr]; omega) hnew.symm
       rw [dct a1]
       (repeat' first | ((first | refine vy1 ?_ ?_ | refine vy2 ?_ ?_ | refine vy3 ?_ ?_) <;> rintro ⟨hd, hq⟩ <;> first | (exfalso; omega) | simp (maxSteps := 500000) -implicitDefEqProofs only [go_sem, hd, g1, cw1, cw2, cw3, gR, hy', hix, iA, hw] | skip) | refine vzt ?_ | refine vzf ?_ | refine vsb ?_ | refine vzb ?_ | refine vzq ?_ | simp (maxSteps := 500000) -implicitDefEqProofs only [go_sem, g1, cw1, cw2, cw3, gR, hy', hix, iA, hw])
       refine ⟨i + 1, by dsimp only; omega, ⟨by omega, ?_, ?_⟩, ?_⟩
       ·simp (maxSteps := 500000) -implicitDefEqProofs only [go_sem, gp, pb]
       ·rw [← hst]; exact h3.setR (i := i) (r : Int) hb2 lt2 (by rw [mixg_len (by omega), lr])
       ·(repeat' (first | exact trivial | refine ⟨rfl, ?_⟩))
      ·have hnew := (hrd i hik).2 (by rw [← hxe, ← e]; exact a1)
       rw [dcf a1]
       (repeat' first | ((first | refine vy1 ?_ ?_ | refine vy2 ?_ ?_ | refine vy3 ?_ ?_) <;> rintro ⟨hd, hq⟩ <;> first | (exfalso; omega) | simp (maxSteps := 500000) -implicitDefEqProofs only [go_sem, hd, hw] | skip) | refine vzt ?_ | refine vzf ?_ | refine vsb ?_ | refine vzb ?_ | refine vzq ?_ | simp (maxSteps := 500000) -implicitDefEqProofs only [go_sem, hw])
       refine ⟨i + 1, by dsimp only; omega, ⟨by omega, gp, ?_⟩, ?_⟩
       ·rw [mixg_keep hold hnew.symm]; exact h3
       ·(repeat' (first | exact trivial | refine ⟨rfl, ?_⟩))
     ·obtain rfl : i = k.length := by omega
      have hme := mixg_end (f := rkTo rs k.length (r + 1)) (l := (List.range k.length).map (rkTo rs k.length r))
      rw [List.length_map, List.length_range] at hme
      rw [hme] at h3
      (repeat' first | ((first | refine vy1 ?_ ?_ | refine vy2 ?_ ?_ | refine vy3 ?_ ?_) <;> rintro ⟨hd, hq⟩ <;> first | (exfalso; omega) | simp (maxSteps := 500000) -implicitDefEqProofs only [go_sem, hd, hwr] | skip) | refine vzt ?_ | refine vzf ?_ | refine vsb ?_ | refine vzb ?_ | refine vzq ?_ | simp (maxSteps := 500000) -implicitDefEqProofs only [go_sem, hwr])
      refine ⟨r + 1, by dsimp only; omega, ⟨by omega, by omega, h3⟩, ?_⟩
      (repeat' (first | exact trivial | refine ⟨rfl, ?_⟩))
end Abs
