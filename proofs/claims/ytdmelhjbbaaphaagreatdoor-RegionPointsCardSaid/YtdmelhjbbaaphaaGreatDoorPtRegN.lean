/-
  Functions of the program walked: each is shown to compute a plain function (RegN).
-/
import Derived.Test.YtdmelhjbbaaphaaGreatDoorPtRegM
import Derived.Test.YtdmelhjbbaaphaaGreatDoorPtRegB2
import Derived.Test.YtdmelhjbbaaphaaGreatDoorPtRegA1
namespace Abs
set_option linter.unusedSimpArgs false
set_option linter.unusedVariables false
set_option maxRecDepth 100000
set_option maxHeartbeats 2000000
structure IsRank (n : Nat) (F R : Nat → Int) : Prop where
 nn : ∀ i, i < n → 0 ≤ R i
 z : ∀ i, i < n → (R i = 0 ↔ F i = 0)
 lt : ∀ i j, i < n → j < n → (F i < F j ↔ R i < R j)
 all : ∀ i, i < n → ∀ m : Int, 1 ≤ m → m < R i → ∃ j, j < n ∧ R j = m
theorem rank_unique1 {n : Nat} {F R R' : Nat → Int} (h : IsRank n F R) (h' : IsRank n F R') : ∀ (N : Nat) (i : Nat), i < n → (R i ≤ N ∨ R' i ≤ N) → R i = R' i
  | 0, i, hi, hh => by
      have a := h.z i hi
      have b := h'.z i hi
      have c := h.nn i hi
      have d := h'.nn i hi
      rcases hh with hh | hh
      · have e : R i = 0 := by omega
        rw [e, b.2 (a.1 e)]
      · have e : R' i = 0 := by omega
        rw [e, a.2 (b.1 e)]
  | N + 1, i, hi, hh => by
      by_cases hs : R i ≤ N ∨ R' i ≤ N
      · exact rank_unique1 h h' N i hi hs
      · rcases hh with hh | hh
        · have e : R i = N + 1 := by omega
          by_cases e' : R' i = N + 1
          · omega
          · obtain ⟨j, hj, hm⟩ := h'.all i hi (N + 1) (by omega) (by omega)
            have q1 : F j < F i := (h'.lt j i hj hi).2 (by omega)
            have q2 := (h.lt j i hj hi).1 q1
            have := rank_unique1 h h' N j hj (.inl (by omega))
            omega
        · have e : R' i = N + 1 := by omega
          by_cases e' : R i = N + 1
          · omega
          · obtain ⟨j, hj, hm⟩ := h.all i hi (N + 1) (by omega) (by omega)
            have q1 : F j < F i := (h.lt j i hj hi).2 (by omega)
            have q2 := (h'.lt j i hj hi).1 q1
            have := rank_unique1 h h' N j hj (.inr (by omega))
            omega
theorem rank_unique {n : Nat} {F R R' : Nat → Int} (h : IsRank n F R) (h' : IsRank n F R') {i : Nat} (hi : i < n) : R i = R' i :=
 rank_unique1 h h' (R i).toNat i hi (.inl (by have := h.nn i hi; omega))
theorem rank_congr {n : Nat} {F G R : Nat → Int} (h : IsRank n F R) (hz : ∀ i, i < n → (F i = 0 ↔ G i = 0)) (hl : ∀ i j, i < n → j < n → (F i < F j ↔ G i < G j)) : IsRank n G R where
 nn := h.nn
 z := fun i hi => (h.z i hi).trans (hz i hi)
 lt := fun i j hi hj => (hl i j hi hj).symm.trans (h.lt i j hi hj)
 all := h.all
def rkOf (F : Nat → Int) (n i : Nat) : Int := if F i = 0 then 0 else 1 + (cntTo F (F i) n : Int)
theorem rk_zero {F : Nat → Int} {n i : Nat} (h : F i = 0) : rkOf F n i = 0 := if_pos h
theorem rk_pos {F : Nat → Int} {n i : Nat} (h : 0 < F i) : rkOf F n i = 1 + (cntTo F (F i) n : Int) := if_neg (by omega)
theorem cnt_down {F : Nat → Int} {n i : Nat} (h : 1 ≤ cntTo F (F i) n) : ∃ j, j < n ∧ 0 < F j ∧ cntTo F (F j) n + 1 = cntTo F (F i) n := by
 by_cases hb : ∃ j, j < n ∧ 0 < F j ∧ F j < F i
 ·obtain ⟨j, h1, h2, h3, h4⟩ := max_below F (F i) n hb
  exact ⟨j, h1, h2, (cnt_next h2 h3 n h4 ⟨j, h1, rfl⟩).symm⟩
 ·exfalso
  by_cases h1 : 1 ≤ F i
  ·have e : cntTo F (F i) n = cntTo F 1 n := cnt_same n (fun j hj hh => hb ⟨j, hj, by omega, hh.2⟩) h1
   rw [cnt_one] at e
   omega
  ·have e := cnt_mono (v := F) (show F i ≤ 1 by omega) n
   rw [cnt_one] at e
   omega
theorem cnt_steps {F : Nat → Int} {n m : Nat} : ∀ (t i : Nat), i < n → 0 < F i → cntTo F (F i) n = m + t → ∃ j, j < n ∧ 0 < F j ∧ cntTo F (F j) n = m
  | 0, i, hi, h0, h => ⟨i, hi, h0, h⟩
  | t + 1, i, hi, h0, h => by
      obtain ⟨j, hj, hp, he⟩ := cnt_down (F := F) (n := n) (i := i) (by omega)
      exact cnt_steps t j hj hp (by omega)
theorem rank_of {n : Nat} {F : Nat → Int} (h : ∀ i, i < n → 0 ≤ F i) : IsRank n F (rkOf F n) where
 nn := fun i _ => by unfold rkOf; split <;> omega
 z := fun i _ => by unfold rkOf; split <;> omega
 lt := fun i j hi hj => by
  have a := h i hi
  have b := h j hj
  have key : ∀ i j, i < n → j < n → 0 ≤ F i → F i < F j → rkOf F n i < rkOf F n j := by
   intro i j hi hj a hh
   rw [rk_pos (i := j) (by omega)]
   by_cases hz : F i = 0
   ·rw [rk_zero hz]; omega
   ·rw [rk_pos (i := i) (by omega)]
    have := cnt_strict (v := F) (x := F j) (y := F i) (n := n) (by omega) hh ⟨i, hi, rfl⟩
    omega
  constructor
  ·exact key i j hi hj a
  ·intro hh
   rcases Int.lt_or_le (F i) (F j) with h' | h'
   ·exact h'
   ·exfalso
    by_cases e : F j = F i
    ·unfold rkOf at hh; rw [e] at hh; omega
    ·have := key j i hj hi b (by omega); omega
 all := fun i hi m h1 h2 => by
  have a := h i hi
  by_cases hz : F i = 0
  ·rw [rk_zero hz] at h2; omega
  ·rw [rk_pos (i := i) (by omega)] at h2
   obtain ⟨j, hj, hp, he⟩ := cnt_steps (F := F) (n := n) (m := (m - 1).toNat) (cntTo F (F i) n - (m - 1).toNat) i hi (by omega) (by omega)
   exact ⟨j, hj, by rw [rk_pos hp]; omega⟩
theorem cnt_le (v : Nat → Int) (x : Int) : ∀ n, cntTo v x n ≤ n
 | 0 => Nat.le_refl _
 | n + 1 => by have := cnt_le v x n; unfold cntTo; split <;> omega
theorem rank_le {n : Nat} {F R : Nat → Int} (h : IsRank n F R) (h0 : ∀ i, i < n → 0 ≤ F i) {i : Nat} (hi : i < n) : R i ≤ n := by
 rw [rank_unique h (rank_of h0) hi]
 have a := h0 i hi
 by_cases hz : F i = 0
 ·rw [rk_zero hz]; omega
 ·rw [rk_pos (by omega)]
  have h4 : cntTo F (F i) n < cntTo F (F i + 1) n := cnt_strict (by omega) (by omega) ⟨i, hi, rfl⟩
  have := cnt_le F (F i + 1) n
  omega
def flV (D c x : Int) : Int := if c * D < x then c + 1 else x / D
def frV (D c x : Int) : Int := if c * D < x then 0 else x % D
structure IsReg (n : Nat) (D : Int) (c X W R : Nat → Int) : Prop where
 w : ∀ i, i < n → W i = flV D (c i) (X i)
 r : IsRank n (fun i => frV D (c i) (X i)) R
theorem reg_unique {n : Nat} {D : Int} {c X W R W' R' : Nat → Int} (h : IsReg n D c X W R) (h' : IsReg n D c X W' R') {i : Nat} (hi : i < n) : W i = W' i ∧ R i = R' i :=
 ⟨(h.w i hi).trans (h'.w i hi).symm, rank_unique h.r h'.r hi⟩
/-- What one clock is like. -/
theorem clk {D c x : Int} (hD : 0 < D) (hx : 0 ≤ x) (hc : -1 ≤ c) :
  (c * D < x ∧ flV D c x = c + 1 ∧ frV D c x = 0) ∨
  (x ≤ c * D ∧ flV D c x = x / D ∧ frV D c x = x % D ∧ x = D * flV D c x + frV D c x ∧ 0 ≤ frV D c x ∧ frV D c x < D ∧ 0 ≤ flV D c x ∧ flV D c x ≤ c ∧ (0 < frV D c x → flV D c x < c)) := by
 by_cases h : c * D < x
 ·exact .inl ⟨h, if_pos h, if_pos h⟩
 ·have e1 : flV D c x = x / D := if_neg h
  have e2 : frV D c x = x % D := if_neg h
  have m0 := Int.emod_nonneg x (show D ≠ 0 by omega)
  have m1 := Int.emod_lt_of_pos x hD
  have hm := Int.mul_ediv_add_emod x D
  have q0 : 0 ≤ x / D := Int.ediv_nonneg hx (by omega)
  refine .inr ⟨by omega, e1, e2, by rw [e1, e2, hm], by omega, by omega, by omega, ?_, ?_⟩
  ·rw [e1]
   rcases Int.lt_or_le c (x / D) with h' | h'
   ·exfalso
    have := Int.mul_le_mul_of_nonneg_left (show c + 1 ≤ x / D by omega) (show 0 ≤ D by omega)
    rw [Int.mul_add, Int.mul_comm D c] at this
    omega
   ·exact h'
  ·rw [e1, e2]
   intro hp
   rcases Int.lt_or_le (x / D) c with h' | h'
   ·exact h'
   ·exfalso
    have := Int.mul_le_mul_of_nonneg_left h' (show 0 ≤ D by omega)
    rw [Int.mul_comm D c] at this
    omega
/-- Where a number of whole and part lies. -/
theorem clk_mk {D c q f x : Int} (hf : 0 ≤ f) (hfD : f < D) (hx : x = D * q + f) (hq : q ≤ c) (hqc : 0 < f → q < c) : ¬ c * D < x ∧ flV D c x = q ∧ frV D c x = f := by
 have hD : 0 < D := by omega
 have h : ¬ c * D < x := by
  have := Int.mul_le_mul_of_nonneg_left hq (show 0 ≤ D by omega)
  rw [Int.mul_comm D c] at this
  by_cases h0 : 0 < f
  ·have := Int.mul_le_mul_of_nonneg_left (show q + 1 ≤ c by have := hqc h0; omega) (show 0 ≤ D by omega)
   rw [Int.mul_add, Int.mul_comm D c] at this
   omega
  ·omega
 refine ⟨h, ?_, ?_⟩
 ·unfold flV; rw [if_neg h, hx, Int.mul_add_ediv_left _ _ (by omega), Int.ediv_eq_zero_of_lt hf hfD]; omega
 ·unfold frV; rw [if_neg h, hx, Int.mul_add_emod_self_left, Int.emod_eq_of_lt hf hfD]
theorem clk_by {D c x : Int} (h : c * D < x) : flV D c x = c + 1 ∧ frV D c x = 0 := ⟨if_pos h, if_pos h⟩
theorem fr_nn {n : Nat} {D : Int} {c X : Nat → Int} (hD : 0 < D) {i : Nat} : 0 ≤ frV D (c i) (X i) := by
 unfold frV; split
 ·omega
 ·exact Int.emod_nonneg _ (by omega)
theorem scale_cl {D c x : Int} : flV (2 * D) c (2 * x) = flV D c x ∧ frV (2 * D) c (2 * x) = 2 * frV D c x := by
 have e : c * (2 * D) < 2 * x ↔ c * D < x := by
  rw [← Int.mul_assoc, Int.mul_comm c 2, Int.mul_assoc]; omega
 unfold flV frV
 by_cases h : c * D < x
 ·rw [if_pos (e.2 h), if_pos h, if_pos (e.2 h), if_pos h]; omega
 ·rw [if_neg (fun h' => h (e.1 h')), if_neg h, if_neg (fun h' => h (e.1 h')), if_neg h]
  exact ⟨Int.mul_ediv_mul_of_pos _ _ (by omega), Int.mul_emod_mul_of_pos _ _ (by omega)⟩
theorem reg_scale {n : Nat} {D : Int} {c X W R : Nat → Int} (h : IsReg n D c X W R) : IsReg n (2 * D) c (fun i => 2 * X i) W R where
 w := fun i hi => by rw [h.w i hi]; exact scale_cl.1.symm
 r := rank_congr h.r (fun i _ => by show _ = 0 ↔ frV (2 * D) (c i) (2 * X i) = 0; rw [scale_cl.2]; omega) fun i j _ _ => by
  show _ ↔ frV (2 * D) (c i) (2 * X i) < frV (2 * D) (c j) (2 * X j)
  rw [scale_cl.2, scale_cl.2]; omega
theorem reg_congr {n : Nat} {D : Int} {c X Y W R : Nat → Int} (h : IsReg n D c X W R) (e : ∀ i, i < n → X i = Y i) : IsReg n D c Y W R where
 w := fun i hi => by rw [h.w i hi, e i hi]
 r := rank_congr h.r (fun i hi => by rw [e i hi]) fun i j hi hj => by rw [e i hi, e j hj]
end Abs
namespace Abs
set_option linter.unusedSimpArgs false
set_option linter.unusedVariables false
set_option maxRecDepth 100000
set_option maxHeartbeats 2000000
theorem reg_bnd {n : Nat} {D : Int} {c X W R : Nat → Int} (h : IsReg n D c X W R) (hD : 0 < D) {i : Nat} (hi : i < n) (hX : 0 ≤ X i) (hc : -1 ≤ c i) :
  0 ≤ W i ∧ W i ≤ c i + 1 ∧ 0 ≤ R i ∧ R i ≤ n ∧ (0 < R i → W i < c i) := by
 have hw := h.w i hi
 have hz := h.r.z i hi
 have hn := h.r.nn i hi
 have hle := rank_le h.r (fun i _ => fr_nn (n := n) hD) hi
 rcases clk hD hX hc with ⟨k1, k2, k3⟩ | ⟨k1, k2, k3, k4, k5, k6, k7, k8, k9⟩
 ·rw [k2] at hw
  exact ⟨by omega, by omega, hn, hle, fun hp => by have := hz.2 k3; omega⟩
 ·rw [← hw] at k7 k8 k9
  exact ⟨k7, by omega, hn, hle, fun hp => k9 (by
   rcases Int.lt_or_le 0 (frV D (c i) (X i)) with h' | h'
   ·exact h'
   ·have := hz.2 (show frV D (c i) (X i) = 0 by omega); omega)⟩
theorem reg_eps {n : Nat} {D ε d : Int} {c X W R W' R' : Nat → Int} (h : IsReg n D c X W R) (hD : 0 < D) (hX : ∀ i, i < n → 0 ≤ X i) (hc : ∀ i, i < n → -1 ≤ c i) (he : 0 < ε)
    (hg : ∀ i, i < n → ¬ c i * D < X i → frV D (c i) (X i) + ε < D)
    (hd : (d = 1 ∧ ∃ i, i < n ∧ W i < c i ∧ R i = 0) ∨ (d = 0 ∧ ∀ i, i < n → W i < c i → R i ≠ 0))
    (h1 : ∀ i, i < n → c i < W i → W' i = W i ∧ R' i = R i)
    (h2 : ∀ i, i < n → W i ≤ c i → 0 < R i → W' i = W i ∧ R' i = R i + d)
    (h3 : ∀ i, i < n → W i = c i → R i = 0 → W' i = W i + 1 ∧ R' i = 0)
    (h4 : ∀ i, i < n → W i < c i → R i = 0 → W' i = W i ∧ R' i = 1) : IsReg n D c (fun i => X i + ε) W' R' := by
  have cls : ∀ i, i < n → W' i = flV D (c i) (X i + ε) ∧ ((frV D (c i) (X i + ε) = 0 ∧ R' i = 0 ∧ R i = 0) ∨ (frV D (c i) (X i + ε) = ε ∧ R' i = 1 ∧ R i = 0 ∧ d = 1) ∨
      (0 < frV D (c i) (X i) ∧ 0 < R i ∧ frV D (c i) (X i + ε) = frV D (c i) (X i) + ε ∧ R' i = R i + d)) := by
    intro i hi
    have hw := h.w i hi
    have hz := h.r.z i hi
    have hn := h.r.nn i hi
    try dsimp only at hz
    rcases clk hD (hX i hi) (hc i hi) with ⟨k1, k2, k3⟩ | ⟨k1, k2, k3, k4, k5, k6, k7, k8, k9⟩
    · obtain ⟨b1, b2⟩ := clk_by (D := D) (c := c i) (x := X i + ε) (by omega)
      obtain ⟨a1, a2⟩ := h1 i hi (by omega)
      have := hz.2 k3
      exact ⟨by omega, .inl ⟨b2, by omega, by omega⟩⟩
    · rw [← hw] at k4 k7 k8 k9
      by_cases hf : 0 < frV D (c i) (X i)
      · have hr : 0 < R i := by
          rcases Int.lt_or_le 0 (R i) with h' | h'
          · exact h'
          · have := hz.1 (by omega); omega
        obtain ⟨a1, a2⟩ := h2 i hi k8 hr
        obtain ⟨b0, b1, b2⟩ := clk_mk (D := D) (c := c i) (q := W i) (f := frV D (c i) (X i) + ε) (x := X i + ε) (by omega) (hg i hi (by omega)) (by omega) k8 (fun _ => k9 hf)
        exact ⟨by omega, .inr (.inr ⟨hf, hr, b2, a2⟩)⟩
      · have hf0 : frV D (c i) (X i) = 0 := by omega
        have hr := hz.2 hf0
        by_cases hwc : W i = c i
        · obtain ⟨a1, a2⟩ := h3 i hi hwc hr
          obtain ⟨b1, b2⟩ := clk_by (D := D) (c := c i) (x := X i + ε) (by rw [Int.mul_comm, ← hwc]; omega)
          exact ⟨by omega, .inl ⟨b2, by omega, by omega⟩⟩
        · obtain ⟨a1, a2⟩ := h4 i hi (by omega) hr
          have hgi := hg i hi (by omega)
          obtain ⟨b0, b1, b2⟩ := clk_mk (D := D) (c := c i) (q := W i) (f := ε) (x := X i + ε) (by omega) (by omega) (by omega) k8 (fun _ => by omega)
          refine ⟨by omega, .inr (.inl ⟨b2, a2, hr, ?_⟩)⟩
          rcases hd with hd | hd
          · exact hd.1
          · exact absurd hr (hd.2 i hi (by omega))
  have d01 : d = 0 ∨ d = 1 := by rcases hd with hd | hd <;> omega
  refine ⟨fun i hi => (cls i hi).1, ⟨fun i hi => ?_, fun i hi => ?_, fun i j hi hj => ?_, fun i hi m hm1 hm2 => ?_⟩⟩
  · rcases (cls i hi).2 with k | k | k <;> omega
  · try dsimp only
    rcases (cls i hi).2 with k | k | k <;> omega
  · have hl := h.r.lt i j hi hj
    try dsimp only at hl ⊢
    rcases (cls i hi).2 with k | k | k <;> rcases (cls j hj).2 with k' | k' | k' <;> omega
  · rcases (cls i hi).2 with k | k | k
    · omega
    · omega
    · have third : ∀ j, j < n → 0 < R j → R' j = R j + d := fun j hj hp => by rcases (cls j hj).2 with k' | k' | k' <;> omega
      rcases hd with ⟨hd, i1, hi1, w1, r1⟩ | ⟨hd, _⟩
      · by_cases hm : m = 1
        · exact ⟨i1, hi1, by have := (h4 i1 hi1 w1 r1).2; omega⟩
        · obtain ⟨j, hj, e⟩ := h.r.all i hi (m - 1) (by omega) (by omega)
          exact ⟨j, hj, by have := third j hj (by omega); omega⟩
      · obtain ⟨j, hj, e⟩ := h.r.all i hi m (by omega) (by omega)
        exact ⟨j, hj, by have := third j hj (by omega); omega⟩
theorem reg_stay {n : Nat} {D t : Int} {c X W R : Nat → Int} (h : IsReg n D c X W R) (hD : 0 < D) (hX : ∀ i, i < n → 0 ≤ X i) (hc : ∀ i, i < n → -1 ≤ c i) (ht : 0 ≤ t)
    (hg : ∀ i, i < n → ¬ c i * D < X i → frV D (c i) (X i) + t < D)
    (hnw : ∀ i, i < n → W i ≤ c i → 0 < R i) : IsReg n D c (fun i => X i + t) W R := by
  have cls : ∀ i, i < n → W i = flV D (c i) (X i + t) ∧ ((frV D (c i) (X i + t) = 0 ∧ frV D (c i) (X i) = 0 ∧ R i = 0) ∨
      (0 < frV D (c i) (X i) ∧ 0 < R i ∧ frV D (c i) (X i + t) = frV D (c i) (X i) + t)) := by
    intro i hi
    have hw := h.w i hi
    have hz := h.r.z i hi
    have hn := h.r.nn i hi
    try dsimp only at hz
    rcases clk hD (hX i hi) (hc i hi) with ⟨k1, k2, k3⟩ | ⟨k1, k2, k3, k4, k5, k6, k7, k8, k9⟩
    · obtain ⟨b1, b2⟩ := clk_by (D := D) (c := c i) (x := X i + t) (by omega)
      have := hz.2 k3
      exact ⟨by omega, .inl ⟨b2, by omega, by omega⟩⟩
    · rw [← hw] at k4 k7 k8 k9
      have hr := hnw i hi k8
      have hf : 0 < frV D (c i) (X i) := by
        rcases Int.lt_or_le 0 (frV D (c i) (X i)) with h' | h'
        · exact h'
        · have := hz.2 (by omega); omega
      obtain ⟨b0, b1, b2⟩ := clk_mk (D := D) (c := c i) (q := W i) (f := frV D (c i) (X i) + t) (x := X i + t) (by omega) (hg i hi (by omega)) (by omega) k8 (fun _ => k9 hf)
      exact ⟨by omega, .inr ⟨hf, hr, b2⟩⟩
  refine ⟨fun i hi => (cls i hi).1, rank_congr h.r (fun i hi => ?_) fun i j hi hj => ?_⟩
  · try dsimp only
    rcases (cls i hi).2 with k | k <;> omega
  · try dsimp only
    rcases (cls i hi).2 with k | k <;> rcases (cls j hj).2 with k' | k' <;> omega
theorem reg_gap {n i0 : Nat} {D : Int} {c X W R W' R' : Nat → Int} (h : IsReg n D c X W R) (hD : 0 < D) (hX : ∀ i, i < n → 0 ≤ X i) (hc : ∀ i, i < n → -1 ≤ c i)
    (hi0 : i0 < n) (hw0 : W i0 ≤ c i0) (htop : ∀ i, i < n → R i ≤ R i0)
    (hnw : ∀ i, i < n → W i ≤ c i → 0 < R i)
    (h1 : ∀ i, i < n → c i < W i → W' i = W i ∧ R' i = R i)
    (h2 : ∀ i, i < n → W i ≤ c i → R i = R i0 → W' i = W i + 1 ∧ R' i = 0)
    (h3 : ∀ i, i < n → W i ≤ c i → R i ≠ R i0 → W' i = W i ∧ R' i = R i) : IsReg n D c (fun i => X i + (D - frV D (c i0) (X i0))) W' R' := by
  have hm := clk hD (hX i0 hi0) (hc i0 hi0)
  have hw00 := h.w i0 hi0
  have hmD : frV D (c i0) (X i0) < D := by rcases hm with k | k <;> omega
  have cls : ∀ i, i < n → W' i = flV D (c i) (X i + (D - frV D (c i0) (X i0))) ∧ ((frV D (c i) (X i + (D - frV D (c i0) (X i0))) = 0 ∧ R' i = 0 ∧ (R i = 0 ∨ R i = R i0)) ∨
      (0 < frV D (c i) (X i) ∧ 0 < R i ∧ R i < R i0 ∧ frV D (c i) (X i + (D - frV D (c i0) (X i0))) = frV D (c i) (X i) + (D - frV D (c i0) (X i0)) ∧ R' i = R i)) := by
    intro i hi
    have hw := h.w i hi
    have hz := h.r.z i hi
    have hn := h.r.nn i hi
    have htp := htop i hi
    have hl1 := h.r.lt i i0 hi hi0
    have hl2 := h.r.lt i0 i hi0 hi
    try dsimp only at hz hl1 hl2
    rcases clk hD (hX i hi) (hc i hi) with ⟨k1, k2, k3⟩ | ⟨k1, k2, k3, k4, k5, k6, k7, k8, k9⟩
    · obtain ⟨b1, b2⟩ := clk_by (D := D) (c := c i) (x := X i + (D - frV D (c i0) (X i0))) (by omega)
      obtain ⟨a1, a2⟩ := h1 i hi (by omega)
      have := hz.2 k3
      exact ⟨by omega, .inl ⟨b2, by omega, .inl this⟩⟩
    · rw [← hw] at k4 k7 k8 k9
      have hr := hnw i hi k8
      have hf : 0 < frV D (c i) (X i) := by
        rcases Int.lt_or_le 0 (frV D (c i) (X i)) with h' | h'
        · exact h'
        · have := hz.2 (by omega); omega
      by_cases e : R i = R i0
      · have ef : frV D (c i) (X i) = frV D (c i0) (X i0) := by omega
        obtain ⟨a1, a2⟩ := h2 i hi k8 e
        have hk9 := k9 hf
        obtain ⟨b0, b1, b2⟩ := clk_mk (D := D) (c := c i) (q := W i + 1) (f := 0) (x := X i + (D - frV D (c i0) (X i0))) (by omega) hD (by rw [Int.mul_add]; omega) (by omega) (fun h => by omega)
        exact ⟨by omega, .inl ⟨b2, a2, .inr e⟩⟩
      · obtain ⟨a1, a2⟩ := h3 i hi k8 e
        obtain ⟨b0, b1, b2⟩ := clk_mk (D := D) (c := c i) (q := W i) (f := frV D (c i) (X i) + (D - frV D (c i0) (X i0))) (x := X i + (D - frV D (c i0) (X i0))) (by omega) (by omega) (by omega) k8 (fun _ => k9 hf)
        exact ⟨by omega, .inr ⟨hf, hr, by omega, b2, a2⟩⟩
  refine ⟨fun i hi => (cls i hi).1, ⟨fun i hi => ?_, fun i hi => ?_, fun i j hi hj => ?_, fun i hi m hm1 hm2 => ?_⟩⟩
  · rcases (cls i hi).2 with k | k <;> omega
  · try dsimp only
    rcases (cls i hi).2 with k | k <;> omega
  · have hl := h.r.lt i j hi hj
    try dsimp only at hl ⊢
    rcases (cls i hi).2 with k | k <;> rcases (cls j hj).2 with k' | k' <;> omega
  · rcases (cls i hi).2 with k | k
    · omega
    · obtain ⟨j, hj, e⟩ := h.r.all i hi m (by omega) (by omega)
      exact ⟨j, hj, by rcases (cls j hj).2 with k' | k' <;> omega⟩
theorem reg_reset {n i : Nat} {D to : Int} {c X W R W' R' : Nat → Int} (h : IsReg n D c X W R) (hD : 0 < D) (hi : i < n) (h0 : 0 ≤ to)
  (hW : ∀ j, j < n → j ≠ i → W' j = W j) (hWi : W' i = if c i < to then c i + 1 else to) (hRi : R' i = 0)
  (hR : ((R i = 0 ∨ ∃ j, j < n ∧ j ≠ i ∧ R j = R i) ∧ ∀ j, j < n → j ≠ i → R' j = R j) ∨ (0 < R i ∧ (∀ j, j < n → j ≠ i → R j ≠ R i) ∧ ∀ j, j < n → j ≠ i → R' j = if R i < R j then R j - 1 else R j)) :
  IsReg n D c (fun j => if j = i then to * D else X j) W' R' := by
 have fi : flV D (c i) (to * D) = W' i ∧ frV D (c i) (to * D) = 0 := by
  have e : c i * D < to * D ↔ c i < to := ⟨fun h => Int.lt_of_mul_lt_mul_right h (by omega), fun h => Int.mul_lt_mul_of_pos_right h hD⟩
  rw [hWi]
  unfold flV frV
  by_cases hh : c i < to
  ·rw [if_pos (e.2 hh), if_pos hh, if_pos (e.2 hh)]; exact ⟨rfl, rfl⟩
  ·rw [if_neg (fun h => hh (e.1 h)), if_neg hh, if_neg (fun h => hh (e.1 h))]
   exact ⟨Int.mul_ediv_cancel _ (by omega), Int.mul_emod_left _ _⟩
 have cls : ∀ j, j < n → (j = i ∧ frV D (c j) (if j = i then to * D else X j) = 0 ∧ R' j = 0) ∨ (j ≠ i ∧ frV D (c j) (if j = i then to * D else X j) = frV D (c j) (X j) ∧ (R' j = if R j = 0 then 0 else R' j)) := by
  intro j hj
  by_cases e : j = i
  ·subst e; exact .inl ⟨rfl, by rw [if_pos rfl]; exact fi.2, hRi⟩
  ·refine .inr ⟨e, by rw [if_neg e], ?_⟩
   split
   ·rcases hR with ⟨_, hR⟩ | ⟨hp, _, hR⟩
    ·rw [hR j hj e]; assumption
    ·rw [hR j hj e]; split <;> omega
   ·rfl
 have nn := h.r.nn
 have nI := nn i hi
 have lt : ∀ j l, j < n → l < n → j ≠ i → l ≠ i → (R j < R l ↔ R' j < R' l) := by
  intro j l hj hl ej el
  rcases hR with ⟨_, hR⟩ | ⟨hp, hu, hR⟩
  ·rw [hR j hj ej, hR l hl el]
  ·have a := hu j hj ej
   have b := hu l hl el
   rw [hR j hj ej, hR l hl el]
   split <;> split <;> omega
 have ps : ∀ j, j < n → j ≠ i → (R' j = 0 ↔ R j = 0) ∧ 0 ≤ R' j := by
  intro j hj ej
  have a := nn j hj
  rcases hR with ⟨_, hR⟩ | ⟨hp, hu, hR⟩
  ·rw [hR j hj ej]; exact ⟨Iff.rfl, a⟩
  ·have b := hu j hj ej
   rw [hR j hj ej]
   split <;> constructor <;> omega
 refine ⟨fun j hj => ?_, ⟨fun j hj => ?_, fun j hj => ?_, fun j l hj hl => ?_, fun j hj m hm1 hm2 => ?_⟩⟩
 ·by_cases e : j = i
  ·subst e; rw [if_pos rfl, fi.1]
  ·rw [if_neg e, hW j hj e, h.w j hj]
 ·by_cases e : j = i
  ·subst e; omega
  ·exact (ps j hj e).2
 ·try dsimp only
  by_cases e : j = i
  ·subst e; rw [if_pos rfl, fi.2, hRi]
  ·rw [if_neg e]
   exact (ps j hj e).1.trans (h.r.z j hj)
 ·try dsimp only
  have zl := h.r.z
  try dsimp only at zl
  by_cases e : j = i
  ·by_cases e' : l = i
   ·subst e; subst e'; omega
   ·subst e
    rw [if_pos rfl, fi.2, hRi, if_neg e']
    have a := fr_nn (n := n) (c := c) (X := X) hD (i := l)
    have b := ps l hl e'
    have d := zl l hl
    constructor <;> intro hh <;> omega
  ·by_cases e' : l = i
   ·subst e'
    rw [if_pos rfl, fi.2, hRi, if_neg e]
    have a := fr_nn (n := n) (c := c) (X := X) hD (i := j)
    have b := ps j hj e
    constructor <;> intro hh <;> omega
   ·rw [if_neg e, if_neg e']
    exact (h.r.lt j l hj hl).trans (lt j l hj hl e e')
 ·have e : j ≠ i := fun e => by subst e; omega
  rcases hR with ⟨hR0, hR⟩ | ⟨hp, hu, hR⟩
  ·rw [hR j hj e] at hm2
   obtain ⟨l, hl, el⟩ := h.r.all j hj m hm1 hm2
   by_cases e' : l = i
   ·subst e'
    rcases hR0 with hR0 | ⟨j0, hj0, hne, he0⟩
    ·omega
    ·exact ⟨j0, hj0, by rw [hR j0 hj0 hne]; omega⟩
   ·exact ⟨l, hl, by rw [hR l hl e']; omega⟩
  ·rw [hR j hj e] at hm2
   have hmj : m < R i ∨ R i ≤ m := by omega
   rcases hmj with hmj | hmj
   ·obtain ⟨l, hl, el⟩ := h.r.all j hj m hm1 (by split at hm2 <;> omega)
    have e' : l ≠ i := fun e => by subst e; omega
    exact ⟨l, hl, by rw [hR l hl e', if_neg (by omega)]; omega⟩
   ·obtain ⟨l, hl, el⟩ := h.r.all j hj (m + 1) (by omega) (by split at hm2 <;> omega)
    have e' : l ≠ i := fun e => by subst e; omega
    exact ⟨l, hl, by rw [hR l hl e', if_pos (by omega)]; omega⟩
def sumTo (f : Nat → Nat) : Nat → Nat
 | 0 => 0
 | n + 1 => sumTo f n + f n
theorem sum_le {f g : Nat → Nat} : ∀ n, (∀ i, i < n → f i ≤ g i) → sumTo f n ≤ sumTo g n
  | 0, _ => Nat.le_refl _
  | n + 1, h => by
      have := sum_le n fun i hi => h i (by omega)
      have := h n (by omega)
      simp only [sumTo]; omega
theorem sum_lt {f g : Nat → Nat} : ∀ n, (∀ i, i < n → f i ≤ g i) → (∃ i, i < n ∧ f i < g i) → sumTo f n < sumTo g n
  | 0, _, h => by obtain ⟨i, hi, _⟩ := h; omega
  | n + 1, h, ⟨i, hi, hs⟩ => by
      have hn := h n (by omega)
      rcases Nat.lt_or_ge i n with h' | h'
      · have := sum_lt n (fun i hi => h i (by omega)) ⟨i, h', hs⟩
        simp only [sumTo]; omega
      · obtain rfl : i = n := by omega
        have := sum_le i fun j hj => h j (by omega)
        simp only [sumTo]; omega
theorem sum_bnd {f : Nat → Nat} {m : Nat} : ∀ n, (∀ i, i < n → f i ≤ m) → sumTo f n ≤ m * n
  | 0, _ => Nat.zero_le _
  | n + 1, h => by
      have := sum_bnd n fun i hi => h i (by omega)
      have := h n (by omega)
      simp only [sumTo]; rw [Nat.mul_add]; omega
def muI (c x y : Int) : Nat := if c < x then 0 else (2 * (c - x) + 1 - (if 0 < y then 1 else 0)).toNat
end Abs
namespace Abs
set_option linter.unusedSimpArgs false
set_option linter.unusedVariables false
set_option maxRecDepth 100000
set_option maxHeartbeats 2000000
def RegL (D : Int) (k l r : List Int) (X : Nat → Int) : Prop := l.length = k.length ∧ r.length = k.length ∧ IsReg k.length D (at0 k) X (at0 l) (at0 r)
theorem at0_ext {l l' : List Int} (h : l.length = l'.length) (ha : ∀ i, i < l.length → at0 l i = at0 l' i) : l = l' := by
 apply List.ext_getElem h
 intro i h1 h2
 have := ha i h1
 rw [at_of (List.getElem?_eq_getElem h1), at_of (List.getElem?_eq_getElem h2)] at this
 exact this
theorem at0_get {l : List Int} {i : Nat} (h : i < l.length) : l[i]? = some (at0 l i) := by
 rw [at_of (List.getElem?_eq_getElem h), List.getElem?_eq_getElem h]
theorem at0_mem {l : List Int} {i : Nat} (h : i < l.length) : at0 l i ∈ l := List.mem_of_getElem? (at0_get h)
theorem at0_of_mem {l : List Int} {x : Int} (h : x ∈ l) : ∃ i, i < l.length ∧ at0 l i = x := by
 obtain ⟨i, hi, e⟩ := List.mem_iff_getElem.1 h
 exact ⟨i, hi, by rw [at_of (List.getElem?_eq_getElem hi), e]⟩
theorem regL_unique {D : Int} {k l r l' r' : List Int} {X : Nat → Int} (h : RegL D k l r X) (h' : RegL D k l' r' X) : l = l' ∧ r = r' :=
 ⟨at0_ext (h.1.trans h'.1.symm) fun i hi => (reg_unique h.2.2 h'.2.2 (h.1 ▸ hi)).1, at0_ext (h.2.1.trans h'.2.1.symm) fun i hi => (reg_unique h.2.2 h'.2.2 (h.2.1 ▸ hi)).2⟩
theorem foldl_max_mem : ∀ (r : List Int) (a : Int), r.foldl max a = a ∨ r.foldl max a ∈ r
  | [], _ => .inl rfl
  | y :: r, a => by
      simp only [List.foldl_cons]
      rcases foldl_max_mem r (max a y) with h | h
      · by_cases hy : a ≤ y
        · right; rw [h, Int.max_eq_right hy]; simp
        · left; rw [h, Int.max_eq_left (by omega)]
      · right; simp [h]
theorem topR_mem (r : List Int) : topR r = 0 ∨ topR r ∈ r := foldl_max_mem r 0
theorem fine_at {k : List Int} (h : fineB k = true) {i : Nat} (hi : i < k.length) : -1 ≤ at0 k i ∧ at0 k i ≤ 1000 := fine_in h (at0_get hi)
theorem regL_check {D : Int} {k l r : List Int} {X : Nat → Int} (hf : fineB k = true) (hD : 0 < D) (hX : ∀ i, i < k.length → 0 ≤ X i) (h : RegL D k l r X) : checkP k l r := by
 obtain ⟨h1, h2, h3⟩ := h
 refine ⟨hf, h1, h2, fun i hi c x y hc hx hy => ?_, fun m hm1 hm2 => ?_⟩
 ·obtain ⟨b1, b2, b3, b4, b5⟩ := reg_bnd h3 hD hi (hX i hi) (fine_at hf hi).1
  rw [at_of hc, at_of hx, at_of hy] at *
  exact ⟨b1, b2, b3, b4, b5⟩
 ·rcases topR_mem r with h | h
  ·omega
  ·obtain ⟨i, hi, e⟩ := at0_of_mem h
   rw [h2] at hi
   by_cases hm : m = topR r
   ·rw [hm]; assumption
   ·obtain ⟨j, hj, e'⟩ := h3.r.all i hi m hm1 (by omega)
    rw [← e']; exact at0_mem (by omega)
theorem check_regL {k l r : List Int} (h : checkP k l r) : RegL (topR r + 1) k l r (fun i => at0 l i * (topR r + 1) + at0 r i) ∧ ∀ i, i < k.length → 0 ≤ at0 l i * (topR r + 1) + at0 r i := by
 have ht := topR_nonneg r
 have key : ∀ i, i < k.length → flV (topR r + 1) (at0 k i) (at0 l i * (topR r + 1) + at0 r i) = at0 l i ∧ frV (topR r + 1) (at0 k i) (at0 l i * (topR r + 1) + at0 r i) = at0 r i ∧ 0 ≤ at0 l i * (topR r + 1) + at0 r i ∧ 0 ≤ at0 r i := by
  intro i hi
  obtain ⟨c, x, y, hc, hx, hy, c1, c2, x1, x2, y1, y2, xy⟩ := checkP_at h hi
  have hT := le_topR hy
  rw [at_of hc, at_of hx, at_of hy]
  have p0 : 0 ≤ x * (topR r + 1) := Int.mul_nonneg x1 (by omega)
  by_cases hxc : x ≤ c
  ·obtain ⟨_, a, b⟩ := clk_mk (D := topR r + 1) (c := c) (q := x) (f := y) (x := x * (topR r + 1) + y) y1 (by omega) (by rw [Int.mul_comm]) hxc xy
   exact ⟨a, b, by omega, y1⟩
  ·have ex : x = c + 1 := by omega
   have ey : y = 0 := by omega
   obtain ⟨a, b⟩ := clk_by (D := topR r + 1) (c := c) (x := x * (topR r + 1) + y) (by rw [ex, Int.add_mul]; omega)
   exact ⟨by omega, by omega, by omega, y1⟩
 refine ⟨⟨h.2.1, h.2.2.1, fun i hi => (key i hi).1.symm, rank_congr (F := at0 r) ⟨fun i hi => (key i hi).2.2.2, fun i hi => Iff.rfl, fun i j hi hj => Iff.rfl, fun i hi m h1 h2 => ?_⟩ (fun i hi => by (try dsimp only); rw [(key i hi).2.1]) fun i j hi hj => by (try dsimp only); rw [(key i hi).2.1, (key j hj).2.1]⟩, fun i hi => (key i hi).2.2.1⟩
 have := le_topR (at0_get (show i < r.length by have := h.2.2.1; omega))
 obtain ⟨j, hj, e⟩ := at0_of_mem (h.2.2.2.2 m h1 (by omega))
 exact ⟨j, by have := h.2.2.1; omega, e⟩
/-- One clock's value. -/
theorem part_reg {D c X : Int} {x : Int × Int} (hD : 0 < D) (hb : 0 < x.2) (h0 : 0 ≤ x.1) (he : x.1 * D = X * x.2) :
  (partV c x).1 = flV D c X ∧ (partV c x).2.1 * D = frV D c X * (partV c x).2.2 ∧ 0 < (partV c x).2.2 ∧ 0 ≤ X := by
 obtain ⟨a, b⟩ := x
 dsimp only at hb h0 he
 have m0 := Int.emod_nonneg a (show b ≠ 0 by omega)
 have m1 := Int.emod_lt_of_pos a hb
 have hm := Int.mul_ediv_add_emod a b
 have hX : 0 ≤ X := by
  rcases Int.lt_or_le X 0 with h' | h'
  ·have h1 := Int.mul_nonneg h0 (show 0 ≤ D by omega)
   have h2 := Int.mul_neg_of_neg_of_pos h' hb
   omega
  ·exact h'
 have q0 : 0 ≤ a / b := Int.ediv_nonneg h0 (by omega)
 have hf : (X - D * (a / b)) * b = a % b * D := by
  rw [Int.sub_mul, ← he]
  have : a * D = (b * (a / b) + a % b) * D := by rw [hm]
  rw [this, Int.add_mul]
  have : b * (a / b) * D = D * (a / b) * b := by rw [Int.mul_comm b, Int.mul_assoc, Int.mul_comm b D, ← Int.mul_assoc, Int.mul_comm (a / b) D]
  omega
 have f0 : 0 ≤ X - D * (a / b) := by
  rcases Int.lt_or_le (X - D * (a / b)) 0 with h' | h'
  ·have h1 := Int.mul_nonneg m0 (show 0 ≤ D by omega)
   have h2 := Int.mul_neg_of_neg_of_pos h' hb
   omega
  ·exact h'
 have fD : X - D * (a / b) < D := by
  rcases Int.lt_or_le (X - D * (a / b)) D with h' | h'
  ·exact h'
  ·have h1 := Int.mul_le_mul_of_nonneg_right h' (show 0 ≤ b by omega)
   have h2 := Int.mul_lt_mul_of_pos_right m1 hD
   rw [hf, Int.mul_comm D b] at h1
   omega
 have fp : 0 < X - D * (a / b) ↔ 0 < a % b := by
  constructor
  ·intro h
   have := Int.mul_pos h hb
   rw [hf] at this
   exact Int.pos_of_mul_pos_left this hD
  ·intro h
   have := Int.mul_pos h hD
   rw [← hf] at this
   exact Int.pos_of_mul_pos_left this hb
 unfold partV
 dsimp only
 generalize a / b = q at *
 generalize a % b = m at *
 by_cases hc : c < q ∨ q = c ∧ 0 < m
 ·rw [if_pos hc]
  have hb : c * D < X := by
   rcases hc with hc | ⟨rfl, hc⟩
   ·have := Int.mul_le_mul_of_nonneg_left (show c + 1 ≤ q by omega) (show 0 ≤ D by omega)
    rw [Int.mul_add, Int.mul_comm D c] at this
    omega
   ·rw [Int.mul_comm]; have := fp.2 hc; omega
  obtain ⟨b1, b2⟩ := clk_by hb
  rw [b1, b2]
  exact ⟨rfl, by (try dsimp only); omega, by (try dsimp only); omega, hX⟩
 ·rw [if_neg hc]
  obtain ⟨_, b1, b2⟩ := clk_mk (D := D) (c := c) (q := q) (f := X - D * q) (x := X) f0 fD (by omega) (by omega) (fun h => by have := fp.1 h; omega)
  rw [b1, b2]
  exact ⟨rfl, hf.symm, hb, hX⟩
theorem at0_range {f : Nat → Int} {n i : Nat} (h : i < n) : at0 ((List.range n).map f) i = f i := at_of (by rw [List.getElem?_map, List.getElem?_range h]; rfl)
theorem of_regL {D : Int} {k : List Int} {cl : List (Int × Int)} {X : Nat → Int} (h : ofOk k cl) (hD : 0 < D) (he : ∀ i, i < k.length → (pcl cl i).1 * D = X i * (pcl cl i).2) :
  RegL D k (ofP k cl).1.1 (ofP k cl).1.2 X ∧ ∀ i, i < k.length → 0 ≤ X i := by
 rw [of_good h]
 dsimp only
 have key : ∀ i, i < k.length → whV k cl i = flV D (at0 k i) (X i) ∧ (rsV k cl i).1 * D = frV D (at0 k i) (X i) * (rsV k cl i).2 ∧ 0 < (rsV k cl i).2 ∧ 0 ≤ X i := fun i hi => by
  obtain ⟨hv, h0⟩ := h.2.2 i hi
  exact part_reg hD (validR_b hv).1 h0 (he i hi)
 have hr0 : ∀ i, i < k.length → okR (rsV k cl i) := fun i hi => part_ok (h.2.2 i hi).1 (h.2.2 i hi).2
 have h0 : ∀ i, i < k.length → (0 < (rsV k cl i).1 ↔ 0 < frV D (at0 k i) (X i)) := fun i hi => by
  obtain ⟨_, e, p, _⟩ := key i hi
  constructor
  ·intro hp
   have := Int.mul_pos hp hD
   rw [e] at this
   exact Int.pos_of_mul_pos_left this p
  ·intro hp
   have := Int.mul_pos hp p
   rw [← e] at this
   exact Int.pos_of_mul_pos_left this hD
 have hl : ∀ i j, i < k.length → j < k.length → (ltF (rsV k cl i) (rsV k cl j) ↔ frV D (at0 k i) (X i) < frV D (at0 k j) (X j)) := fun i j hi hj => by
  obtain ⟨_, e1, p1, _⟩ := key i hi
  obtain ⟨_, e2, p2, _⟩ := key j hj
  generalize rsV k cl i = a at *
  generalize rsV k cl j = b at *
  generalize frV D (at0 k i) (X i) = F at *
  generalize frV D (at0 k j) (X j) = G at *
  have c1 : a.1 * b.2 * D = F * (a.2 * b.2) := by rw [Int.mul_right_comm, e1, Int.mul_assoc]
  have c2 : b.1 * a.2 * D = G * (a.2 * b.2) := by rw [Int.mul_right_comm, e2, Int.mul_assoc, Int.mul_comm b.2]
  have pp := Int.mul_pos p1 p2
  constructor
  ·intro hh
   have := Int.mul_lt_mul_of_pos_right hh hD
   rw [c1, c2] at this
   exact Int.lt_of_mul_lt_mul_right this (by omega)
  ·intro hh
   have := Int.mul_lt_mul_of_pos_right hh pp
   rw [← c1, ← c2] at this
   exact Int.lt_of_mul_lt_mul_right this (by omega)
 refine ⟨⟨by simp, by simp, fun i hi => by rw [at0_range hi]; exact (key i hi).1, ?_⟩, fun i hi => (key i hi).2.2.2⟩
 have hrk := rank_of (n := k.length) (F := fun i => frV D (at0 k i) (X i)) fun i _ => fr_nn (n := k.length) hD
 have e : ∀ i, i < k.length → at0 ((List.range k.length).map (rkV (rsV k cl) k.length)) i = rkOf (fun i => frV D (at0 k i) (X i)) k.length i := fun i hi => by
  rw [at0_range hi]
  unfold rkV rkOf
  rw [cnt_F h0 hl hi k.length (Nat.le_refl _)]
  have a := (hr0 i hi).1
  have b := h0 i hi
  have c := fr_nn (n := k.length) (c := at0 k) (X := X) hD (i := i)
  by_cases hz : (rsV k cl i).1 = 0
  ·rw [if_pos hz, if_pos (by (try dsimp only); omega)]
  ·rw [if_neg hz, if_neg (by (try dsimp only); omega)]
 exact ⟨fun i hi => by rw [e i hi]; exact hrk.nn i hi, fun i hi => by rw [e i hi]; exact hrk.z i hi, fun i j hi hj => by rw [e i hi, e j hj]; exact hrk.lt i j hi hj, fun i hi m h1 h2 => by
  rw [e i hi] at h2
  obtain ⟨j, hj, e'⟩ := hrk.all i hi m h1 h2
  exact ⟨j, hj, by rw [e j hj, e']⟩⟩
theorem wTo_iff {k l r : List Int} : ∀ {n : Nat}, wTo k l r n = true ↔ ∃ i, i < n ∧ at0 l i ≤ at0 k i ∧ at0 r i = 0
  | 0 => ⟨fun h => (by cases h), fun ⟨i, hi, _⟩ => by omega⟩
  | n + 1 => by
      have ih := wTo_iff (k := k) (l := l) (r := r) (n := n)
      simp only [wTo, Bool.or_eq_true, Bool.and_eq_true, decide_eq_true_eq, ih]
      constructor
      · rintro (⟨i, h1, h2⟩ | h)
        · exact ⟨i, by omega, h2⟩
        · exact ⟨n, by omega, h⟩
      · rintro ⟨i, h1, h2⟩
        rcases Nat.lt_or_ge i n with h' | h'
        · exact .inl ⟨i, h', h2⟩
        · obtain rfl : i = n := by omega
          exact .inr h2
theorem fTo_iff {k l r : List Int} : ∀ {n : Nat}, fTo k l r n = true ↔ ∃ i, i < n ∧ at0 l i < at0 k i ∧ at0 r i = 0
  | 0 => ⟨fun h => (by cases h), fun ⟨i, hi, _⟩ => by omega⟩
  | n + 1 => by
      have ih := fTo_iff (k := k) (l := l) (r := r) (n := n)
      simp only [fTo, Bool.or_eq_true, Bool.and_eq_true, decide_eq_true_eq, ih]
      constructor
      · rintro (⟨i, h1, h2⟩ | h)
        · exact ⟨i, by omega, h2⟩
        · exact ⟨n, by omega, by omega, h.1.2⟩
      · rintro ⟨i, h1, h2⟩
        rcases Nat.lt_or_ge i n with h' | h'
        · exact .inl ⟨i, h', h2⟩
        · obtain rfl : i = n := by omega
          exact .inr ⟨⟨by omega, h2.2⟩, h2.1⟩
def muL (k l r : List Int) : Nat := sumTo (fun i => muI (at0 k i) (at0 l i) (at0 r i)) k.length
theorem at0_lats {f : Nat → Int} {l : List Int} {i : Nat} (h : i < l.length) : at0 (lats f true l) i = f i := by
 refine at_of ?_
 show (mixL f l l.length)[i]? = _
 rw [mix_at, if_pos h]
theorem step_w (F : Bool) (T c x y : Int) : stepV true F T c x y = if c < x then (x, y) else if 0 < y ∧ F = true then (x, y + 1) else if y = 0 ∧ x = c then (x + 1, y) else if y = 0 then (x, 1) else (x, y) := by
 unfold stepV; simp
theorem step_n (F : Bool) (T c x y : Int) : stepV false F T c x y = if c < x then (x, y) else if y = T then (x + 1, 0) else (x, y) := by
 unfold stepV; simp
def Next (k l r lw rw : List Int) (D : Int) (X : Nat → Int) (t : Int) : Prop := 0 < D ∧ (∀ i, i < k.length → 0 ≤ X i) ∧ 0 ≤ t ∧ RegL D k l r X ∧ RegL D k lw rw (fun i => X i + t)
set_option maxHeartbeats 1000000 in
theorem next_step {k l r lw rw : List Int} {D t : Int} {X : Nat → Int} (hf : fineB k = true) (h : Next k l r lw rw D X t) (hne : ¬ (l = lw ∧ r = rw)) :
  onL k l r = true ∧ muL k (lats (nxL k l r) true l) (lats (nxR k l r) true r) < muL k l r ∧ ∃ D' X' t', Next k (lats (nxL k l r) true l) (lats (nxR k l r) true r) lw rw D' X' t' := by
 obtain ⟨hD, hX, ht, hR, hw⟩ := h
 have e1 := hR.1
 have e2 := hR.2.1
 have reg := hR.2.2
 have hc : ∀ i, i < k.length → -1 ≤ at0 k i := fun i hi => (fine_at hf hi).1
 have bnd : ∀ i, i < k.length → _ := fun i hi => reg_bnd reg hD hi (hX i hi) (hc i hi)
 have al : ∀ i, i < k.length → at0 (lats (nxL k l r) true l) i = nxL k l r i := fun i hi => at0_lats (by omega)
 have ar : ∀ i, i < k.length → at0 (lats (nxR k l r) true r) i = nxR k l r i := fun i hi => at0_lats (by omega)
 cases hW : wTo k l r k.length with
 | true =>
  have hon : onL k l r = true := by unfold onL; rw [hW]; rfl
  have s : ∀ i, (nxL k l r i, nxR k l r i) = if at0 k i < at0 l i then (at0 l i, at0 r i) else if 0 < at0 r i ∧ fTo k l r k.length = true then (at0 l i, at0 r i + 1) else if at0 r i = 0 ∧ at0 l i = at0 k i then (at0 l i + 1, at0 r i) else if at0 r i = 0 then (at0 l i, 1) else (at0 l i, at0 r i) := fun i => by
   rw [← step_w _ (topR r), ← hW]; rfl
  obtain ⟨d, hd⟩ : ∃ d : Int, d = if fTo k l r k.length = true then 1 else 0 := ⟨_, rfl⟩
  have h1 : ∀ i, i < k.length → at0 k i < at0 l i → nxL k l r i = at0 l i ∧ nxR k l r i = at0 r i := fun i _ hh => by
   have := s i; rw [if_pos hh] at this; simpa using this
  have h2 : ∀ i, i < k.length → at0 l i ≤ at0 k i → 0 < at0 r i → nxL k l r i = at0 l i ∧ nxR k l r i = at0 r i + d := fun i _ hh hp => by
   have := s i
   rw [if_neg (by omega)] at this
   by_cases hF : fTo k l r k.length = true
   ·rw [if_pos ⟨hp, hF⟩] at this; rw [hd, if_pos hF]; simpa using this
   ·rw [if_neg (fun q => hF q.2), if_neg (by omega), if_neg (by omega)] at this; rw [hd, if_neg hF, Int.add_zero]; simpa using this
  have h3 : ∀ i, i < k.length → at0 l i = at0 k i → at0 r i = 0 → nxL k l r i = at0 l i + 1 ∧ nxR k l r i = 0 := fun i _ hh hp => by
   have := s i
   rw [if_neg (by omega), if_neg (by omega), if_pos ⟨hp, hh⟩, hp] at this
   simpa using this
  have h4 : ∀ i, i < k.length → at0 l i < at0 k i → at0 r i = 0 → nxL k l r i = at0 l i ∧ nxR k l r i = 1 := fun i _ hh hp => by
   have := s i
   rw [if_neg (by omega), if_neg (by omega), if_neg (by omega), if_pos hp] at this
   simpa using this
  refine ⟨hon, ?_, 2 * D, fun i => 2 * X i + 1, 2 * t - 1, by omega, fun i hi => by have := hX i hi; (try dsimp only); omega, ?_, ⟨by rw [lats_len]; exact e1, by rw [lats_len]; exact e2, ?_⟩, ⟨hw.1, hw.2.1, ?_⟩⟩
  ·obtain ⟨i0, g1, g2, g3⟩ := wTo_iff.1 hW
   have each : ∀ i, i < k.length → muI (at0 k i) (at0 (lats (nxL k l r) true l) i) (at0 (lats (nxR k l r) true r) i) ≤ muI (at0 k i) (at0 l i) (at0 r i) ∧ (at0 l i ≤ at0 k i → at0 r i = 0 → muI (at0 k i) (at0 (lats (nxL k l r) true l) i) (at0 (lats (nxR k l r) true r) i) < muI (at0 k i) (at0 l i) (at0 r i)) := by
    intro i hi
    rw [al i hi, ar i hi]
    obtain ⟨b1, b2, b3, b4, b5⟩ := bnd i hi
    have d0 : 0 ≤ d := by rw [hd]; split <;> omega
    by_cases c1 : at0 k i < at0 l i
    ·obtain ⟨a1, a2⟩ := h1 i hi c1
     rw [a1, a2]; exact ⟨Nat.le_refl _, fun h => by omega⟩
    ·by_cases c2 : 0 < at0 r i
     ·obtain ⟨a1, a2⟩ := h2 i hi (by omega) c2
      rw [a1, a2]
      refine ⟨?_, fun _ h => by omega⟩
      unfold muI
      rw [if_neg c1, if_neg c1, if_pos (by omega), if_pos c2]; omega
     ·have c3 : at0 r i = 0 := by omega
      by_cases c4 : at0 l i = at0 k i
      ·obtain ⟨a1, a2⟩ := h3 i hi c4 c3
       rw [a1, a2]
       unfold muI
       rw [if_pos (by omega), if_neg c1, if_neg (by omega)]
       exact ⟨by omega, fun _ _ => by omega⟩
      ·obtain ⟨a1, a2⟩ := h4 i hi (by omega) c3
       rw [a1, a2]
       unfold muI
       rw [if_neg c1, if_neg c1, if_pos (by omega), if_neg (by omega)]
       exact ⟨by omega, fun _ _ => by omega⟩
   exact sum_lt _ (fun i hi => (each i hi).1) ⟨i0, g1, (each i0 g1).2 g2 g3⟩
  ·rcases Int.lt_or_le 0 t with h' | h'
   ·omega
   ·exfalso
    obtain rfl : t = 0 := by omega
    exact hne (regL_unique hR ⟨hw.1, hw.2.1, reg_congr hw.2.2 fun i _ => by (try dsimp only); omega⟩)
  ·refine ⟨fun i hi => ?_, ?_⟩
   all_goals
    have := reg_eps (W' := nxL k l r) (R' := nxR k l r) (d := d) (ε := 1) (reg_scale reg) (by omega) (fun i hi => by have := hX i hi; (try dsimp only); omega) hc (by omega)
     (fun i hi hb => by
      have hb' : ¬ at0 k i * D < X i := fun hh => hb (by
       show _ < 2 * X i
       rw [← Int.mul_assoc, Int.mul_comm _ 2, Int.mul_assoc]; omega)
      show frV (2 * D) (at0 k i) (2 * X i) + 1 < 2 * D
      rw [scale_cl.2]
      rcases clk hD (hX i hi) (hc i hi) with g | g <;> omega)
     (by
      by_cases hF : fTo k l r k.length = true
      ·exact .inl ⟨by rw [hd, if_pos hF], fTo_iff.1 hF⟩
      ·exact .inr ⟨by rw [hd, if_neg hF], fun i hi h1 h2 => hF (fTo_iff.2 ⟨i, hi, h1, h2⟩)⟩) h1 h2 h3 h4
   ·rw [al i hi]; exact this.w i hi
   ·exact ⟨fun i hi => by rw [ar i hi]; exact this.r.nn i hi, fun i hi => by rw [ar i hi]; exact this.r.z i hi, fun i j hi hj => by rw [ar i hi, ar j hj]; exact this.r.lt i j hi hj, fun i hi m g1 g2 => by
     rw [ar i hi] at g2
     obtain ⟨j, hj, e⟩ := this.r.all i hi m g1 g2
     exact ⟨j, hj, by rw [ar j hj, e]⟩⟩
  ·exact reg_congr (reg_scale hw.2.2) fun i _ => by (try dsimp only); omega
 | false =>
  have hnw : ∀ i, i < k.length → at0 l i ≤ at0 k i → 0 < at0 r i := fun i hi hh => by
   have := (bnd i hi).2.2.1
   rcases Int.lt_or_le 0 (at0 r i) with h' | h'
   ·exact h'
   ·have : wTo k l r k.length = true := wTo_iff.2 ⟨i, hi, hh, by omega⟩
    rw [hW] at this; cases this
  have top : ∀ i, i < k.length → at0 r i ≤ topR r := fun i hi => le_topR (at0_get (by omega))
  have t0 := topR_nonneg r
  have wle : ∀ i, i < k.length → ¬ at0 k i * D < X i → at0 l i ≤ at0 k i := fun i hi hb => by
   rw [reg.w i hi]
   rcases clk hD (hX i hi) (hc i hi) with g | g
   ·exact absurd g.1 hb
   ·exact g.2.2.2.2.2.2.2.1
  have stay : (∀ i, i < k.length → ¬ at0 k i * D < X i → frV D (at0 k i) (X i) + t < D) → False := fun hg =>
   hne (regL_unique ⟨e1, e2, reg_stay reg hD hX hc ht hg hnw⟩ hw)
  by_cases hT : topR r = 0
  ·exfalso
   refine stay fun i hi hb => ?_
   have := hnw i hi (wle i hi hb)
   have := top i hi
   omega
  ·have hon : onL k l r = true := by unfold onL; rw [hW, dct hT]; rfl
   obtain ⟨i0, g1, g2⟩ := at0_of_mem ((topR_mem r).resolve_left hT)
   rw [e2] at g1
   have w0 := (bnd i0 g1).2.2.2.2 (by omega)
   have s : ∀ i, (nxL k l r i, nxR k l r i) = if at0 k i < at0 l i then (at0 l i, at0 r i) else if at0 r i = topR r then (at0 l i + 1, 0) else (at0 l i, at0 r i) := fun i => by
    rw [← step_n (fTo k l r k.length), ← hW]; rfl
   have h1 : ∀ i, i < k.length → at0 k i < at0 l i → nxL k l r i = at0 l i ∧ nxR k l r i = at0 r i := fun i _ hh => by
    have := s i; rw [if_pos hh] at this; simpa using this
   have h2 : ∀ i, i < k.length → at0 l i ≤ at0 k i → at0 r i = at0 r i0 → nxL k l r i = at0 l i + 1 ∧ nxR k l r i = 0 := fun i _ hh hp => by
    have := s i; rw [if_neg (by omega), if_pos (by omega)] at this; simpa using this
   have h3 : ∀ i, i < k.length → at0 l i ≤ at0 k i → at0 r i ≠ at0 r i0 → nxL k l r i = at0 l i ∧ nxR k l r i = at0 r i := fun i _ hh hp => by
    have := s i; rw [if_neg (by omega), if_neg (by omega)] at this; simpa using this
   have f0 : frV D (at0 k i0) (X i0) < D := by rcases clk hD (hX i0 g1) (hc i0 g1) with g | g <;> omega
   have fle : ∀ i, i < k.length → frV D (at0 k i) (X i) ≤ frV D (at0 k i0) (X i0) := fun i hi => by
    have := reg.r.lt i0 i g1 hi
    have := top i hi
    try dsimp only at this
    omega
   have htg : D - frV D (at0 k i0) (X i0) ≤ t := by
    rcases Int.lt_or_le t (D - frV D (at0 k i0) (X i0)) with h' | h'
    ·exact absurd (stay fun i hi _ => by have := fle i hi; omega) id
    ·exact h'
   have rg := reg_gap (W' := nxL k l r) (R' := nxR k l r) reg hD hX hc g1 (by omega) (fun i hi => by rw [g2]; exact top i hi) hnw h1 h2 h3
   refine ⟨hon, ?_, D, fun i => X i + (D - frV D (at0 k i0) (X i0)), t - (D - frV D (at0 k i0) (X i0)), hD, fun i hi => by have := hX i hi; (try dsimp only); omega, by omega, ⟨by rw [lats_len]; exact e1, by rw [lats_len]; exact e2, ?_⟩, ⟨hw.1, hw.2.1, reg_congr hw.2.2 fun i _ => by (try dsimp only); omega⟩⟩
   ·have each : ∀ i, i < k.length → muI (at0 k i) (at0 (lats (nxL k l r) true l) i) (at0 (lats (nxR k l r) true r) i) ≤ muI (at0 k i) (at0 l i) (at0 r i) ∧ (at0 l i ≤ at0 k i → at0 r i = at0 r i0 → muI (at0 k i) (at0 (lats (nxL k l r) true l) i) (at0 (lats (nxR k l r) true r) i) < muI (at0 k i) (at0 l i) (at0 r i)) := by
     intro i hi
     rw [al i hi, ar i hi]
     obtain ⟨b1, b2, b3, b4, b5⟩ := bnd i hi
     by_cases c1 : at0 k i < at0 l i
     ·obtain ⟨a1, a2⟩ := h1 i hi c1
      rw [a1, a2]; exact ⟨Nat.le_refl _, fun h => by omega⟩
     ·by_cases c2 : at0 r i = at0 r i0
      ·obtain ⟨a1, a2⟩ := h2 i hi (by omega) c2
       rw [a1, a2]
       have := b5 (by omega)
       unfold muI
       rw [if_neg (by omega), if_neg c1, if_neg (by omega), if_pos (by omega)]
       exact ⟨by omega, fun _ _ => by omega⟩
      ·obtain ⟨a1, a2⟩ := h3 i hi (by omega) c2
       rw [a1, a2]
       exact ⟨Nat.le_refl _, fun _ h => absurd h c2⟩
    exact sum_lt _ (fun i hi => (each i hi).1) ⟨i0, g1, (each i0 g1).2 (by omega) rfl⟩
   ·refine ⟨fun i hi => by rw [al i hi]; exact rg.w i hi, ⟨fun i hi => by rw [ar i hi]; exact rg.r.nn i hi, fun i hi => by rw [ar i hi]; exact rg.r.z i hi, fun i j hi hj => by rw [ar i hi, ar j hj]; exact rg.r.lt i j hi hj, fun i hi m q1 q2 => by
     rw [ar i hi] at q2
     obtain ⟨j, hj, e⟩ := rg.r.all i hi m q1 q2
     exact ⟨j, hj, by rw [ar j hj, e]⟩⟩⟩
theorem mu_bnd {k l r : List Int} (hf : fineB k = true) (h : checkP k l r) : muL k l r ≤ 20030 := by
 have h1 := sum_bnd (f := fun i => muI (at0 k i) (at0 l i) (at0 r i)) (m := 2003) k.length fun i hi => by
  obtain ⟨c, x, y, hc, hx, hy, c1, c2, x1, x2, y1, y2, xy⟩ := checkP_at h hi
  try dsimp only
  rw [at_of hc, at_of hx, at_of hy]
  unfold muI
  split
  ·omega
  ·split <;> omega
 have := fine_len hf
 unfold muL
 omega
end Abs
namespace Abs
set_option linter.unusedSimpArgs false
set_option linter.unusedVariables false
set_option maxRecDepth 100000
set_option maxHeartbeats 2000000
theorem pcl_get {cl : List (Int × Int)} {i : Nat} (h : i < cl.length) : cl[i]? = some (pcl cl i) := by
 rw [pcl_of (List.getElem?_eq_getElem h), List.getElem?_eq_getElem h]
/-- One denominator for all values and for one more. -/
theorem one_den {cl : List (Int × Int)} {b : Int × Int} (hv : ∀ i, i < cl.length → 0 < (pcl cl i).2) (hb : 0 < b.2) :
  ∃ (D : Int) (X : Nat → Int) (B : Int), 0 < D ∧ (∀ i, i < cl.length → (pcl cl i).1 * D = X i * (pcl cl i).2) ∧ b.1 * D = B * b.2 := by
 obtain ⟨D, hD, h⟩ := common (d := fun i => (pcl cl i).2) cl.length hv
 have ch : ∀ i, ∃ e : Int, i < cl.length → D = (pcl cl i).2 * e := fun i => by
  by_cases hi : i < cl.length
  ·obtain ⟨e, _, he⟩ := h i hi; exact ⟨e, fun _ => he⟩
  ·exact ⟨0, fun h => absurd h hi⟩
 obtain ⟨E, hE⟩ : ∃ E : Nat → Int, ∀ i, i < cl.length → D = (pcl cl i).2 * E i := ⟨fun i => Classical.choose (ch i), fun i hi => Classical.choose_spec (ch i) hi⟩
 refine ⟨D * b.2, fun i => (pcl cl i).1 * (E i * b.2), b.1 * D, Int.mul_pos hD hb, fun i hi => ?_, by rw [Int.mul_assoc]⟩
 rw [hE i hi]
 simp only [Int.mul_assoc, Int.mul_comm, Int.mul_left_comm]
theorem makeR_nn {n d : Int} {q : Int × Int} (h : makeR n d = (q, 0)) (hd : 0 < d) (hn : 0 ≤ n) : 0 ≤ q.1 := by
 have hc := makeR_cross h hd
 have hv := (validR_b (makeR_ok h)).1
 rcases Int.lt_or_le q.1 0 with h' | h'
 ·have h1 := Int.mul_neg_of_neg_of_pos h' hd
  have h2 := Int.mul_nonneg hn (show 0 ≤ q.2 by omega)
  omega
 ·exact h'
theorem of_pts {k l r : List Int} (h : checkP k l r) : ofP k (ptsP k l r) = ((l, r), 0) := by
 have e : ptsP k l r = ptsR (topR r) l r := by simp [ptsP, h]
 have ht := topR_nonneg r
 have k10 := fine_len h.1
 have htk := checkP_top h
 have hlen : (ptsP k l r).length = k.length := by rw [e, ptsR_len, h.2.1, h.2.2.1]; omega
 have key : ∀ i, i < k.length → ∃ q, pcl (ptsP k l r) i = q ∧ makeR (at0 l i * (topR r + 1) + at0 r i) (topR r + 1) = (q, 0) := fun i hi => by
  obtain ⟨c, x, y, hc, hx, hy, c1, c2, x1, x2, y1, y2, xy⟩ := checkP_at h hi
  have hT := le_topR hy
  obtain ⟨p1, p2, p3⟩ := pt_ok (t := topR r) (x := x) (y := y) ht (by omega) x1 (by omega) y1 (by omega)
  rw [at_of hx, at_of hy]
  exact ⟨_, pcl_of (by rw [e]; exact ptsR_get _ _ _ _ _ _ hx hy), p3⟩
 obtain ⟨rg, nn⟩ := check_regL h
 have hok : ofOk k (ptsP k l r) := ⟨h.1, hlen, fun i hi => by
  obtain ⟨q, e1, e2⟩ := key i hi
  rw [e1]
  exact ⟨makeR_ok e2, makeR_nn e2 (by omega) (nn i hi)⟩⟩
 obtain ⟨rg2, _⟩ := of_regL (D := topR r + 1) (X := fun i => at0 l i * (topR r + 1) + at0 r i) hok (by omega) fun i hi => by
  obtain ⟨q, e1, e2⟩ := key i hi
  rw [e1]
  exact makeR_cross e2 (by omega)
 obtain ⟨a, b⟩ := regL_unique rg2 rg
 rw [of_good hok] at a b ⊢
 dsimp only at a b
 rw [a, b]
theorem cross_lt {a b C D X : Int} (hb : 0 < b) (hD : 0 < D) (h : a * D = X * b) : (a < C * b ↔ X < C * D) ∧ (C * b < a ↔ C * D < X) := by
 have e : C * b * D = C * D * b := Int.mul_right_comm _ _ _
 constructor <;> constructor <;> intro hh
 ·have := Int.mul_lt_mul_of_pos_right hh hD
  rw [h, e] at this
  exact Int.lt_of_mul_lt_mul_right this (by omega)
 ·have := Int.mul_lt_mul_of_pos_right hh hb
  rw [← h, ← e] at this
  exact Int.lt_of_mul_lt_mul_right this (by omega)
 ·have := Int.mul_lt_mul_of_pos_right hh hD
  rw [h, e] at this
  exact Int.lt_of_mul_lt_mul_right this (by omega)
 ·have := Int.mul_lt_mul_of_pos_right hh hb
  rw [← h, ← e] at this
  exact Int.lt_of_mul_lt_mul_right this (by omega)
theorem fits_meets {D : Int} {k l r : List Int} {X : Nat → Int} {x : Int × Int} {c : Int × Bool × Bool × Int} {i : Nat} (h : RegL D k l r X) (hD : 0 < D) (hi : i < k.length) (hX : 0 ≤ X i) (hk : -1 ≤ at0 k i)
  (hv : validR x = true) (he : x.1 * D = X i * x.2) (h0 : 0 ≤ c.2.2.2) (hc : c.2.2.2 ≤ at0 k i) (hc2 : at0 k i ≤ 1000) :
  meetsP (cmpR x (c.2.2.2, 1)).1 c.2.1 c.2.2.1 = fitsB c (at0 l i) (at0 r i) := by
 have hv2 : validR (c.2.2.2, 1) = true := by
  simp only [validR, Bool.and_eq_true, decide_eq_true_eq]
  exact ⟨by omega, by omega, by omega, by simp⟩
 have e : cmpR x (c.2.2.2, 1) = (sgn x (c.2.2.2, 1), 0) := by simp only [cmpR, hv, hv2]; rfl
 rw [e]
 dsimp only
 obtain ⟨q1, q2⟩ := cross_lt (C := c.2.2.2) (validR_b hv).1 hD he
 have hw := h.2.2.w i hi
 have hz := h.2.2.r.z i hi
 have hn := h.2.2.r.nn i hi
 try dsimp only at hz
 have rel : (X i < c.2.2.2 * D ↔ at0 l i < c.2.2.2) ∧ (c.2.2.2 * D < X i ↔ c.2.2.2 < at0 l i ∨ (at0 l i = c.2.2.2 ∧ 0 < at0 r i)) := by
  rcases clk hD hX hk with ⟨k1, k2, k3⟩ | ⟨k1, k2, k3, k4, k5, k6, k7, k8, k9⟩
  ·have := Int.mul_le_mul_of_nonneg_right hc (show 0 ≤ D by omega)
   rw [k2] at hw
   exact ⟨⟨fun h => by omega, fun h => by omega⟩, ⟨fun h => by omega, fun h => by omega⟩⟩
  ·rw [← hw] at k4 k7 k8 k9
   have lin : ∀ a b : Int, a ≤ b → D * a ≤ D * b := fun a b hab => Int.mul_le_mul_of_nonneg_left hab (by omega)
   have hcd : c.2.2.2 * D = D * c.2.2.2 := Int.mul_comm _ _
   rw [hcd]
   rcases Int.lt_trichotomy (at0 l i) c.2.2.2 with h' | h' | h'
   ·have := lin _ _ (show at0 l i + 1 ≤ c.2.2.2 by omega)
    rw [Int.mul_add] at this
    exact ⟨⟨fun h => h', fun h => by omega⟩, ⟨fun h => by omega, fun h => by omega⟩⟩
   ·rw [← h']
    exact ⟨⟨fun h => by omega, fun h => by omega⟩, ⟨fun h => by omega, fun h => by omega⟩⟩
   ·have := lin _ _ (show c.2.2.2 + 1 ≤ at0 l i by omega)
    rw [Int.mul_add] at this
    exact ⟨⟨fun h => by omega, fun h => by omega⟩, ⟨fun h => by omega, fun h => by omega⟩⟩
 have s1 : sgn x (c.2.2.2, 1) < 0 ↔ at0 l i < c.2.2.2 := by rw [sgn_neg]; unfold ltF; dsimp only; rw [Int.mul_one, q1, rel.1]
 have s3 : 0 < sgn x (c.2.2.2, 1) ↔ c.2.2.2 < at0 l i ∨ (at0 l i = c.2.2.2 ∧ 0 < at0 r i) := by rw [sgn_pos]; unfold ltF; dsimp only; rw [Int.mul_one, q2, rel.2]
 generalize sgn x (c.2.2.2, 1) = s at *
 generalize at0 l i = W at *
 generalize at0 r i = R at *
 obtain ⟨c1, c2, c3, c4⟩ := c
 dsimp only at *
 unfold meetsP fitsB
 dsimp only
 by_cases e0 : W = c4 ∧ R = 0
 ·rw [if_pos e0]
  have hs : s = 0 := by
   have a : ¬ s < 0 := fun h => by have := s1.1 h; omega
   have b : ¬ 0 < s := fun h => by have := s3.1 h; omega
   omega
  subst hs
  cases c2 <;> simp
 ·rw [if_neg e0]
  have hs : ¬ s = 0 := fun h => by
   have a : ¬ W < c4 := fun hh => by have := s1.2 hh; omega
   have b : ¬ (c4 < W ∨ (W = c4 ∧ 0 < R)) := fun hh => by have := s3.2 hh; omega
   omega
  by_cases ab : c4 < W ∨ (W = c4 ∧ 0 < R)
  ·have h1 := s3.2 ab
   have h2 : ¬ s < 0 := by omega
   rw [dct ab]
   cases c2 <;> simp [hs, h1, h2]
  ·have h1 : ¬ 0 < s := fun h => ab (s3.1 h)
   have h2 : s < 0 := by omega
   rw [dcf ab]
   cases c2 <;> simp [hs, h1, h2]
theorem at0_set {l : List Int} {i j : Nat} {v : Int} (hi : i < l.length) : at0 (l.set i v) j = if j = i then v else at0 l j := by
 unfold at0
 rw [List.getElem?_set]
 by_cases e : j = i
 ·subst e; rw [if_pos rfl, if_pos hi, if_pos rfl]; rfl
 ·rw [if_neg (fun h => e h.symm), if_neg e]
theorem pcl_set {l : List (Int × Int)} {i j : Nat} {v : Int × Int} (hi : i < l.length) : pcl (l.set i v) j = if j = i then v else pcl l j := by
 unfold pcl
 rw [List.getElem?_set]
 by_cases e : j = i
 ·subst e; rw [if_pos rfl, if_pos hi, if_pos rfl]; rfl
 ·rw [if_neg (fun h => e h.symm), if_neg e]
theorem at0_map {l : List Int} {f : Int → Int} {j : Nat} (h : j < l.length) : at0 (l.map f) j = f (at0 l j) := at_of (by rw [List.getElem?_map, at0_get h]; rfl)
theorem of_reset {D : Int} {k l r : List Int} {cl : List (Int × Int)} {X : Nat → Int} {to : Int} {i : Nat} (hok : ofOk k cl) (h : RegL D k l r X) (hD : 0 < D) (hi : i < k.length) (h0 : 0 ≤ to) (h1 : to ≤ 1048576)
  (he : ∀ i, i < k.length → (pcl cl i).1 * D = X i * (pcl cl i).2) : ofP k (cl.set i (to, 1)) = ((rsL k l i to, rsR r i), 0) := by
 have hlen := hok.2.1
 have l1 := h.1
 have l2 := h.2.1
 have nn := h.2.2.r.nn
 have hvt : validR (to, 1) = true := by
  simp only [validR, Bool.and_eq_true, decide_eq_true_eq]
  exact ⟨by omega, by omega, by omega, by simp⟩
 have hok2 : ofOk k (cl.set i (to, 1)) := ⟨hok.1, by simp [hlen], fun j hj => by
  rw [pcl_set (by omega)]
  split
  ·exact ⟨hvt, h0⟩
  ·exact hok.2.2 j hj⟩
 obtain ⟨rg, _⟩ := of_regL (D := D) (X := fun j => if j = i then to * D else X j) hok2 hD fun j hj => by
  rw [pcl_set (by omega)]
  try dsimp only
  by_cases e : j = i
  ·rw [if_pos e, if_pos e]; dsimp only; rw [Int.mul_one]
  ·rw [if_neg e, if_neg e]; exact he j hj
 have rs : RegL D k (rsL k l i to) (rsR r i) (fun j => if j = i then to * D else X j) := by
  refine ⟨by simp [rsL, l1], by unfold rsR; split <;> simp [l2], reg_reset h.2.2 hD hi h0 (fun j hj e => ?_) ?_ ?_ ?_⟩
  ·unfold rsL; rw [at0_set (by omega), if_neg e]
  ·unfold rsL; rw [at0_set (by omega), if_pos rfl]; unfold minI; split <;> split <;> omega
  ·unfold rsR
   split
   ·rw [at0_set (by omega), if_pos rfl]
   ·rename_i hc
    have := nn i hi
    rw [at0_map (by simp; omega), at0_set (by omega), if_pos rfl]
    unfold dec1
    rw [if_neg (by omega)]
  ·have ms : at0 r i ≠ 0 → (at0 r i ∈ r.set i 0 ↔ ∃ j, j < k.length ∧ j ≠ i ∧ at0 r j = at0 r i) := fun hz => by
    constructor
    ·intro hm
     obtain ⟨j, hj, e⟩ := at0_of_mem hm
     rw [at0_set (by omega)] at e
     by_cases ej : j = i
     ·rw [if_pos ej] at e; omega
     ·rw [if_neg ej] at e; exact ⟨j, by simp at hj; omega, ej, e⟩
    ·rintro ⟨j, hj, ej, e⟩
     rw [← e]
     have := at0_mem (l := r.set i 0) (i := j) (by simp; omega)
     rwa [at0_set (by omega), if_neg ej] at this
   by_cases hc : at0 r i = 0 ∨ at0 r i ∈ r.set i 0
   ·refine .inl ⟨?_, fun j hj ej => ?_⟩
    ·by_cases hz : at0 r i = 0
     ·exact .inl hz
     ·exact .inr ((ms hz).1 (hc.resolve_left hz))
    ·unfold rsR; rw [if_pos hc, at0_set (by omega), if_neg ej]
   ·have hz : at0 r i ≠ 0 := fun hz => hc (.inl hz)
    refine .inr ⟨by have := nn i hi; omega, fun j hj ej e => hc (.inr ((ms hz).2 ⟨j, hj, ej, e⟩)), fun j hj ej => ?_⟩
    unfold rsR
    rw [if_neg hc, at0_map (by simp; omega), at0_set (by omega), if_neg ej]
    rfl
 obtain ⟨a, b⟩ := regL_unique rg rs
 rw [of_good hok2] at a b ⊢
 dsimp only at a b
 rw [a, b]
theorem add_cross {x y r : Int × Int} {D X B : Int} (h : addR x y = (r, 0)) (hx : validR x = true) (hy : validR y = true) (h0 : 0 ≤ x.1) (h1 : 0 ≤ y.1) (hD : 0 < D) (ex : x.1 * D = X * x.2) (ey : y.1 * D = B * y.2) :
  validR r = true ∧ 0 ≤ r.1 ∧ r.1 * D = (X + B) * r.2 := by
 have hr := addR_ok h
 unfold addR at h
 rw [hx, hy] at h
 simp only [Bool.and_self, if_true] at h
 have b1 := (validR_b hx).1
 have b2 := (validR_b hy).1
 have b3 := (validR_b hr).1
 have pd := Int.mul_pos b1 b2
 have hc := makeR_cross h pd
 refine ⟨hr, makeR_nn h pd (Int.add_nonneg (Int.mul_nonneg h0 (by omega)) (Int.mul_nonneg h1 (by omega))), ?_⟩
 have e : (x.1 * y.2 + y.1 * x.2) * D = (X + B) * (x.2 * y.2) := by
  rw [Int.add_mul, Int.add_mul, Int.mul_right_comm x.1, ex, Int.mul_right_comm y.1, ey, Int.mul_assoc, Int.mul_assoc, Int.mul_comm y.2 x.2]
 have e2 : r.1 * D * (x.2 * y.2) = (X + B) * r.2 * (x.2 * y.2) := by
  rw [Int.mul_right_comm r.1, hc, Int.mul_right_comm _ r.2, e, Int.mul_right_comm (X + B)]
 exact Int.eq_of_mul_eq_mul_right (by omega) e2
end Abs
