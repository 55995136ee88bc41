/-
  Functions of the program walked: each is shown to compute a plain function (RegB2).
-/
import Derived.Test.YtdmelhjbbaaphaaGreatDoorPtRegM
import Derived.Test.YtdmelhjbbaaphaaGreatDoorPtRatF
namespace Abs
set_option linter.unusedSimpArgs false
set_option linter.unusedVariables false
set_option maxRecDepth 100000
set_option maxHeartbeats 2000000
open Go Go.Proofs
/-- A number that all of some numbers divide. -/
theorem common {d : Nat → Int} : ∀ n, (∀ i, i < n → 0 < d i) → ∃ D : Int, 0 < D ∧ ∀ i, i < n → ∃ e : Int, 0 < e ∧ D = d i * e
  | 0, _ => ⟨1, by omega, fun i hi => by omega⟩
  | n + 1, h => by
      obtain ⟨D, h1, h2⟩ := common (d := d) n fun i hi => h i (by omega)
      have hn := h n (by omega)
      refine ⟨D * d n, Int.mul_pos h1 hn, fun i hi => ?_⟩
      rcases Nat.lt_or_ge i n with h' | h'
      · obtain ⟨e, e1, e2⟩ := h2 i h'
        exact ⟨e * d n, Int.mul_pos e1 hn, by rw [e2, Int.mul_assoc]⟩
      · obtain rfl : i = n := by omega
        exact ⟨D, h1, Int.mul_comm _ _⟩
theorem cnt_F {rs : Nat → Int × Int} {v : Nat → Int} {n : Nat} (h0 : ∀ i, i < n → (0 < (rs i).1 ↔ 0 < v i)) (hl : ∀ i j, i < n → j < n → (ltF (rs i) (rs j) ↔ v i < v j)) {i : Nat} (hi : i < n) : ∀ m, m ≤ n → cntF rs (rs i) m = cntTo v (v i) m
  | 0, _ => rfl
  | m + 1, hm => by
      have ih := cnt_F h0 hl hi m (by omega)
      have hc : (0 < (rs m).1 ∧ ltF (rs m) (rs i) ∧ newF rs m) ↔ (0 < v m ∧ v m < v i ∧ ∀ h, h < m → v h ≠ v m) := by
        rw [h0 m (by omega), hl m i (by omega) hi]
        refine and_congr Iff.rfl (and_congr Iff.rfl ⟨fun h h' hh => ?_, fun h h' hh => ?_⟩)
        · have := h h' hh
          rw [hl h' m (by omega) (by omega), hl m h' (by omega) (by omega)] at this
          omega
        · have := h h' hh
          rw [hl h' m (by omega) (by omega), hl m h' (by omega) (by omega)]
          omega
      show cntF rs (rs i) m + (if _ then 1 else 0) = cntTo v (v i) m + (if _ then 1 else 0)
      rw [ih]
      congr 1
      by_cases hb : 0 < v m ∧ v m < v i ∧ ∀ h, h < m → v h ≠ v m
      · rw [if_pos (hc.2 hb), if_pos hb]
      · rw [if_neg (fun h => hb (hc.1 h)), if_neg hb]
end Abs
namespace Abs
set_option linter.unusedSimpArgs false
set_option linter.unusedVariables false
set_option maxRecDepth 100000
set_option maxHeartbeats 2000000
open Go Go.Proofs
end Abs
namespace Abs
set_option linter.unusedSimpArgs false
set_option linter.unusedVariables false
set_option maxRecDepth 100000
set_option maxHeartbeats 2000000
open Go Go.Proofs
theorem Gw.lt {m : Nat} {σ : AStore} {sz : Nat} {v : AVal} {els : List AVal} (h : Gw m σ sz v els) {b l : Nat} (hv : v = .slice b 0 l) : m ≤ b ∧ b < σ.next := by
 rcases h with ⟨_, h⟩ | ⟨b', h1, h2, h3⟩
 ·rw [hv] at h; cases h
 ·rw [hv] at h2; cases h2; exact ⟨h1, AStore.lt_of_get h3⟩
theorem Gw.up {m : Nat} {σ τ : AStore} {sz : Nat} {v : AVal} {els : List AVal} (h : Gw m σ sz v els) (hk : ∀ b z, m ≤ b → (∃ l, v = .slice b 0 l) → σ.get b = some z → τ.get b = some z) : Gw m τ sz v els := by
 rcases h with h | ⟨b, h1, h2, h3⟩
 ·exact .inl h
 ·exact .inr ⟨b, h1, h2, hk b _ h1 ⟨_, h2⟩ h3⟩
theorem Gw.put {m b : Nat} {σ : AStore} {sz : Nat} {v : AVal} {els : List AVal} {x : ABlk} (h : Gw m σ sz v els) (ha : ∀ l, v ≠ .slice b 0 l) : Gw m (σ.set b x) sz v els :=
 h.up fun b' z _ ⟨l, hl⟩ hz => by
  rw [AStore.get_set, if_neg (fun hc => ha l (by rw [hl, hc.1]))]; exact hz
theorem Gw.new {m : Nat} {σ : AStore} {sz : Nat} {v : AVal} {els : List AVal} {x : ABlk} (h : Gw m σ sz v els) : Gw m (σ.alloc x) sz v els := h.up fun _ _ _ _ hz => get_alloc_old hz
theorem get_set_ne {σ : AStore} {b b' : Nat} {x z : ABlk} (h : σ.get b' = some z) (hne : b' ≠ b) : (σ.set b x).get b' = some z := by
 rw [AStore.get_set, if_neg (fun hc => hne hc.1)]; exact h
theorem rng_snoc {α : Type} {f : Nat → α} {n : Nat} {x : α} (h : x = f n) : (List.range n).map f ++ [x] = (List.range (n + 1)).map f := by rw [List.range_succ, List.map_append, h]; rfl
theorem sgn_neg {x y : Int × Int} : (sgn x y < 0) ↔ ltF x y := by
 unfold sgn ltF
 split
 ·omega
 ·split <;> omega
theorem sgn_pos {x y : Int × Int} : (0 < sgn x y) ↔ ltF y x := by
 unfold sgn ltF
 split
 ·omega
 ·split <;> omega
end Abs
namespace Abs
set_option linter.unusedSimpArgs false
set_option linter.unusedVariables false
set_option maxRecDepth 100000
set_option maxHeartbeats 2000000
open Go Go.Proofs
end Abs
