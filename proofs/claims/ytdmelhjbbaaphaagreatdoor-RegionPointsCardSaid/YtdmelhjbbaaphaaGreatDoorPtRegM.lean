/-
  Functions of the program walked: each is shown to compute a plain function (RegM).
-/
import Derived.Test.YtdmelhjbbaaphaaGreatDoorPtRegA1
namespace Abs
set_option linter.unusedSimpArgs false
set_option linter.unusedVariables false
set_option maxRecDepth 100000
set_option maxHeartbeats 2000000
def cntTo (v : Nat → Int) (x : Int) : Nat → Nat
 | 0 => 0
 | j + 1 => cntTo v x j + if 0 < v j ∧ v j < x ∧ ∀ h, h < j → v h ≠ v j then 1 else 0
theorem cnt_mono {v : Nat → Int} {x y : Int} (h : x ≤ y) : ∀ n, cntTo v x n ≤ cntTo v y n
  | 0 => Nat.le_refl _
  | n + 1 => by
      have := cnt_mono (v := v) h n
      unfold cntTo
      split
      · rename_i h1
        rw [if_pos ⟨h1.1, by omega, h1.2.2⟩]; omega
      · split <;> omega
/-- No value lies between. -/
theorem cnt_same {v : Nat → Int} {x y : Int} : ∀ n, (∀ j, j < n → ¬ (x ≤ v j ∧ v j < y)) → x ≤ y → cntTo v y n = cntTo v x n
  | 0, _, _ => rfl
  | n + 1, h, hxy => by
      have := cnt_same (v := v) n (fun j hj => h j (by omega)) hxy
      have hn := h n (by omega)
      unfold cntTo
      rw [this]
      congr 1
      by_cases h1 : 0 < v n ∧ v n < x ∧ ∀ h, h < n → v h ≠ v n
      · rw [if_pos h1, if_pos ⟨h1.1, by omega, h1.2.2⟩]
      · rw [if_neg h1, if_neg (fun h2 => h1 ⟨h2.1, by have := h2.2.1; omega, h2.2.2⟩)]
/-- One value, 'y', more. -/
theorem cnt_next {v : Nat → Int} {x y : Int} (hy : 0 < y) (hxy : y < x) : ∀ n, (∀ j, j < n → v j < x → v j ≤ y) → (∃ j, j < n ∧ v j = y) → cntTo v x n = cntTo v y n + 1
  | 0, _, h => by obtain ⟨j, hj, _⟩ := h; omega
  | n + 1, hmax, hex => by
      unfold cntTo
      by_cases hb : ∃ j, j < n ∧ v j = y
      · have ih := cnt_next (v := v) hy hxy n (fun j hj => hmax j (by omega)) hb
        rw [ih]
        obtain ⟨j, hj, hv⟩ := hb
        have hm := hmax n (by omega)
        by_cases h1 : 0 < v n ∧ v n < y ∧ ∀ h, h < n → v h ≠ v n
        · rw [if_pos h1, if_pos ⟨h1.1, by omega, h1.2.2⟩]
        · rw [if_neg h1, if_neg (fun h2 => h1 ⟨h2.1, by
            have a := h2.2.1
            have b := hm a
            have c := h2.2.2 j hj
            omega, h2.2.2⟩)]
      · have hne : ∀ j, j < n → v j ≠ y := fun j hj hv => hb ⟨j, hj, hv⟩
        obtain ⟨j, hj, hv⟩ := hex
        have hjn : j = n := by
          rcases Nat.lt_or_ge j n with h | h
          · exact absurd hv (hne j h)
          · omega
        subst hjn
        have e1 : cntTo v x j = cntTo v y j := cnt_same j (fun i hi hh => by
          have a := hmax i (by omega) hh.2
          have b := hne i hi
          omega) (by omega)
        rw [e1, if_pos ⟨by omega, by omega, fun h hh => by rw [hv]; exact hne h hh⟩, if_neg (fun h2 => by have := h2.2.1; omega)]
theorem cnt_strict {v : Nat → Int} {x y : Int} {n : Nat} (hy : 0 < y) (hxy : y < x) (hex : ∃ j, j < n ∧ v j = y) : cntTo v y n < cntTo v x n := by
 have h1 : cntTo v (y + 1) n = cntTo v y n + 1 := cnt_next hy (by omega) n (fun j _ h => by omega) hex
 have h2 : cntTo v (y + 1) n ≤ cntTo v x n := cnt_mono (by omega) n
 omega
/-- The greatest value below one, if there is one above 0. -/
theorem max_below (v : Nat → Int) (x : Int) : ∀ n, (∃ j, j < n ∧ 0 < v j ∧ v j < x) → ∃ j, j < n ∧ 0 < v j ∧ v j < x ∧ ∀ i, i < n → v i < x → v i ≤ v j
  | 0, h => by obtain ⟨j, hj, _⟩ := h; omega
  | n + 1, h => by
      by_cases hb : ∃ j, j < n ∧ 0 < v j ∧ v j < x
      · obtain ⟨j, h1, h2, h3, h4⟩ := max_below v x n hb
        by_cases hn : v n < x ∧ v j < v n
        · refine ⟨n, by omega, by omega, hn.1, fun i hi hv => ?_⟩
          rcases Nat.lt_or_ge i n with h' | h'
          · have := h4 i h' hv; omega
          · obtain rfl : i = n := by omega
            omega
        · refine ⟨j, by omega, h2, h3, fun i hi hv => ?_⟩
          rcases Nat.lt_or_ge i n with h' | h'
          · exact h4 i h' hv
          · obtain rfl : i = n := by omega
            omega
      · obtain ⟨j, hj, h2, h3⟩ := h
        have hjn : j = n := by
          rcases Nat.lt_or_ge j n with h | h
          · exact absurd ⟨j, h, h2, h3⟩ hb
          · omega
        subst hjn
        refine ⟨j, by omega, h2, h3, fun i hi hv => ?_⟩
        rcases Nat.lt_or_ge i j with h' | h'
        · by_cases hp : 0 < v i
          · exact absurd ⟨i, h', hp, hv⟩ hb
          · omega
        · obtain rfl : i = j := by omega
          omega
theorem cnt_one {v : Nat → Int} : ∀ n, cntTo v 1 n = 0
  | 0 => rfl
  | n + 1 => by
      unfold cntTo
      rw [cnt_one n, if_neg (by omega)]
end Abs
namespace Abs
set_option linter.unusedSimpArgs false
set_option linter.unusedVariables false
set_option maxRecDepth 100000
set_option maxHeartbeats 2000000
open Go Go.Proofs
def mixG {α : Type} (f : Nat → α) (l : List α) (i : Nat) : List α := (List.range i).map f ++ l.drop i
section
variable {α : Type} {f : Nat → α} {l : List α} {i : Nat} {x : α}
theorem mixg_at (f : Nat → α) (l : List α) (i j : Nat) : (mixG f l i)[j]? = if j < i then some (f j) else l[j]? := by
 unfold mixG
 rw [List.getElem?_append]
 by_cases h : j < i
 ·rw [if_pos (by simpa using h), if_pos h]; simp [h]
 ·rw [if_neg (by simpa using h), if_neg h, List.getElem?_drop]
  congr 1; simp; omega
theorem mixg_zero : mixG f l 0 = l := by simp [mixG]
theorem mixg_get : (mixG f l i)[i]? = l[i]? := by rw [mixg_at, if_neg (by omega)]
theorem mixg_len (h : i ≤ l.length) : (mixG f l i).length = l.length := by simp [mixG]; omega
theorem mixg_set (h : i < l.length) (hx : x = f i) : (mixG f l i).set i x = mixG f l (i + 1) := by
 subst hx
 apply List.ext_getElem?
 intro j
 rw [List.getElem?_set, mixg_at, mixg_at]
 by_cases e : i = j
 ·subst e
  have hlen : i < (mixG f l i).length := by simp [mixG]; omega
  rw [if_pos rfl, if_pos hlen, if_pos (by omega)]
 ·rw [if_neg e]
  by_cases h2 : j < i
  ·rw [if_pos h2, if_pos (by omega)]
  ·rw [if_neg h2, if_neg (by omega)]
theorem mixg_keep (h : l[i]? = some x) (hx : x = f i) : mixG f l (i + 1) = mixG f l i := by
 subst hx
 apply List.ext_getElem?
 intro j
 rw [mixg_at, mixg_at]
 by_cases h2 : j < i
 ·rw [if_pos h2, if_pos (by omega)]
 ·by_cases e : j = i
  ·subst e; rw [if_pos (by omega), if_neg h2, h]
  ·rw [if_neg h2, if_neg (by omega)]
theorem mixg_end : mixG f l l.length = (List.range l.length).map f := by simp [mixG]
end
def pcl (cl : List (Int × Int)) (i : Nat) : Int × Int := (cl[i]?).getD (0, 0)
theorem pcl_of {cl : List (Int × Int)} {i : Nat} {x : Int × Int} (h : cl[i]? = some x) : pcl cl i = x := by simp [pcl, h]
def partV (c : Int) (x : Int × Int) : Int × (Int × Int) := if c < x.1 / x.2 ∨ (x.1 / x.2 = c ∧ 0 < x.1 % x.2) then (c + 1, (0, 1)) else (x.1 / x.2, (x.1 % x.2, x.2))
def whV (k : List Int) (cl : List (Int × Int)) (i : Nat) : Int := (partV (at0 k i) (pcl cl i)).1
def rsV (k : List Int) (cl : List (Int × Int)) (i : Nat) : Int × Int := (partV (at0 k i) (pcl cl i)).2
abbrev ltF (a b : Int × Int) : Prop := a.1 * b.2 < b.1 * a.2
abbrev newF (rs : Nat → Int × Int) (j : Nat) : Prop := ∀ h, h < j → ltF (rs h) (rs j) ∨ ltF (rs j) (rs h)
def cntF (rs : Nat → Int × Int) (x : Int × Int) : Nat → Nat
 | 0 => 0
 | j + 1 => cntF rs x j + if 0 < (rs j).1 ∧ ltF (rs j) x ∧ newF rs j then 1 else 0
def rkV (rs : Nat → Int × Int) (n i : Nat) : Int := if (rs i).1 = 0 then 0 else 1 + (cntF rs (rs i) n : Int)
theorem cntF_le (rs : Nat → Int × Int) (x : Int × Int) : ∀ n, cntF rs x n ≤ n
 | 0 => Nat.le_refl _
 | n + 1 => by have := cntF_le rs x n; unfold cntF; split <;> omega
def ofOk (k : List Int) (cl : List (Int × Int)) : Prop := fineB k = true ∧ cl.length = k.length ∧ ∀ i, i < k.length → validR (pcl cl i) = true ∧ 0 ≤ (pcl cl i).1
open Classical in
noncomputable def ofP (k : List Int) (cl : List (Int × Int)) : (List Int × List Int) × Int :=
 if ofOk k cl then (((List.range k.length).map (whV k cl), (List.range k.length).map (rkV (rsV k cl) k.length)), 0) else (([], []), 2)
theorem of_bad {k : List Int} {cl : List (Int × Int)} (h : ¬ ofOk k cl) : ofP k cl = (([], []), 2) := if_neg h
theorem of_good {k : List Int} {cl : List (Int × Int)} (h : ofOk k cl) : ofP k cl = (((List.range k.length).map (whV k cl), (List.range k.length).map (rkV (rsV k cl) k.length)), 0) := if_pos h
def OfC (w : World) (f : Nat) : Prop := ∀ {K CL : AVal} {k : List Int} {cl : List (Int × Int)}, IsD 1 K (k.map iA) → IsD 2 CL (cl.map rA) → k.length ≤ 1000000 → cl.length ≤ 1000000 → (∀ x ∈ cl, in64 x.1 ∧ in64 x.2) →
 Gives (EE w) f [K, CL] fun v => ∃ W R, v = .tuple [rgA W R, (AVal.sc (Value.int IntKind.i64 ((ofP k cl).2)))] ∧ IsD 1 W ((ofP k cl).1.1.map iA) ∧ IsD 1 R ((ofP k cl).1.2.map iA)
/-- What a fraction is like. -/
def okR (x : Int × Int) : Prop := 0 ≤ x.1 ∧ x.1 ≤ 2147483647 ∧ 0 < x.2 ∧ x.2 ≤ 2147483647 ∧ Int.gcd x.1 x.2 = 1
theorem part_ok {c : Int} {x : Int × Int} (hv : validR x = true) (h0 : 0 ≤ x.1) : okR (partV c x).2 := by
 simp only [validR, Bool.and_eq_true, decide_eq_true_eq] at hv
 obtain ⟨h1, h2, h3, h4⟩ := hv
 unfold partV
 split
 ·exact ⟨by simp, by simp, by simp, by simp, by simp⟩
 ·have m0 := Int.emod_nonneg x.1 (show x.2 ≠ 0 by omega)
  have m1 := Int.emod_lt_of_pos x.1 h1
  refine ⟨m0, by dsimp only; omega, h1, h2, ?_⟩
  dsimp only
  have hg : Nat.gcd x.1.natAbs x.2.natAbs = 1 := h4
  have e1 : (x.1 % x.2).natAbs = x.1.natAbs % x.2.natAbs := by
   obtain ⟨a, ha⟩ : ∃ a : Nat, x.1 = a := ⟨x.1.toNat, by omega⟩
   obtain ⟨b, hb⟩ : ∃ b : Nat, x.2 = b := ⟨x.2.toNat, by omega⟩
   have hm : ((a : Int) % (b : Int)) = ((a % b : Nat) : Int) := rfl
   rw [ha, hb, hm, Int.natAbs_natCast, Int.natAbs_natCast, Int.natAbs_natCast]
  show Nat.gcd (x.1 % x.2).natAbs x.2.natAbs = 1
  rw [e1, ← Nat.gcd_rec, Nat.gcd_comm]
  exact hg
theorem lessC {w : World} (a b : Int × Int) (ha : okR a) (hb : okR b) : GivesV (EE w) 29 [rA a, rA b] (AVal.sc (Value.bool (decide (ltF a b)))) := by
 refine GivesV.of (fun _ => .sc _) (.cons _ _ (wfR a) (.cons _ _ (wfR b) .nil)) 4 ?_
 obtain ⟨a1, a2, a3, a4, _⟩ := ha
 obtain ⟨b1, b2, b3, b4, _⟩ := hb
 have w1 : IntKind.i64.wrap (a.1 * b.2) = a.1 * b.2 := by have := mul_in (a := a.1) (b := b.2) (by omega) (by omega) b3 b4; exact wrap64 (by omega) (by omega)
 have w2 : IntKind.i64.wrap (b.1 * a.2) = b.1 * a.2 := by have := mul_in (a := b.1) (b := a.2) (by omega) (by omega) a3 a4; exact wrap64 (by omega) (by omega)
 refine of_29 rfl rfl rfl (by kernel_rfl) ?_
 simp (maxSteps := 500000) -implicitDefEqProofs only [go_sem, rA, w1, w2]
 exact ⟨_, rfl, rfl⟩
set_option maxHeartbeats 8000000 in
theorem of1C {w : World} : OfC w 7 := by
  intro K CL k cl hK hC hk hcl hin
  refine Gives.of (fun _ => .sc _) (.cons _ _ (hK.wf (wf_is k)) (.cons _ _ (hC.wf (map_rA_wf cl)) .nil)) 6 ?_
  refine of_7 rfl rfl rfl (by kernel_rfl) ?_
  simp (maxSteps := 500000) -implicitDefEqProofs only [go_sem]
  refine (fineC hK hk).use ?_
  cases hf : fineB k with
  | false =>
    rw [of_bad fun h => by rw [h.1] at hf; cases hf]
    (repeat' first | ((first | refine vy1 ?_ ?_ | refine vy2 ?_ ?_ | refine vy3 ?_ ?_) <;> rintro ⟨hd, hq⟩ <;> first | (exfalso; omega) | simp (maxSteps := 500000) -implicitDefEqProofs only [go_sem, hd] | skip) | refine vzt ?_ | refine vzf ?_ | refine vsb ?_ | refine vzb ?_ | refine vzq ?_ | simp (maxSteps := 500000) -implicitDefEqProofs only [go_sem])
    exact ⟨_, _, rfl, rfl, _, _, rfl, .inl ⟨rfl, _, _, rfl⟩, .inl ⟨rfl, _, _, rfl⟩⟩
  | true =>
  by_cases e1 : cl.length = k.length
  case neg =>
    have e1' : ¬ (cl.length : Int) = k.length := by omega
    rw [of_bad fun h => e1 h.2.1]
    (repeat' first | ((first | refine vy1 ?_ ?_ | refine vy2 ?_ ?_ | refine vy3 ?_ ?_) <;> rintro ⟨hd, hq⟩ <;> first | (exfalso; omega) | simp (maxSteps := 500000) -implicitDefEqProofs only [go_sem, hd, hK.len, hC.len, dcf e1', dct e1'] | skip) | refine vzt ?_ | refine vzf ?_ | refine vsb ?_ | refine vzb ?_ | refine vzq ?_ | simp (maxSteps := 500000) -implicitDefEqProofs only [go_sem, hK.len, hC.len, dcf e1', dct e1'])
    exact ⟨_, _, rfl, rfl, _, _, rfl, .inl ⟨rfl, _, _, rfl⟩, .inl ⟨rfl, _, _, rfl⟩⟩
  have k10 := fine_len hf
  have hmk1 : ∀ σ : AStore, opMk σ ⟨1, 8, (AVal.sc (Value.int IntKind.i64 (0)))⟩ (some (AVal.sc (Value.int IntKind.i64 ((k.length : Int))))) (some (AVal.sc (Value.int IntKind.i64 ((k.length : Int))))) = .val (.slice σ.next 0 k.length) (σ.alloc (.cells 1 (List.replicate k.length (AVal.sc (Value.int IntKind.i64 (0)))))) := fun σ => opMk_nat (by omega) (by decide)
  have hz : List.replicate k.length (AVal.sc (Value.int IntKind.i64 (0))) = (List.replicate k.length (0 : Int)).map iA := by rw [List.map_replicate]; rfl
  simp (maxSteps := 500000) -implicitDefEqProofs only [go_sem, hK.len, hC.len, e1]
  (repeat' (first | refine vzf ?_ | simp (maxSteps := 500000) -implicitDefEqProofs only [go_sem]))
  refine Z_cut (ι := Nat × Nat × Nat) (fun s => [(0, K), (1, CL), (4, .ptr 0 0 0), (5, (AVal.sc (Value.int IntKind.i64 (0)))), (6, .ptr s.2.2 0 0)])
    (fun s σ => σ.get 0 = some (.cells 2 [.agg [(AVal.sc (Value.slice none 0 0)), (AVal.sc (Value.slice none 0 0))]]) ∧ σ.get s.2.2 = some (.cells 2 [.agg [.slice s.1 0 k.length, .slice s.2.1 0 k.length]]) ∧ σ.get s.1 = some (.cells 1 ((List.replicate k.length (0 : Int)).map iA)) ∧
      σ.get s.2.1 = some (.cells 1 ((List.replicate k.length (0 : Int)).map iA)) ∧ s.1 ≠ s.2.1 ∧ s.1 ≠ s.2.2 ∧ s.2.1 ≠ s.2.2 ∧ 1 ≤ s.1 ∧ 1 ≤ s.2.1 ∧ 1 ≤ s.2.2) (fun _ => rfl) ?_ ?_
  · simp (maxSteps := 500000) -implicitDefEqProofs only [go_sem]
    ((try (refine Z_seq ?_; (try simp (maxSteps := 500000) -implicitDefEqProofs only [go_sem]))); refine Z_drawA (by kernel_rfl) 0 [1, 3, 4, 2, 5, 6, 7, 8] [(8, 255), (7, 0), (6, 63), (5, 24), (2, 3), (4, 8), (3, 0), (1, 1), (0, 0)] (.br 0 (.br 1 (.br 3 (.br 4 (.br 2 (.br 5 (.br 6 (.br 7 (.br 8 .fin .stop) .stop) .stop) (.br 7 (.br 5 (.br 6 (.br 8 .fin .stop) .stop) .stop) .stop)) (.br 5 (.br 2 (.br 6 (.br 7 (.br 8 .fin .stop) .stop) .stop) (.br 7 (.br 2 (.br 6 (.br 8 .fin .stop) .stop) .stop) .stop)) (.br 7 (.br 2 (.br 5 (.br 6 (.br 8 .fin .stop) .stop) .stop) (.br 5 (.br 2 (.br 6 (.br 8 .fin .stop) .stop) .stop) .stop)) .stop))) .stop) .stop) .stop) .stop) (by kernel_rfl) (by kernel_rfl) (by kernel_rfl) ?_)
    simp (maxSteps := 500000) -implicitDefEqProofs only [go_sem, hK.len, hmk1, hz]
    (repeat rw [after_normal])
    refine ⟨⟨?_, ?_⟩, ⟨?_, ?_⟩, ?_, ?_⟩
    · exact ⟨(1, 2, 3), ⟨by simp only [go_sem, reduceIte] <;> rfl, by simp only [go_sem, reduceIte] <;> rfl, by simp only [go_sem, reduceIte] <;> rfl, by simp only [go_sem, reduceIte] <;> rfl, by decide, by decide, by decide, by decide, by decide, by decide⟩, by (repeat' (first | exact trivial | refine ⟨rfl, ?_⟩))⟩
    · exact ⟨(1, 3, 2), ⟨by simp only [go_sem, reduceIte] <;> rfl, by simp only [go_sem, reduceIte] <;> rfl, by simp only [go_sem, reduceIte] <;> rfl, by simp only [go_sem, reduceIte] <;> rfl, by decide, by decide, by decide, by decide, by decide, by decide⟩, by (repeat' (first | exact trivial | refine ⟨rfl, ?_⟩))⟩
    · exact ⟨(2, 1, 3), ⟨by simp only [go_sem, reduceIte] <;> rfl, by simp only [go_sem, reduceIte] <;> rfl, by simp only [go_sem, reduceIte] <;> rfl, by simp only [go_sem, reduceIte] <;> rfl, by decide, by decide, by decide, by decide, by decide, by decide⟩, by (repeat' (first | exact trivial | refine ⟨rfl, ?_⟩))⟩
    · exact ⟨(3, 1, 2), ⟨by simp only [go_sem, reduceIte] <;> rfl, by simp only [go_sem, reduceIte] <;> rfl, by simp only [go_sem, reduceIte] <;> rfl, by simp only [go_sem, reduceIte] <;> rfl, by decide, by decide, by decide, by decide, by decide, by decide⟩, by (repeat' (first | exact trivial | refine ⟨rfl, ?_⟩))⟩
    · exact ⟨(2, 3, 1), ⟨by simp only [go_sem, reduceIte] <;> rfl, by simp only [go_sem, reduceIte] <;> rfl, by simp only [go_sem, reduceIte] <;> rfl, by simp only [go_sem, reduceIte] <;> rfl, by decide, by decide, by decide, by decide, by decide, by decide⟩, by (repeat' (first | exact trivial | refine ⟨rfl, ?_⟩))⟩
    · exact ⟨(3, 2, 1), ⟨by simp only [go_sem, reduceIte] <;> rfl, by simp only [go_sem, reduceIte] <;> rfl, by simp only [go_sem, reduceIte] <;> rfl, by simp only [go_sem, reduceIte] <;> rfl, by decide, by decide, by decide, by decide, by decide, by decide⟩, by (repeat' (first | exact trivial | refine ⟨rfl, ?_⟩))⟩
  rintro ⟨b1, b2, q⟩ σ ⟨g0, gq, g1, g2, ne, n1, n2, p1, p2, p3⟩
  dsimp only at gq g1 g2 ne n1 n2 p1 p2 p3 ⊢
  have ne' : ¬ b2 = b1 := fun h => ne h.symm
  have n1' : ¬ q = b1 := fun h => n1 h.symm
  have n2' : ¬ q = b2 := fun h => n2 h.symm
  have o1 : ¬ 0 = b1 := by omega
  have o2 : ¬ 0 = b2 := by omega
  have o3 : ¬ 0 = q := by omega
  have hmk2 : ∀ σ : AStore, opMk σ ⟨2, 16, .agg [(AVal.sc (Value.int IntKind.i64 (0))), (AVal.sc (Value.int IntKind.i64 (0)))]⟩ (some (AVal.sc (Value.int IntKind.i64 ((k.length : Int))))) (some (AVal.sc (Value.int IntKind.i64 ((k.length : Int))))) = .val (.slice σ.next 0 k.length) (σ.alloc (.cells 2 (List.replicate k.length (.agg [(AVal.sc (Value.int IntKind.i64 (0))), (AVal.sc (Value.int IntKind.i64 (0)))])))) := fun σ => opMk_nat (by omega) (by decide)
  have hz2 : List.replicate k.length (AVal.agg [(AVal.sc (Value.int IntKind.i64 (0))), (AVal.sc (Value.int IntKind.i64 (0)))]) = (List.replicate k.length ((0, 0) : Int × Int)).map rA := by rw [List.map_replicate]; rfl
  obtain ⟨b3, hb3⟩ : ∃ b3, b3 = σ.next := ⟨_, rfl⟩
  have x0 := AStore.lt_of_get g0
  have x1 := AStore.lt_of_get g1
  have x2 := AStore.lt_of_get g2
  have x3 := AStore.lt_of_get gq
  rw [← hb3] at x0 x1 x2 x3
  have m1 : ¬ b3 = b1 := by omega
  have m2 : ¬ b3 = b2 := by omega
  have m3 : ¬ b3 = q := by omega
  have m1' : ¬ b1 = b3 := by omega
  have m2' : ¬ b2 = b3 := by omega
  have m3' : ¬ q = b3 := by omega
  have o4 : ¬ 0 = b3 := by omega
  have lz : (List.replicate k.length (0 : Int)).length = k.length := List.length_replicate
  have lz2 : (List.replicate k.length ((0, 0) : Int × Int)).length = k.length := List.length_replicate
  have zat : ∀ i, i < k.length → (List.replicate k.length (0 : Int))[i]? = some 0 := fun i hi => by rw [List.getElem?_replicate, if_pos hi]
  have zat2 : ∀ i, i < k.length → (List.replicate k.length ((0, 0) : Int × Int))[i]? = some (0, 0) := fun i hi => by rw [List.getElem?_replicate, if_pos hi]
  simp (maxSteps := 500000) -implicitDefEqProofs only [go_sem, hK.len, hmk2, hz2, ← hb3, hC.len, e1]
  (repeat' first | ((first | refine vy1 ?_ ?_ | refine vy2 ?_ ?_ | refine vy3 ?_ ?_) <;> rintro ⟨hd, hq⟩ <;> first | (exfalso; omega) | simp (maxSteps := 500000) -implicitDefEqProofs only [go_sem, hd] | skip) | refine vzt ?_ | refine vzf ?_ | refine vsb ?_ | refine vzb ?_ | refine vzq ?_ | simp (maxSteps := 500000) -implicitDefEqProofs only [go_sem])
  (first | refine Z_block_loop (ι := Nat) (fun i => [(0, K), (1, CL), (4, .ptr 0 0 0), (5, (AVal.sc (Value.int IntKind.i64 (0)))), (6, .ptr q 0 0), (7, .slice b3 0 k.length), (38, CL), (39, (AVal.sc (Value.int IntKind.i64 (k.length)))), (40, (AVal.sc (Value.int IntKind.i64 (i))))]) (fun i σ' => i ≤ k.length ∧ (∀ j, j < i → validR (pcl cl j) = true ∧ 0 ≤ (pcl cl j).1) ∧ b3 < σ'.next ∧ σ'.get 0 = some (.cells 2 [.agg [(AVal.sc (Value.slice none 0 0)), (AVal.sc (Value.slice none 0 0))]]) ∧ σ'.get q = some (.cells 2 [.agg [.slice b1 0 k.length, .slice b2 0 k.length]]) ∧ σ'.get b1 = some (.cells 1 ((mixG (whV k cl) (List.replicate k.length (0 : Int)) i).map iA)) ∧ σ'.get b2 = some (.cells 1 ((List.replicate k.length (0 : Int)).map iA)) ∧ σ'.get b3 = some (.cells 2 ((mixG (rsV k cl) (List.replicate k.length ((0, 0) : Int × Int)) i).map rA))) (fun i => k.length - i) (fun _ => rfl) 0 ?_ ?_ ?_ | refine Z_seq_loop (ι := Nat) (fun i => [(0, K), (1, CL), (4, .ptr 0 0 0), (5, (AVal.sc (Value.int IntKind.i64 (0)))), (6, .ptr q 0 0), (7, .slice b3 0 k.length), (38, CL), (39, (AVal.sc (Value.int IntKind.i64 (k.length)))), (40, (AVal.sc (Value.int IntKind.i64 (i))))]) (fun i σ' => i ≤ k.length ∧ (∀ j, j < i → validR (pcl cl j) = true ∧ 0 ≤ (pcl cl j).1) ∧ b3 < σ'.next ∧ σ'.get 0 = some (.cells 2 [.agg [(AVal.sc (Value.slice none 0 0)), (AVal.sc (Value.slice none 0 0))]]) ∧ σ'.get q = some (.cells 2 [.agg [.slice b1 0 k.length, .slice b2 0 k.length]]) ∧ σ'.get b1 = some (.cells 1 ((mixG (whV k cl) (List.replicate k.length (0 : Int)) i).map iA)) ∧ σ'.get b2 = some (.cells 1 ((List.replicate k.length (0 : Int)).map iA)) ∧ σ'.get b3 = some (.cells 2 ((mixG (rsV k cl) (List.replicate k.length ((0, 0) : Int × Int)) i).map rA))) (fun i => k.length - i) (fun _ => rfl) 0 ?_ ?_ ?_ | refine Z_loop (ι := Nat) (fun i => [(0, K), (1, CL), (4, .ptr 0 0 0), (5, (AVal.sc (Value.int IntKind.i64 (0)))), (6, .ptr q 0 0), (7, .slice b3 0 k.length), (38, CL), (39, (AVal.sc (Value.int IntKind.i64 (k.length)))), (40, (AVal.sc (Value.int IntKind.i64 (i))))]) (fun i σ' => i ≤ k.length ∧ (∀ j, j < i → validR (pcl cl j) = true ∧ 0 ≤ (pcl cl j).1) ∧ b3 < σ'.next ∧ σ'.get 0 = some (.cells 2 [.agg [(AVal.sc (Value.slice none 0 0)), (AVal.sc (Value.slice none 0 0))]]) ∧ σ'.get q = some (.cells 2 [.agg [.slice b1 0 k.length, .slice b2 0 k.length]]) ∧ σ'.get b1 = some (.cells 1 ((mixG (whV k cl) (List.replicate k.length (0 : Int)) i).map iA)) ∧ σ'.get b2 = some (.cells 1 ((List.replicate k.length (0 : Int)).map iA)) ∧ σ'.get b3 = some (.cells 2 ((mixG (rsV k cl) (List.replicate k.length ((0, 0) : Int × Int)) i).map rA))) (fun i => k.length - i) (fun _ => rfl) 0 ?_ ?_ ?_)
  · (repeat' (first | exact trivial | refine ⟨rfl, ?_⟩))
  · exact ⟨Nat.zero_le _, by omega, by simp only [alloc_next]; omega, get_alloc_old g0, get_alloc_old gq, by rw [mixg_zero]; exact get_alloc_old g1, get_alloc_old g2, by rw [mixg_zero]; exact hb3 ▸ getA⟩
  clear g0 gq g1 g2
  · rintro i τ ⟨hi, hall, hnx, g0, gq, g1, g2, g3⟩
    simp (maxSteps := 500000) -implicitDefEqProofs only [go_sem]
    ((first | refine vz2 ?_ ?_ | refine vz3 ?_ ?_) <;> intro h2)
    · have hik : i < k.length := by omega
      obtain ⟨c, hc⟩ : ∃ c, k[i]? = some c := ⟨k[i], List.getElem?_eq_getElem hik⟩
      obtain ⟨⟨xn, xd⟩, hx⟩ : ∃ x, cl[i]? = some x := ⟨cl[i]'(by omega), List.getElem?_eq_getElem _⟩
      have hc' : (k.map iA)[i]? = some (iA c) := by simp [hc]
      have hx' : (cl.map rA)[i]? = some (rA (xn, xd)) := by simp [hx]
      obtain ⟨c1, c2⟩ := fine_in hf hc
      obtain ⟨i1, i2⟩ := hin _ (List.mem_of_getElem? hx)
      have hw := wrapS (i := i) (by omega)
      have px := pcl_of hx
      have y0 : ¬ 0 = τ.next := by omega
      have y1 : ¬ b1 = τ.next := by omega
      have y2 : ¬ b2 = τ.next := by omega
      have y3 : ¬ b3 = τ.next := by omega
      have yq : ¬ q = τ.next := by omega
      have y1' : ¬ τ.next = b1 := by omega
      have y3' : ¬ τ.next = b3 := by omega
      have hix : (0 : Int) ≤ i ∧ (i : Int) < (k.length : Int) := ⟨by omega, by omega⟩
      have vC := validC (w := w) (xn, xd) i1 i2
      (repeat' first | ((first | refine vy1 ?_ ?_ | refine vy2 ?_ ?_ | refine vy3 ?_ ?_) <;> rintro ⟨hd, hq⟩ <;> first | (exfalso; omega) | simp (maxSteps := 500000) -implicitDefEqProofs only [go_sem, hd, hC.idx hx', rA, g0, y0] | skip) | refine vzt ?_ | refine vzf ?_ | refine vsb ?_ | refine vzb ?_ | refine vzq ?_ | simp (maxSteps := 500000) -implicitDefEqProofs only [go_sem, hC.idx hx', rA, g0, y0])
      simp only [rA] at vC
      refine vC.use ?_
      by_cases hv : validR (xn, xd) = true
      case neg =>
        have hv' : validR (xn, xd) = false := by simpa using hv
        rw [of_bad fun h => hv (by have := (h.2.2 i hik).1; rw [px] at this; exact this), hv']
        (repeat' first | ((first | refine vy1 ?_ ?_ | refine vy2 ?_ ?_ | refine vy3 ?_ ?_) <;> rintro ⟨hd, hq⟩ <;> first | (exfalso; omega) | simp (maxSteps := 500000) -implicitDefEqProofs only [go_sem, hd, g0, y0] | skip) | refine vzt ?_ | refine vzf ?_ | refine vsb ?_ | refine vzb ?_ | refine vzq ?_ | simp (maxSteps := 500000) -implicitDefEqProofs only [go_sem, g0, y0])
        exact ⟨_, _, rfl, rfl, _, _, rfl, .inl ⟨rfl, _, _, rfl⟩, .inl ⟨rfl, _, _, rfl⟩⟩
      rw [hv]
      by_cases hn : xn < 0
      · rw [of_bad fun h => by have := (h.2.2 i hik).2; rw [px] at this; dsimp only at this; omega]
        (repeat' first | ((first | refine vy1 ?_ ?_ | refine vy2 ?_ ?_ | refine vy3 ?_ ?_) <;> rintro ⟨hd, hq⟩ <;> first | (exfalso; omega) | simp (maxSteps := 500000) -implicitDefEqProofs only [go_sem, hd, g0, y0, dct hn] | skip) | refine vzt ?_ | refine vzf ?_ | refine vsb ?_ | refine vzb ?_ | refine vzq ?_ | simp (maxSteps := 500000) -implicitDefEqProofs only [go_sem, g0, y0, dct hn])
        exact ⟨_, _, rfl, rfl, _, _, rfl, .inl ⟨rfl, _, _, rfl⟩, .inl ⟨rfl, _, _, rfl⟩⟩
      obtain ⟨v1, v2, v3, v4⟩ := validR_b hv
      dsimp only at v1 v2 v3 v4
      have hdz : xd ≠ 0 := by omega
      have hall' : ∀ j, j < i + 1 → validR (pcl cl j) = true ∧ 0 ≤ (pcl cl j).1 := by
        intro j hj
        rcases Nat.lt_or_ge j i with h' | h'
        · exact hall j h'
        · obtain rfl : j = i := by omega
          rw [px]; exact ⟨hv, by dsimp only; omega⟩
      (repeat' first | ((first | refine vy1 ?_ ?_ | refine vy2 ?_ ?_ | refine vy3 ?_ ?_) <;> rintro ⟨hd, hq⟩ <;> first | (exfalso; omega) | simp (maxSteps := 500000) -implicitDefEqProofs only [go_sem, hd, dcf hn] | skip) | refine vzt ?_ | refine vzf ?_ | refine vsb ?_ | refine vzb ?_ | refine vzq ?_ | simp (maxSteps := 500000) -implicitDefEqProofs only [go_sem, dcf hn])
      have hxw : ((mixG (whV k cl) (List.replicate k.length (0 : Int)) i).map iA)[i]? = some (iA 0) := by rw [List.getElem?_map, mixg_get, zat i hik]; rfl
      have hxr : ((mixG (rsV k cl) (List.replicate k.length ((0, 0) : Int × Int)) i).map rA)[i]? = some (rA (0, 0)) := by rw [List.getElem?_map, mixg_get, zat2 i hik]; rfl
      have lw : ((mixG (whV k cl) (List.replicate k.length (0 : Int)) i).map iA).length = k.length := by rw [List.length_map, mixg_len (by omega), lz]
      have lr : ((mixG (rsV k cl) (List.replicate k.length ((0, 0) : Int × Int)) i).map rA).length = k.length := by rw [List.length_map, mixg_len (by omega), lz2]
      have q0 : 0 ≤ xn / xd := Int.ediv_nonneg (by omega) (by omega)
      have q9 : xn / xd ≤ xn := Int.ediv_le_self _ (by omega)
      have hq1 : scBin .quo (.int .i64 xn) (.int .i64 xd) = some (.int .i64 (xn / xd)) := by rw [sc_quo hdz, Int.tdiv_eq_ediv_of_nonneg (by omega), wrap64 (by omega) (by omega)]
      have hq2 : scBin .rem (.int .i64 xn) (.int .i64 xd) = some (.int .i64 (xn % xd)) := by rw [sc_rem hdz, Int.tmod_eq_emod_of_nonneg (by omega)]
      have hw1 : whV k cl i = if c < xn / xd ∨ (xn / xd = c ∧ 0 < xn % xd) then c + 1 else xn / xd := by
        unfold whV; rw [at_of hc, px]; unfold partV; dsimp only; split <;> rfl
      have hr1 : rsV k cl i = if c < xn / xd ∨ (xn / xd = c ∧ 0 < xn % xd) then (0, 1) else (xn % xd, xd) := by
        unfold rsV; rw [at_of hc, px]; unfold partV; dsimp only; split <;> rfl
      generalize xn / xd = Q at *
      generalize xn % xd = M at *
      have hwc : IntKind.i64.wrap (c + 1) = c + 1 := wrap64 (by omega) (by omega)
      obtain ⟨L1, hL1⟩ : ∃ L1, L1 = (mixG (whV k cl) (List.replicate k.length (0 : Int)) i).map iA := ⟨_, rfl⟩
      obtain ⟨L3, hL3⟩ : ∃ L3, L3 = (mixG (rsV k cl) (List.replicate k.length ((0, 0) : Int × Int)) i).map rA := ⟨_, rfl⟩
      rw [← hL1] at g1 hxw lw
      rw [← hL3] at g3 hxr lr
      have hxw2 : ∀ v, (L1.set i v)[i]? = some v := fun v => by rw [List.getElem?_set, if_pos rfl, if_pos (by omega)]
      have hxr2 : ∀ v, (L3.set i v)[i]? = some v := fun v => by rw [List.getElem?_set, if_pos rfl, if_pos (by omega)]
      have u1 : b1 < τ.next + 1 := by omega
      have u3 : b3 < τ.next + 1 := by omega
      have done : ∀ v w, v = whV k cl i → w = rsV k cl i → L1.set i (iA v) = (mixG (whV k cl) (List.replicate k.length (0 : Int)) (i + 1)).map iA ∧ L3.set i (rA w) = (mixG (rsV k cl) (List.replicate k.length ((0, 0) : Int × Int)) (i + 1)).map rA := by
        intro v w hv hw
        rw [hL1, hL3, ← List.map_set, ← List.map_set, mixg_set (by omega) hv, mixg_set (by omega) hw]
        exact ⟨rfl, rfl⟩
      have FA : True := trivial
      ((try (refine Z_seq ?_; (try simp (maxSteps := 500000) -implicitDefEqProofs only [go_sem]))); refine Z_draw (by kernel_rfl) [0, 1, 2, 3, 4, 5, 6, 7, 8, 9, 10, 11, 12, 13, 14, 15, 16, 17, 18, 19, 20, 21] [(21, 2097151), (20, 1048575), (19, 263143), (18, 999), (17, 130048), (16, 32768), (15, 0), (14, 15360), (13, 4096), (12, 0), (11, 1024), (10, 0), (9, 480), (8, 128), (7, 0), (6, 32), (5, 0), (4, 0), (3, 0), (2, 0), (1, 1), (0, 0)] (by kernel_rfl) (by kernel_rfl) ?_)
      simp (maxSteps := 500000) -implicitDefEqProofs only [go_sem, gq, g1, g3, y0, y1, y2, y3, yq, y1', y3', hxw, hxr, iA, rA, hix, hw, hq1, hq2, m1, m1', m3, m3', n1', u1, u3]
      (repeat' first | ((first | refine vy1 ?_ ?_ | refine vy2 ?_ ?_ | refine vy3 ?_ ?_) <;> rintro ⟨hd, hq⟩ <;> first | (exfalso; omega) | simp (maxSteps := 500000) -implicitDefEqProofs only [go_sem, hd] | skip) | refine vzt ?_ | refine vzf ?_ | refine vsb ?_ | refine vzb ?_ | refine vzq ?_ | simp (maxSteps := 500000) -implicitDefEqProofs only [go_sem])
      ((try (refine Z_seq ?_; (try simp (maxSteps := 500000) -implicitDefEqProofs only [go_sem]))); refine Z_draw (by kernel_rfl) [0, 1, 2, 3, 4, 5, 6, 7, 8, 9, 10, 11, 12, 13, 14, 15, 16, 17, 18, 19, 20, 21, 22, 23, 24, 25, 26, 27, 28, 29] [(29, 536870911), (28, 268435455), (27, 134217727), (26, 67108863), (25, 33554431), (24, 16777215), (23, 4194303), (22, 4194303), (21, 2097151), (20, 1048575), (19, 460799), (18, 198655), (17, 2047), (16, 2047), (15, 32767), (14, 16383), (13, 2047), (12, 4095), (11, 2047), (10, 1023), (9, 511), (8, 224), (7, 96), (6, 0), (5, 0), (4, 15), (3, 7), (2, 0), (1, 1), (0, 0)] (by kernel_rfl) (by kernel_rfl) ?_)
      by_cases a1 : c < Q
      · obtain ⟨f1, f2⟩ := done (c + 1) (0, 1) (by rw [hw1, if_pos (.inl a1)]) (by rw [hr1, if_pos (.inl a1)])
        simp only [iA, rA] at f1 f2
        simp (maxSteps := 500000) -implicitDefEqProofs only [go_sem, gq, g1, g3, y0, y1, y2, y3, yq, y1', y3', hxw2, hxr2, iA, rA, hix, hw, m1, m1', m3, m3', n1', u1, u3, hK.idx hc', dct a1]
        (repeat' first | ((first | refine vy1 ?_ ?_ | refine vy2 ?_ ?_ | refine vy3 ?_ ?_) <;> rintro ⟨hd, hq⟩ <;> first | (exfalso; omega) | simp (maxSteps := 500000) -implicitDefEqProofs only [go_sem, hd] | skip) | refine vzt ?_ | refine vzf ?_ | refine vsb ?_ | refine vzb ?_ | refine vzq ?_ | simp (maxSteps := 500000) -implicitDefEqProofs only [go_sem])
        ((try (refine Z_seq ?_; (try simp (maxSteps := 500000) -implicitDefEqProofs only [go_sem]))); refine Z_draw (by kernel_rfl) [0, 1, 2, 3, 4, 5, 6, 7, 8, 9, 10, 11, 12, 13, 14] [(14, 16383), (13, 8191), (12, 3047), (11, 999), (10, 0), (9, 480), (8, 224), (7, 96), (6, 0), (5, 0), (4, 0), (3, 0), (2, 0), (1, 1), (0, 0)] (by kernel_rfl) (by kernel_rfl) ?_)
        simp (maxSteps := 500000) -implicitDefEqProofs only [go_sem, gq, g1, g3, y0, y1, y2, y3, yq, y1', y3', hxw2, hxr2, iA, rA, hix, hw, m1, m1', m3, m3', n1', u1, u3, hK.idx hc', hwc, List.set_set, f1, f2]
        (repeat' first | ((first | refine vy1 ?_ ?_ | refine vy2 ?_ ?_ | refine vy3 ?_ ?_) <;> rintro ⟨hd, hq⟩ <;> first | (exfalso; omega) | simp (maxSteps := 500000) -implicitDefEqProofs only [go_sem, hd, hw] | skip) | refine vzt ?_ | refine vzf ?_ | refine vsb ?_ | refine vzb ?_ | refine vzq ?_ | simp (maxSteps := 500000) -implicitDefEqProofs only [go_sem, hw])
        refine ⟨i + 1, by dsimp only; omega, ⟨by omega, hall', ?_, ?_, ?_, ?_, ?_, ?_⟩, ?_⟩
        · simp only [set_next, alloc_next]; omega
        · simp (maxSteps := 500000) -implicitDefEqProofs only [go_sem, g0, o1, o4, y0]
        · simp (maxSteps := 500000) -implicitDefEqProofs only [go_sem, gq, n1', m3', yq]
        · simp (maxSteps := 500000) -implicitDefEqProofs only [go_sem, m1', y1, u1, u3]
        · simp (maxSteps := 500000) -implicitDefEqProofs only [go_sem, g2, ne', m2', y2]
        · simp (maxSteps := 500000) -implicitDefEqProofs only [go_sem, m1, y3, u1, u3]
        · (repeat' (first | exact trivial | refine ⟨rfl, ?_⟩))
      · by_cases a2 : Q = c
        · by_cases a3 : 0 < M
          · obtain ⟨f1, f2⟩ := done (c + 1) (0, 1) (by rw [hw1, if_pos (.inr ⟨a2, a3⟩)]) (by rw [hr1, if_pos (.inr ⟨a2, a3⟩)])
            simp only [iA, rA] at f1 f2
            simp (maxSteps := 500000) -implicitDefEqProofs only [go_sem, gq, g1, g3, y0, y1, y2, y3, yq, y1', y3', hxw2, hxr2, iA, rA, hix, hw, m1, m1', m3, m3', n1', u1, u3, hK.idx hc', dcf a1, dct a2, dct a3]
            (repeat' first | ((first | refine vy1 ?_ ?_ | refine vy2 ?_ ?_ | refine vy3 ?_ ?_) <;> rintro ⟨hd, hq⟩ <;> first | (exfalso; omega) | simp (maxSteps := 500000) -implicitDefEqProofs only [go_sem, hd] | skip) | refine vzt ?_ | refine vzf ?_ | refine vsb ?_ | refine vzb ?_ | refine vzq ?_ | simp (maxSteps := 500000) -implicitDefEqProofs only [go_sem])
            ((try (refine Z_seq ?_; (try simp (maxSteps := 500000) -implicitDefEqProofs only [go_sem]))); refine Z_draw (by kernel_rfl) [0, 1, 2, 3, 4, 5, 6, 7, 8, 9, 10, 11, 12, 13, 14] [(14, 16383), (13, 8191), (12, 3047), (11, 999), (10, 0), (9, 480), (8, 224), (7, 96), (6, 0), (5, 0), (4, 0), (3, 0), (2, 0), (1, 1), (0, 0)] (by kernel_rfl) (by kernel_rfl) ?_)
            simp (maxSteps := 500000) -implicitDefEqProofs only [go_sem, gq, g1, g3, y0, y1, y2, y3, yq, y1', y3', hxw2, hxr2, iA, rA, hix, hw, m1, m1', m3, m3', n1', u1, u3, hK.idx hc', hwc, List.set_set, f1, f2]
            (repeat' first | ((first | refine vy1 ?_ ?_ | refine vy2 ?_ ?_ | refine vy3 ?_ ?_) <;> rintro ⟨hd, hq⟩ <;> first | (exfalso; omega) | simp (maxSteps := 500000) -implicitDefEqProofs only [go_sem, hd, hw] | skip) | refine vzt ?_ | refine vzf ?_ | refine vsb ?_ | refine vzb ?_ | refine vzq ?_ | simp (maxSteps := 500000) -implicitDefEqProofs only [go_sem, hw])
            refine ⟨i + 1, by dsimp only; omega, ⟨by omega, hall', ?_, ?_, ?_, ?_, ?_, ?_⟩, ?_⟩
            · simp only [set_next, alloc_next]; omega
            · simp (maxSteps := 500000) -implicitDefEqProofs only [go_sem, g0, o1, o4, y0]
            · simp (maxSteps := 500000) -implicitDefEqProofs only [go_sem, gq, n1', m3', yq]
            · simp (maxSteps := 500000) -implicitDefEqProofs only [go_sem, m1', y1, u1, u3]
            · simp (maxSteps := 500000) -implicitDefEqProofs only [go_sem, g2, ne', m2', y2]
            · simp (maxSteps := 500000) -implicitDefEqProofs only [go_sem, m1, y3, u1, u3]
            · (repeat' (first | exact trivial | refine ⟨rfl, ?_⟩))
          · obtain ⟨f1, f2⟩ := done Q (M, xd) (by rw [hw1, if_neg (by omega)]) (by rw [hr1, if_neg (by omega)])
            simp only [iA, rA] at f1 f2
            simp (maxSteps := 500000) -implicitDefEqProofs only [go_sem, gq, g1, g3, y0, y1, y2, y3, yq, y1', y3', hxw2, hxr2, iA, rA, hix, hw, m1, m1', m3, m3', n1', u1, u3, hK.idx hc', dcf a1, dct a2, dcf a3]
            (repeat' first | ((first | refine vy1 ?_ ?_ | refine vy2 ?_ ?_ | refine vy3 ?_ ?_) <;> rintro ⟨hd, hq⟩ <;> first | (exfalso; omega) | simp (maxSteps := 500000) -implicitDefEqProofs only [go_sem, hd, hw, f1, f2] | skip) | refine vzt ?_ | refine vzf ?_ | refine vsb ?_ | refine vzb ?_ | refine vzq ?_ | simp (maxSteps := 500000) -implicitDefEqProofs only [go_sem, hw, f1, f2])
            refine ⟨i + 1, by dsimp only; omega, ⟨by omega, hall', ?_, ?_, ?_, ?_, ?_, ?_⟩, ?_⟩
            · simp only [set_next, alloc_next]; omega
            · simp (maxSteps := 500000) -implicitDefEqProofs only [go_sem, g0, o1, o4, y0]
            · simp (maxSteps := 500000) -implicitDefEqProofs only [go_sem, gq, n1', m3', yq]
            · simp (maxSteps := 500000) -implicitDefEqProofs only [go_sem, m1', y1, u1, u3]
            · simp (maxSteps := 500000) -implicitDefEqProofs only [go_sem, g2, ne', m2', y2]
            · simp (maxSteps := 500000) -implicitDefEqProofs only [go_sem, m1, y3, u1, u3]
            · (repeat' (first | exact trivial | refine ⟨rfl, ?_⟩))
        · obtain ⟨f1, f2⟩ := done Q (M, xd) (by rw [hw1, if_neg (by omega)]) (by rw [hr1, if_neg (by omega)])
          simp only [iA, rA] at f1 f2
          simp (maxSteps := 500000) -implicitDefEqProofs only [go_sem, gq, g1, g3, y0, y1, y2, y3, yq, y1', y3', hxw2, hxr2, iA, rA, hix, hw, m1, m1', m3, m3', n1', u1, u3, hK.idx hc', dcf a1, dcf a2]
          (repeat' first | ((first | refine vy1 ?_ ?_ | refine vy2 ?_ ?_ | refine vy3 ?_ ?_) <;> rintro ⟨hd, hq⟩ <;> first | (exfalso; omega) | simp (maxSteps := 500000) -implicitDefEqProofs only [go_sem, hd, hw, f1, f2] | skip) | refine vzt ?_ | refine vzf ?_ | refine vsb ?_ | refine vzb ?_ | refine vzq ?_ | simp (maxSteps := 500000) -implicitDefEqProofs only [go_sem, hw, f1, f2])
          refine ⟨i + 1, by dsimp only; omega, ⟨by omega, hall', ?_, ?_, ?_, ?_, ?_, ?_⟩, ?_⟩
          · simp only [set_next, alloc_next]; omega
          · simp (maxSteps := 500000) -implicitDefEqProofs only [go_sem, g0, o1, o4, y0]
          · simp (maxSteps := 500000) -implicitDefEqProofs only [go_sem, gq, n1', m3', yq]
          · simp (maxSteps := 500000) -implicitDefEqProofs only [go_sem, m1', y1, u1, u3]
          · simp (maxSteps := 500000) -implicitDefEqProofs only [go_sem, g2, ne', m2', y2]
          · simp (maxSteps := 500000) -implicitDefEqProofs only [go_sem, m1, y3, u1, u3]
          · (repeat' (first | exact trivial | refine ⟨rfl, ?_⟩))
    · obtain rfl : i = k.length := by omega
      have hok : ofOk k cl := ⟨hf, e1, hall⟩
      rw [of_good hok]
      have hr0 : ∀ i, i < k.length → okR (rsV k cl i) := fun i hi => part_ok (hall i hi).1 (hall i hi).2
      have e3 : mixG (rsV k cl) (List.replicate k.length ((0, 0) : Int × Int)) k.length = (List.range k.length).map (rsV k cl) := by
        have := mixg_end (f := rsV k cl) (l := List.replicate k.length ((0, 0) : Int × Int)); rwa [lz2] at this
      have e4 : mixG (whV k cl) (List.replicate k.length (0 : Int)) k.length = (List.range k.length).map (whV k cl) := by
        have := mixg_end (f := whV k cl) (l := List.replicate k.length (0 : Int)); rwa [lz] at this
      rw [e3] at g3
      rw [e4] at g1
      have r3 : ∀ j, j < k.length → (((List.range k.length).map (rsV k cl)).map rA)[j]? = some (rA (rsV k cl j)) := fun j hj => by
        rw [List.getElem?_map, List.getElem?_map, List.getElem?_range hj]; rfl
      generalize rsV k cl = rs at *
      have fnL : (EE w).fns 29 = true := by kernel_rfl
      clear hall hnx hi
      obtain ⟨L1, hL1⟩ : ∃ L1, L1 = ((List.range k.length).map (whV k cl)).map iA := ⟨_, rfl⟩
      obtain ⟨L3, hL3⟩ : ∃ L3, L3 = ((List.range k.length).map rs).map rA := ⟨_, rfl⟩
      rw [← hL3] at g3 r3
      rw [← hL1] at g1
      (repeat' first | ((first | refine vy1 ?_ ?_ | refine vy2 ?_ ?_ | refine vy3 ?_ ?_) <;> rintro ⟨hd, hq⟩ <;> first | (exfalso; omega) | simp (maxSteps := 500000) -implicitDefEqProofs only [go_sem, hd] | skip) | refine vzt ?_ | refine vzf ?_ | refine vsb ?_ | refine vzb ?_ | refine vzq ?_ | simp (maxSteps := 500000) -implicitDefEqProofs only [go_sem])
      (first | refine Z_block_loop (ι := Nat) (fun i => [(4, .ptr 0 0 0), (5, (AVal.sc (Value.int IntKind.i64 (0)))), (6, .ptr q 0 0), (7, .slice b3 0 k.length), (10, .func (.func 29) [] []), (118, .slice b3 0 k.length), (119, (AVal.sc (Value.int IntKind.i64 (k.length)))), (120, (AVal.sc (Value.int IntKind.i64 (i))))]) (fun i σ' => i ≤ k.length ∧ b3 < σ'.next ∧ σ'.get 0 = some (.cells 2 [.agg [(AVal.sc (Value.slice none 0 0)), (AVal.sc (Value.slice none 0 0))]]) ∧ σ'.get q = some (.cells 2 [.agg [.slice b1 0 k.length, .slice b2 0 k.length]]) ∧ σ'.get b1 = some (.cells 1 L1) ∧ σ'.get b2 = some (.cells 1 ((mixG (rkV rs k.length) (List.replicate k.length (0 : Int)) i).map iA)) ∧ σ'.get b3 = some (.cells 2 L3)) (fun i => k.length - i) (fun _ => rfl) 0 ?_ ?_ ?_ | refine Z_seq_loop (ι := Nat) (fun i => [(4, .ptr 0 0 0), (5, (AVal.sc (Value.int IntKind.i64 (0)))), (6, .ptr q 0 0), (7, .slice b3 0 k.length), (10, .func (.func 29) [] []), (118, .slice b3 0 k.length), (119, (AVal.sc (Value.int IntKind.i64 (k.length)))), (120, (AVal.sc (Value.int IntKind.i64 (i))))]) (fun i σ' => i ≤ k.length ∧ b3 < σ'.next ∧ σ'.get 0 = some (.cells 2 [.agg [(AVal.sc (Value.slice none 0 0)), (AVal.sc (Value.slice none 0 0))]]) ∧ σ'.get q = some (.cells 2 [.agg [.slice b1 0 k.length, .slice b2 0 k.length]]) ∧ σ'.get b1 = some (.cells 1 L1) ∧ σ'.get b2 = some (.cells 1 ((mixG (rkV rs k.length) (List.replicate k.length (0 : Int)) i).map iA)) ∧ σ'.get b3 = some (.cells 2 L3)) (fun i => k.length - i) (fun _ => rfl) 0 ?_ ?_ ?_ | refine Z_loop (ι := Nat) (fun i => [(4, .ptr 0 0 0), (5, (AVal.sc (Value.int IntKind.i64 (0)))), (6, .ptr q 0 0), (7, .slice b3 0 k.length), (10, .func (.func 29) [] []), (118, .slice b3 0 k.length), (119, (AVal.sc (Value.int IntKind.i64 (k.length)))), (120, (AVal.sc (Value.int IntKind.i64 (i))))]) (fun i σ' => i ≤ k.length ∧ b3 < σ'.next ∧ σ'.get 0 = some (.cells 2 [.agg [(AVal.sc (Value.slice none 0 0)), (AVal.sc (Value.slice none 0 0))]]) ∧ σ'.get q = some (.cells 2 [.agg [.slice b1 0 k.length, .slice b2 0 k.length]]) ∧ σ'.get b1 = some (.cells 1 L1) ∧ σ'.get b2 = some (.cells 1 ((mixG (rkV rs k.length) (List.replicate k.length (0 : Int)) i).map iA)) ∧ σ'.get b3 = some (.cells 2 L3)) (fun i => k.length - i) (fun _ => rfl) 0 ?_ ?_ ?_)
      · (repeat' (first | exact trivial | refine ⟨rfl, ?_⟩))
      · exact ⟨Nat.zero_le _, AStore.lt_of_get g3, g0, gq, g1, by rw [mixg_zero]; exact g2, g3⟩
      clear g0 gq g1 g2 g3 τ
      rintro i τ ⟨hi, hnx, g0, gq, g1, g2, g3⟩
      simp (maxSteps := 500000) -implicitDefEqProofs only [go_sem]
      ((first | refine vz2 ?_ ?_ | refine vz3 ?_ ?_) <;> intro h2)
      · have hik : i < k.length := by omega
        have hix : (0 : Int) ≤ i ∧ (i : Int) < (k.length : Int) := ⟨by omega, by omega⟩
        have hw := wrapS (i := i) (by omega)
        have hx' := r3 i hik
        have okx := hr0 i hik
        have hrk : rkV rs k.length i = if (rs i).1 = 0 then 0 else 1 + (cntF rs (rs i) k.length : Int) := rfl
        obtain ⟨x, hxe⟩ : ∃ x, x = rs i := ⟨_, rfl⟩
        rw [← hxe] at hx' okx hrk
        obtain ⟨p, hp⟩ : ∃ p, p = τ.next := ⟨_, rfl⟩
        have hbp : b3 < p := by omega
        have y0 : ¬ 0 = p := by omega
        have y1 : ¬ b1 = p := by omega
        have y2 : ¬ b2 = p := by omega
        have y3 : ¬ b3 = p := by omega
        have yq : ¬ q = p := by omega
        have y1' : ¬ p = b1 := by omega
        have y2' : ¬ p = b2 := by omega
        have y3' : ¬ p = b3 := by omega
        have zi : (mixG (rkV rs k.length) (List.replicate k.length (0 : Int)) i)[i]? = some 0 := by rw [mixg_get, zat i hik]
        have hxw : ((mixG (rkV rs k.length) (List.replicate k.length (0 : Int)) i).map iA)[i]? = some (iA 0) := by rw [List.getElem?_map, zi]; rfl
        have lw : (mixG (rkV rs k.length) (List.replicate k.length (0 : Int)) i).length = k.length := by rw [mixg_len (by omega), lz]
        obtain ⟨x1, x2⟩ := x
        by_cases a1 : x1 = 0
        · rw [if_pos a1] at hrk
          subst a1
          (repeat' first | ((first | refine vy1 ?_ ?_ | refine vy2 ?_ ?_ | refine vy3 ?_ ?_) <;> rintro ⟨hd, hq⟩ <;> first | (exfalso; omega) | simp (maxSteps := 500000) -implicitDefEqProofs only [go_sem, hd, g3, hx', hix, rA, ← hp, y3, hw] | skip) | refine vzt ?_ | refine vzf ?_ | refine vsb ?_ | refine vzb ?_ | refine vzq ?_ | simp (maxSteps := 500000) -implicitDefEqProofs only [go_sem, g3, hx', hix, rA, ← hp, y3, hw])
          refine ⟨i + 1, by dsimp only; omega, ⟨by omega, by simp only [set_next, alloc_next]; omega, ?_, ?_, ?_, ?_, ?_⟩, ?_⟩
          · simp (maxSteps := 500000) -implicitDefEqProofs only [go_sem, ← hp, g0, y0]
          · simp (maxSteps := 500000) -implicitDefEqProofs only [go_sem, ← hp, gq, yq]
          · simp (maxSteps := 500000) -implicitDefEqProofs only [go_sem, ← hp, g1, y1]
          · rw [mixg_keep (zat i hik) hrk.symm]; simp (maxSteps := 500000) -implicitDefEqProofs only [go_sem, ← hp, g2, y2]
          · simp (maxSteps := 500000) -implicitDefEqProofs only [go_sem, ← hp, g3, y3]
          · (repeat' (first | exact trivial | refine ⟨rfl, ?_⟩))
        rw [if_neg a1] at hrk
        obtain ⟨R1, hR1⟩ : ∃ R1, R1 = mixG (rkV rs k.length) (List.replicate k.length (0 : Int)) i := ⟨_, rfl⟩
        rw [← hR1] at g2 hxw zi lw
        have hxv : ∀ v : Int, ((R1.set i v).map iA)[i]? = some (iA v) := fun v => by rw [List.getElem?_map, List.getElem?_set, if_pos rfl, if_pos (by omega)]; rfl
        have hst1 : (R1.map iA).set i (.sc (.int .i64 1)) = (R1.set i 1).map iA := by rw [List.map_set]; rfl
        have hst : ∀ v u : Int, ((R1.set i v).map iA).set i (.sc (.int .i64 u)) = (R1.set i u).map iA := fun v u => by rw [show (AVal.sc (.int .i64 u)) = iA u from rfl, ← List.map_set, List.set_set]
        (repeat' first | ((first | refine vy1 ?_ ?_ | refine vy2 ?_ ?_ | refine vy3 ?_ ?_) <;> rintro ⟨hd, hq⟩ <;> first | (exfalso; omega) | simp (maxSteps := 500000) -implicitDefEqProofs only [go_sem, hd, g3, gq, g2, hx', hix, rA, ← hp, y3, hw, dcf a1, yq, y2, hxw, iA, hst1] | skip) | refine vzt ?_ | refine vzf ?_ | refine vsb ?_ | refine vzb ?_ | refine vzq ?_ | simp (maxSteps := 500000) -implicitDefEqProofs only [go_sem, g3, gq, g2, hx', hix, rA, ← hp, y3, hw, dcf a1, yq, y2, hxw, iA, hst1])
        (first | refine Z_block_loop (ι := Nat) (fun j => [(4, .ptr 0 0 0), (5, (AVal.sc (Value.int IntKind.i64 (0)))), (6, .ptr q 0 0), (7, .slice b3 0 k.length), (10, .func (.func 29) [] []), (118, .slice b3 0 k.length), (119, (AVal.sc (Value.int IntKind.i64 (k.length)))), (120, (AVal.sc (Value.int IntKind.i64 (i)))), (11, (AVal.sc (Value.int IntKind.i64 (i)))), (12, .ptr p 0 0), (132, .slice b3 0 k.length), (133, (AVal.sc (Value.int IntKind.i64 (k.length)))), (134, (AVal.sc (Value.int IntKind.i64 (j))))]) (fun j σ' => j ≤ k.length ∧ p < σ'.next ∧ σ'.get 0 = some (.cells 2 [.agg [(AVal.sc (Value.slice none 0 0)), (AVal.sc (Value.slice none 0 0))]]) ∧ σ'.get q = some (.cells 2 [.agg [.slice b1 0 k.length, .slice b2 0 k.length]]) ∧ σ'.get b1 = some (.cells 1 L1) ∧ σ'.get b2 = some (.cells 1 ((R1.set i (1 + (cntF rs (x1, x2) j : Int))).map iA)) ∧ σ'.get b3 = some (.cells 2 L3) ∧ σ'.get p = some (.cells 2 [.agg [(AVal.sc (Value.int IntKind.i64 (x1))), (AVal.sc (Value.int IntKind.i64 (x2)))]])) (fun j => k.length - j) (fun _ => rfl) 0 ?_ ?_ ?_ | refine Z_seq_loop (ι := Nat) (fun j => [(4, .ptr 0 0 0), (5, (AVal.sc (Value.int IntKind.i64 (0)))), (6, .ptr q 0 0), (7, .slice b3 0 k.length), (10, .func (.func 29) [] []), (118, .slice b3 0 k.length), (119, (AVal.sc (Value.int IntKind.i64 (k.length)))), (120, (AVal.sc (Value.int IntKind.i64 (i)))), (11, (AVal.sc (Value.int IntKind.i64 (i)))), (12, .ptr p 0 0), (132, .slice b3 0 k.length), (133, (AVal.sc (Value.int IntKind.i64 (k.length)))), (134, (AVal.sc (Value.int IntKind.i64 (j))))]) (fun j σ' => j ≤ k.length ∧ p < σ'.next ∧ σ'.get 0 = some (.cells 2 [.agg [(AVal.sc (Value.slice none 0 0)), (AVal.sc (Value.slice none 0 0))]]) ∧ σ'.get q = some (.cells 2 [.agg [.slice b1 0 k.length, .slice b2 0 k.length]]) ∧ σ'.get b1 = some (.cells 1 L1) ∧ σ'.get b2 = some (.cells 1 ((R1.set i (1 + (cntF rs (x1, x2) j : Int))).map iA)) ∧ σ'.get b3 = some (.cells 2 L3) ∧ σ'.get p = some (.cells 2 [.agg [(AVal.sc (Value.int IntKind.i64 (x1))), (AVal.sc (Value.int IntKind.i64 (x2)))]])) (fun j => k.length - j) (fun _ => rfl) 0 ?_ ?_ ?_ | refine Z_loop (ι := Nat) (fun j => [(4, .ptr 0 0 0), (5, (AVal.sc (Value.int IntKind.i64 (0)))), (6, .ptr q 0 0), (7, .slice b3 0 k.length), (10, .func (.func 29) [] []), (118, .slice b3 0 k.length), (119, (AVal.sc (Value.int IntKind.i64 (k.length)))), (120, (AVal.sc (Value.int IntKind.i64 (i)))), (11, (AVal.sc (Value.int IntKind.i64 (i)))), (12, .ptr p 0 0), (132, .slice b3 0 k.length), (133, (AVal.sc (Value.int IntKind.i64 (k.length)))), (134, (AVal.sc (Value.int IntKind.i64 (j))))]) (fun j σ' => j ≤ k.length ∧ p < σ'.next ∧ σ'.get 0 = some (.cells 2 [.agg [(AVal.sc (Value.slice none 0 0)), (AVal.sc (Value.slice none 0 0))]]) ∧ σ'.get q = some (.cells 2 [.agg [.slice b1 0 k.length, .slice b2 0 k.length]]) ∧ σ'.get b1 = some (.cells 1 L1) ∧ σ'.get b2 = some (.cells 1 ((R1.set i (1 + (cntF rs (x1, x2) j : Int))).map iA)) ∧ σ'.get b3 = some (.cells 2 L3) ∧ σ'.get p = some (.cells 2 [.agg [(AVal.sc (Value.int IntKind.i64 (x1))), (AVal.sc (Value.int IntKind.i64 (x2)))]])) (fun j => k.length - j) (fun _ => rfl) 0 ?_ ?_ ?_)
        · (repeat' (first | exact trivial | refine ⟨rfl, ?_⟩))
        · have u2 := AStore.lt_of_get g2
          refine ⟨Nat.zero_le _, by simp only [set_next, alloc_next]; omega, ?_, ?_, ?_, ?_, ?_, ?_⟩
          · simp (maxSteps := 500000) -implicitDefEqProofs only [go_sem, ← hp, g0, y0, o2]
          · simp (maxSteps := 500000) -implicitDefEqProofs only [go_sem, ← hp, gq, yq, n2']
          · simp (maxSteps := 500000) -implicitDefEqProofs only [go_sem, ← hp, g1, y1, ne]
          · simp (maxSteps := 500000) -implicitDefEqProofs only [go_sem, ← hp]; rw [if_pos (by omega)]; rfl
          · simp (maxSteps := 500000) -implicitDefEqProofs only [go_sem, ← hp, g3, y3, m2]
          · simp (maxSteps := 500000) -implicitDefEqProofs only [go_sem, ← hp, y2']
        clear g0 gq g1 g2 g3 hnx hp τ
        rintro j τ ⟨hj, hnx, g0, gq, g1, g2, g3, gp⟩
        simp (maxSteps := 500000) -implicitDefEqProofs only [go_sem]
        ((first | refine vz2 ?_ ?_ | refine vz3 ?_ ?_) <;> intro h3)
        · have hjk : j < k.length := by omega
          have hjx : (0 : Int) ≤ j ∧ (j : Int) < (k.length : Int) := ⟨by omega, by omega⟩
          have hwj := wrapS (i := j) (by omega)
          have hy' := r3 j hjk
          have oky := hr0 j hjk
          have hcn : cntF rs (x1, x2) (j + 1) = cntF rs (x1, x2) j + if 0 < (rs j).1 ∧ ltF (rs j) (x1, x2) ∧ newF rs j then 1 else 0 := rfl
          have hle := cntF_le rs (x1, x2) j
          have hwc : IntKind.i64.wrap (1 + (cntF rs (x1, x2) j : Int) + 1) = 1 + (cntF rs (x1, x2) j : Int) + 1 := wrap64 (by omega) (by omega)
          obtain ⟨p2, hp2⟩ : ∃ p2, p2 = τ.next := ⟨_, rfl⟩
          have hpp2 : p < p2 := by omega
          have s0 : ¬ 0 = p2 := by omega
          have s1 : ¬ b1 = p2 := by omega
          have s2 : ¬ b2 = p2 := by omega
          have s3 : ¬ b3 = p2 := by omega
          have sq : ¬ q = p2 := by omega
          have sp : ¬ p = p2 := by omega
          have s2' : ¬ p2 = b2 := by omega
          have s3' : ¬ p2 = b3 := by omega
          have sp' : ¬ p2 = p := by omega
          have lC := lessC (w := w) (rs j) (x1, x2) oky okx
          obtain ⟨⟨v1, v2⟩, hye⟩ : ∃ y, y = rs j := ⟨_, rfl⟩
          have hcT : (0 < (v1, v2).1 ∧ ltF (v1, v2) (x1, x2) ∧ newF rs j) → cntF rs (x1, x2) (j + 1) = cntF rs (x1, x2) j + 1 := fun h => by
            rw [hye] at h
            show cntF rs (x1, x2) j + (if _ then 1 else 0) = _
            rw [if_pos h]
          have hcF : ¬ (0 < (v1, v2).1 ∧ ltF (v1, v2) (x1, x2) ∧ newF rs j) → cntF rs (x1, x2) (j + 1) = cntF rs (x1, x2) j := fun h => by
            rw [hye] at h
            show cntF rs (x1, x2) j + (if _ then 1 else 0) = _
            rw [if_neg h]; rfl
          clear hcn
          rw [← hye] at hy' oky lC
          have hru : ((R1.set i (1 + (cntF rs (x1, x2) j : Int))).map iA)[i]? = some (iA (1 + (cntF rs (x1, x2) j : Int))) := hxv _
          simp only [rA] at lC
          have base : ∀ sm : Bool, (sm = true ↔ 0 < v1 ∧ ltF (v1, v2) (x1, x2)) →
              ∀ (S0 : Ev) (σ0 : AStore), True := fun _ _ _ _ => trivial
          clear base
          by_cases c1 : 0 < v1
          · by_cases c2 : ltF (v1, v2) (x1, x2)
            · rw [dct c2] at lC
              (repeat' first | ((first | refine vy1 ?_ ?_ | refine vy2 ?_ ?_ | refine vy3 ?_ ?_) <;> rintro ⟨hd, hq⟩ <;> first | (exfalso; omega) | simp (maxSteps := 500000) -implicitDefEqProofs only [go_sem, hd, g3, hy', hjx, rA, ← hp2, s3, sp, gp, sp', dct c1, fnL] | skip) | refine vzt ?_ | refine vzf ?_ | refine vsb ?_ | refine vzb ?_ | refine vzq ?_ | simp (maxSteps := 500000) -implicitDefEqProofs only [go_sem, g3, hy', hjx, rA, ← hp2, s3, sp, gp, sp', dct c1, fnL])
              refine lC.use ?_
              (repeat' first | ((first | refine vy1 ?_ ?_ | refine vy2 ?_ ?_ | refine vy3 ?_ ?_) <;> rintro ⟨hd, hq⟩ <;> first | (exfalso; omega) | simp (maxSteps := 500000) -implicitDefEqProofs only [go_sem, hd] | skip) | refine vzt ?_ | refine vzf ?_ | refine vsb ?_ | refine vzb ?_ | refine vzq ?_ | simp (maxSteps := 500000) -implicitDefEqProofs only [go_sem])
              (first | refine Z_block_loop (ι := Nat × Bool) (fun s => [(4, .ptr 0 0 0), (5, (AVal.sc (Value.int IntKind.i64 (0)))), (6, .ptr q 0 0), (7, .slice b3 0 k.length), (10, .func (.func 29) [] []), (118, .slice b3 0 k.length), (119, (AVal.sc (Value.int IntKind.i64 (k.length)))), (120, (AVal.sc (Value.int IntKind.i64 (i)))), (11, (AVal.sc (Value.int IntKind.i64 (i)))), (12, .ptr p 0 0), (132, .slice b3 0 k.length), (133, (AVal.sc (Value.int IntKind.i64 (k.length)))), (134, (AVal.sc (Value.int IntKind.i64 (j)))), (13, (AVal.sc (Value.int IntKind.i64 (j)))), (14, .ptr p2 0 0), (15, (AVal.sc (Value.bool (s.2)))), (16, (AVal.sc (Value.int IntKind.i64 (s.1))))]) (fun s σ' => s.1 ≤ j ∧ (s.2 = true ↔ (0 < (v1, v2).1 ∧ ltF (v1, v2) (x1, x2)) ∧ ∀ h, h < s.1 → ltF (rs h) (v1, v2) ∨ ltF (v1, v2) (rs h)) ∧ p2 < σ'.next ∧ σ'.get 0 = some (.cells 2 [.agg [(AVal.sc (Value.slice none 0 0)), (AVal.sc (Value.slice none 0 0))]]) ∧ σ'.get q = some (.cells 2 [.agg [.slice b1 0 k.length, .slice b2 0 k.length]]) ∧ σ'.get b1 = some (.cells 1 L1) ∧ σ'.get b2 = some (.cells 1 ((R1.set i (1 + (cntF rs (x1, x2) j : Int))).map iA)) ∧ σ'.get b3 = some (.cells 2 L3) ∧ σ'.get p = some (.cells 2 [.agg [(AVal.sc (Value.int IntKind.i64 (x1))), (AVal.sc (Value.int IntKind.i64 (x2)))]]) ∧ σ'.get p2 = some (.cells 2 [.agg [(AVal.sc (Value.int IntKind.i64 (v1))), (AVal.sc (Value.int IntKind.i64 (v2)))]])) (fun s => j - s.1) (fun _ => rfl) (0, true) ?_ ?_ ?_ | refine Z_seq_loop (ι := Nat × Bool) (fun s => [(4, .ptr 0 0 0), (5, (AVal.sc (Value.int IntKind.i64 (0)))), (6, .ptr q 0 0), (7, .slice b3 0 k.length), (10, .func (.func 29) [] []), (118, .slice b3 0 k.length), (119, (AVal.sc (Value.int IntKind.i64 (k.length)))), (120, (AVal.sc (Value.int IntKind.i64 (i)))), (11, (AVal.sc (Value.int IntKind.i64 (i)))), (12, .ptr p 0 0), (132, .slice b3 0 k.length), (133, (AVal.sc (Value.int IntKind.i64 (k.length)))), (134, (AVal.sc (Value.int IntKind.i64 (j)))), (13, (AVal.sc (Value.int IntKind.i64 (j)))), (14, .ptr p2 0 0), (15, (AVal.sc (Value.bool (s.2)))), (16, (AVal.sc (Value.int IntKind.i64 (s.1))))]) (fun s σ' => s.1 ≤ j ∧ (s.2 = true ↔ (0 < (v1, v2).1 ∧ ltF (v1, v2) (x1, x2)) ∧ ∀ h, h < s.1 → ltF (rs h) (v1, v2) ∨ ltF (v1, v2) (rs h)) ∧ p2 < σ'.next ∧ σ'.get 0 = some (.cells 2 [.agg [(AVal.sc (Value.slice none 0 0)), (AVal.sc (Value.slice none 0 0))]]) ∧ σ'.get q = some (.cells 2 [.agg [.slice b1 0 k.length, .slice b2 0 k.length]]) ∧ σ'.get b1 = some (.cells 1 L1) ∧ σ'.get b2 = some (.cells 1 ((R1.set i (1 + (cntF rs (x1, x2) j : Int))).map iA)) ∧ σ'.get b3 = some (.cells 2 L3) ∧ σ'.get p = some (.cells 2 [.agg [(AVal.sc (Value.int IntKind.i64 (x1))), (AVal.sc (Value.int IntKind.i64 (x2)))]]) ∧ σ'.get p2 = some (.cells 2 [.agg [(AVal.sc (Value.int IntKind.i64 (v1))), (AVal.sc (Value.int IntKind.i64 (v2)))]])) (fun s => j - s.1) (fun _ => rfl) (0, true) ?_ ?_ ?_ | refine Z_loop (ι := Nat × Bool) (fun s => [(4, .ptr 0 0 0), (5, (AVal.sc (Value.int IntKind.i64 (0)))), (6, .ptr q 0 0), (7, .slice b3 0 k.length), (10, .func (.func 29) [] []), (118, .slice b3 0 k.length), (119, (AVal.sc (Value.int IntKind.i64 (k.length)))), (120, (AVal.sc (Value.int IntKind.i64 (i)))), (11, (AVal.sc (Value.int IntKind.i64 (i)))), (12, .ptr p 0 0), (132, .slice b3 0 k.length), (133, (AVal.sc (Value.int IntKind.i64 (k.length)))), (134, (AVal.sc (Value.int IntKind.i64 (j)))), (13, (AVal.sc (Value.int IntKind.i64 (j)))), (14, .ptr p2 0 0), (15, (AVal.sc (Value.bool (s.2)))), (16, (AVal.sc (Value.int IntKind.i64 (s.1))))]) (fun s σ' => s.1 ≤ j ∧ (s.2 = true ↔ (0 < (v1, v2).1 ∧ ltF (v1, v2) (x1, x2)) ∧ ∀ h, h < s.1 → ltF (rs h) (v1, v2) ∨ ltF (v1, v2) (rs h)) ∧ p2 < σ'.next ∧ σ'.get 0 = some (.cells 2 [.agg [(AVal.sc (Value.slice none 0 0)), (AVal.sc (Value.slice none 0 0))]]) ∧ σ'.get q = some (.cells 2 [.agg [.slice b1 0 k.length, .slice b2 0 k.length]]) ∧ σ'.get b1 = some (.cells 1 L1) ∧ σ'.get b2 = some (.cells 1 ((R1.set i (1 + (cntF rs (x1, x2) j : Int))).map iA)) ∧ σ'.get b3 = some (.cells 2 L3) ∧ σ'.get p = some (.cells 2 [.agg [(AVal.sc (Value.int IntKind.i64 (x1))), (AVal.sc (Value.int IntKind.i64 (x2)))]]) ∧ σ'.get p2 = some (.cells 2 [.agg [(AVal.sc (Value.int IntKind.i64 (v1))), (AVal.sc (Value.int IntKind.i64 (v2)))]])) (fun s => j - s.1) (fun _ => rfl) (0, true) ?_ ?_ ?_)
              · (repeat' (first | exact trivial | refine ⟨rfl, ?_⟩))
              · refine ⟨Nat.zero_le _, ?_, by simp only [set_next, alloc_next]; omega, ?_, ?_, ?_, ?_, ?_, ?_, ?_⟩
                · simp [c1, c2]
                · simp (maxSteps := 500000) -implicitDefEqProofs only [go_sem, ← hp2, g0, s0]
                · simp (maxSteps := 500000) -implicitDefEqProofs only [go_sem, ← hp2, gq, sq]
                · simp (maxSteps := 500000) -implicitDefEqProofs only [go_sem, ← hp2, g1, s1]
                · simp (maxSteps := 500000) -implicitDefEqProofs only [go_sem, ← hp2, g2, s2]
                · simp (maxSteps := 500000) -implicitDefEqProofs only [go_sem, ← hp2, g3, s3]
                · simp (maxSteps := 500000) -implicitDefEqProofs only [go_sem, ← hp2, gp, sp]
                · simp (maxSteps := 500000) -implicitDefEqProofs only [go_sem, ← hp2]
              clear g0 gq g1 g2 g3 gp hnx hp2 τ
              rintro ⟨h, sm⟩ τ ⟨hh, hsm, hnx, g0, gq, g1, g2, g3, gp, gp2⟩
              dsimp only at hh hsm ⊢
              by_cases d1 : h < j
              · have hhx : (0 : Int) ≤ h ∧ (h : Int) < (k.length : Int) := ⟨by omega, by omega⟩
                have hz' := r3 h (by omega)
                have okz := hr0 h (by omega)
                have lC1 := lessC (w := w) (rs h) (v1, v2) okz oky
                have lC2 := lessC (w := w) (v1, v2) (rs h) oky okz
                have hwh := wrapS (i := h) (by omega)
                obtain ⟨⟨z1, z2⟩, hze⟩ : ∃ z, z = rs h := ⟨_, rfl⟩
                rw [← hze] at hz' lC1 lC2
                simp only [rA] at lC1 lC2
                have d1' : (h : Int) < (j : Int) := by omega
                have nxt : ∀ sm', (sm' = true ↔ sm = true ∧ (ltF (z1, z2) (v1, v2) ∨ ltF (v1, v2) (z1, z2))) → (sm' = true ↔ (0 < (v1, v2).1 ∧ ltF (v1, v2) (x1, x2)) ∧ ∀ h', h' < h + 1 → ltF (rs h') (v1, v2) ∨ ltF (v1, v2) (rs h')) := by
                  intro sm' hs
                  rw [hs, hsm]
                  constructor
                  · rintro ⟨⟨e1, e2⟩, e3⟩
                    refine ⟨e1, fun h' hh' => ?_⟩
                    rcases Nat.lt_or_ge h' h with l | l
                    · exact e2 h' l
                    · obtain rfl : h' = h := by omega
                      rw [← hze]; exact e3
                  · rintro ⟨e1, e2⟩
                    exact ⟨⟨e1, fun h' hh' => e2 h' (by omega)⟩, by have := e2 h (by omega); rwa [← hze] at this⟩
                cases sm with
                | false =>
                  have nn : ¬ (0 < (v1, v2).1 ∧ ltF (v1, v2) (x1, x2) ∧ newF rs j) := fun hc => by
                    have := hsm.2 ⟨⟨hc.1, hc.2.1⟩, fun h' hh' => by have := hc.2.2 h' (by omega); rwa [← hye] at this⟩
                    cases this
                  simp (maxSteps := 500000) -implicitDefEqProofs only [go_sem, dct d1']
                  (repeat' first | ((first | refine vy1 ?_ ?_ | refine vy2 ?_ ?_ | refine vy3 ?_ ?_) <;> rintro ⟨hd, hq⟩ <;> first | (exfalso; omega) | simp (maxSteps := 500000) -implicitDefEqProofs only [go_sem, hd, hwj] | skip) | refine vzt ?_ | refine vzf ?_ | refine vsb ?_ | refine vzb ?_ | refine vzq ?_ | simp (maxSteps := 500000) -implicitDefEqProofs only [go_sem, hwj])
                  refine ⟨j + 1, by dsimp only; omega, ⟨by omega, by omega, g0, gq, g1, by rw [hcF nn]; exact g2, g3, gp⟩, ?_⟩
                  (repeat' (first | exact trivial | refine ⟨rfl, ?_⟩))
                | true =>
                  simp (maxSteps := 500000) -implicitDefEqProofs only [go_sem, dct d1']
                  (repeat' first | ((first | refine vy1 ?_ ?_ | refine vy2 ?_ ?_ | refine vy3 ?_ ?_) <;> rintro ⟨hd, hq⟩ <;> first | (exfalso; omega) | simp (maxSteps := 500000) -implicitDefEqProofs only [go_sem, hd] | skip) | refine vzt ?_ | refine vzf ?_ | refine vsb ?_ | refine vzb ?_ | refine vzq ?_ | simp (maxSteps := 500000) -implicitDefEqProofs only [go_sem])
                  ((try (refine Z_seq ?_; (try simp (maxSteps := 500000) -implicitDefEqProofs only [go_sem]))); refine Z_draw (by kernel_rfl) [0, 1, 2, 3, 4, 5, 6, 7, 8, 9, 10, 11, 12, 13, 14, 15, 16] [(16, 65535), (15, 32767), (14, 16383), (13, 7423), (12, 3327), (11, 255), (10, 255), (9, 255), (8, 255), (7, 127), (6, 63), (5, 0), (4, 14), (3, 6), (2, 0), (1, 0), (0, 0)] (by kernel_rfl) (by kernel_rfl) ?_)
                  simp (maxSteps := 500000) -implicitDefEqProofs only [go_sem, g3, hz', hhx, rA, gp2, fnL]
                  refine lC1.useD ?_
                  by_cases f1 : ltF (z1, z2) (v1, v2)
                  · rw [dct f1]
                    simp (maxSteps := 500000) -implicitDefEqProofs only [go_sem]
                    (repeat' first | ((first | refine vy1 ?_ ?_ | refine vy2 ?_ ?_ | refine vy3 ?_ ?_) <;> rintro ⟨hd, hq⟩ <;> first | (exfalso; omega) | simp (maxSteps := 500000) -implicitDefEqProofs only [go_sem, hd, hwh] | skip) | refine vzt ?_ | refine vzf ?_ | refine vsb ?_ | refine vzb ?_ | refine vzq ?_ | simp (maxSteps := 500000) -implicitDefEqProofs only [go_sem, hwh])
                    refine ⟨(h + 1, true), by dsimp only; omega, ⟨by dsimp only; omega, nxt true (by simp [f1]), hnx, g0, gq, g1, g2, g3, gp, gp2⟩, ?_⟩
                    (repeat' (first | exact trivial | refine ⟨rfl, ?_⟩))
                  · rw [dcf f1]
                    simp (maxSteps := 500000) -implicitDefEqProofs only [go_sem, g3, hz', hhx, rA, gp2, fnL]
                    refine lC2.useD ?_
                    by_cases f2 : ltF (v1, v2) (z1, z2)
                    · rw [dct f2]
                      simp (maxSteps := 500000) -implicitDefEqProofs only [go_sem]
                      (repeat' first | ((first | refine vy1 ?_ ?_ | refine vy2 ?_ ?_ | refine vy3 ?_ ?_) <;> rintro ⟨hd, hq⟩ <;> first | (exfalso; omega) | simp (maxSteps := 500000) -implicitDefEqProofs only [go_sem, hd, hwh] | skip) | refine vzt ?_ | refine vzf ?_ | refine vsb ?_ | refine vzb ?_ | refine vzq ?_ | simp (maxSteps := 500000) -implicitDefEqProofs only [go_sem, hwh])
                      refine ⟨(h + 1, true), by dsimp only; omega, ⟨by dsimp only; omega, nxt true (by simp [f2]), hnx, g0, gq, g1, g2, g3, gp, gp2⟩, ?_⟩
                      (repeat' (first | exact trivial | refine ⟨rfl, ?_⟩))
                    · rw [dcf f2]
                      simp (maxSteps := 500000) -implicitDefEqProofs only [go_sem]
                      (repeat' first | ((first | refine vy1 ?_ ?_ | refine vy2 ?_ ?_ | refine vy3 ?_ ?_) <;> rintro ⟨hd, hq⟩ <;> first | (exfalso; omega) | simp (maxSteps := 500000) -implicitDefEqProofs only [go_sem, hd, hwh] | skip) | refine vzt ?_ | refine vzf ?_ | refine vsb ?_ | refine vzb ?_ | refine vzq ?_ | simp (maxSteps := 500000) -implicitDefEqProofs only [go_sem, hwh])
                      refine ⟨(h + 1, false), by dsimp only; omega, ⟨by dsimp only; omega, nxt false (by simp [f1, f2]), hnx, g0, gq, g1, g2, g3, gp, gp2⟩, ?_⟩
                      (repeat' (first | exact trivial | refine ⟨rfl, ?_⟩))
              · obtain rfl : h = j := by omega
                have d1' : ¬ (h : Int) < (h : Int) := by omega
                have u2 := AStore.lt_of_get g2
                cases sm with
                | false =>
                  have nn : ¬ (0 < (v1, v2).1 ∧ ltF (v1, v2) (x1, x2) ∧ newF rs h) := fun hc => by
                    have := hsm.2 ⟨⟨hc.1, hc.2.1⟩, fun h' hh' => by have := hc.2.2 h' (by omega); rwa [← hye] at this⟩
                    cases this
                  simp (maxSteps := 500000) -implicitDefEqProofs only [go_sem, dcf d1']
                  (repeat' first | ((first | refine vy1 ?_ ?_ | refine vy2 ?_ ?_ | refine vy3 ?_ ?_) <;> rintro ⟨hd, hq⟩ <;> first | (exfalso; omega) | simp (maxSteps := 500000) -implicitDefEqProofs only [go_sem, hd, hwj] | skip) | refine vzt ?_ | refine vzf ?_ | refine vsb ?_ | refine vzb ?_ | refine vzq ?_ | simp (maxSteps := 500000) -implicitDefEqProofs only [go_sem, hwj])
                  refine ⟨h + 1, by dsimp only; omega, ⟨by omega, by omega, g0, gq, g1, by rw [hcF nn]; exact g2, g3, gp⟩, ?_⟩
                  (repeat' (first | exact trivial | refine ⟨rfl, ?_⟩))
                | true =>
                  have nn : 0 < (v1, v2).1 ∧ ltF (v1, v2) (x1, x2) ∧ newF rs h := by
                    obtain ⟨e1, e2⟩ := hsm.1 rfl
                    exact ⟨e1.1, e1.2, fun h' hh' => by have := e2 h' hh'; rwa [hye] at this⟩
                  simp (maxSteps := 500000) -implicitDefEqProofs only [go_sem, dcf d1']
                  (repeat' first | ((first | refine vy1 ?_ ?_ | refine vy2 ?_ ?_ | refine vy3 ?_ ?_) <;> rintro ⟨hd, hq⟩ <;> first | (exfalso; omega) | simp (maxSteps := 500000) -implicitDefEqProofs only [go_sem, hd, gq, g2, hru, hix, iA, hwc, hst, hwj] | skip) | refine vzt ?_ | refine vzf ?_ | refine vsb ?_ | refine vzb ?_ | refine vzq ?_ | simp (maxSteps := 500000) -implicitDefEqProofs only [go_sem, gq, g2, hru, hix, iA, hwc, hst, hwj])
                  refine ⟨h + 1, by dsimp only; omega, ⟨by omega, by simp only [set_next]; omega, ?_, ?_, ?_, ?_, ?_, ?_⟩, ?_⟩
                  · simp (maxSteps := 500000) -implicitDefEqProofs only [go_sem, g0, o2]
                  · simp (maxSteps := 500000) -implicitDefEqProofs only [go_sem, gq, n2']
                  · simp (maxSteps := 500000) -implicitDefEqProofs only [go_sem, g1, ne]
                  · rw [hcT nn]; simp (maxSteps := 500000) -implicitDefEqProofs only [go_sem, u2]; rfl
                  · simp (maxSteps := 500000) -implicitDefEqProofs only [go_sem, g3, m2]
                  · simp (maxSteps := 500000) -implicitDefEqProofs only [go_sem, gp, y2']
                  · (repeat' (first | exact trivial | refine ⟨rfl, ?_⟩))
            · rw [dcf c2] at lC
              (repeat' first | ((first | refine vy1 ?_ ?_ | refine vy2 ?_ ?_ | refine vy3 ?_ ?_) <;> rintro ⟨hd, hq⟩ <;> first | (exfalso; omega) | simp (maxSteps := 500000) -implicitDefEqProofs only [go_sem, hd, g3, hy', hjx, rA, ← hp2, s3, sp, gp, sp', dct c1, fnL] | skip) | refine vzt ?_ | refine vzf ?_ | refine vsb ?_ | refine vzb ?_ | refine vzq ?_ | simp (maxSteps := 500000) -implicitDefEqProofs only [go_sem, g3, hy', hjx, rA, ← hp2, s3, sp, gp, sp', dct c1, fnL])
              refine lC.use ?_
              (repeat' first | ((first | refine vy1 ?_ ?_ | refine vy2 ?_ ?_ | refine vy3 ?_ ?_) <;> rintro ⟨hd, hq⟩ <;> first | (exfalso; omega) | simp (maxSteps := 500000) -implicitDefEqProofs only [go_sem, hd] | skip) | refine vzt ?_ | refine vzf ?_ | refine vsb ?_ | refine vzb ?_ | refine vzq ?_ | simp (maxSteps := 500000) -implicitDefEqProofs only [go_sem])
              (first | refine Z_block_loop (ι := Nat × Bool) (fun s => [(4, .ptr 0 0 0), (5, (AVal.sc (Value.int IntKind.i64 (0)))), (6, .ptr q 0 0), (7, .slice b3 0 k.length), (10, .func (.func 29) [] []), (118, .slice b3 0 k.length), (119, (AVal.sc (Value.int IntKind.i64 (k.length)))), (120, (AVal.sc (Value.int IntKind.i64 (i)))), (11, (AVal.sc (Value.int IntKind.i64 (i)))), (12, .ptr p 0 0), (132, .slice b3 0 k.length), (133, (AVal.sc (Value.int IntKind.i64 (k.length)))), (134, (AVal.sc (Value.int IntKind.i64 (j)))), (13, (AVal.sc (Value.int IntKind.i64 (j)))), (14, .ptr p2 0 0), (15, (AVal.sc (Value.bool (s.2)))), (16, (AVal.sc (Value.int IntKind.i64 (s.1))))]) (fun s σ' => s.1 ≤ j ∧ (s.2 = true ↔ (0 < (v1, v2).1 ∧ ltF (v1, v2) (x1, x2)) ∧ ∀ h, h < s.1 → ltF (rs h) (v1, v2) ∨ ltF (v1, v2) (rs h)) ∧ p2 < σ'.next ∧ σ'.get 0 = some (.cells 2 [.agg [(AVal.sc (Value.slice none 0 0)), (AVal.sc (Value.slice none 0 0))]]) ∧ σ'.get q = some (.cells 2 [.agg [.slice b1 0 k.length, .slice b2 0 k.length]]) ∧ σ'.get b1 = some (.cells 1 L1) ∧ σ'.get b2 = some (.cells 1 ((R1.set i (1 + (cntF rs (x1, x2) j : Int))).map iA)) ∧ σ'.get b3 = some (.cells 2 L3) ∧ σ'.get p = some (.cells 2 [.agg [(AVal.sc (Value.int IntKind.i64 (x1))), (AVal.sc (Value.int IntKind.i64 (x2)))]]) ∧ σ'.get p2 = some (.cells 2 [.agg [(AVal.sc (Value.int IntKind.i64 (v1))), (AVal.sc (Value.int IntKind.i64 (v2)))]])) (fun s => j - s.1) (fun _ => rfl) (0, false) ?_ ?_ ?_ | refine Z_seq_loop (ι := Nat × Bool) (fun s => [(4, .ptr 0 0 0), (5, (AVal.sc (Value.int IntKind.i64 (0)))), (6, .ptr q 0 0), (7, .slice b3 0 k.length), (10, .func (.func 29) [] []), (118, .slice b3 0 k.length), (119, (AVal.sc (Value.int IntKind.i64 (k.length)))), (120, (AVal.sc (Value.int IntKind.i64 (i)))), (11, (AVal.sc (Value.int IntKind.i64 (i)))), (12, .ptr p 0 0), (132, .slice b3 0 k.length), (133, (AVal.sc (Value.int IntKind.i64 (k.length)))), (134, (AVal.sc (Value.int IntKind.i64 (j)))), (13, (AVal.sc (Value.int IntKind.i64 (j)))), (14, .ptr p2 0 0), (15, (AVal.sc (Value.bool (s.2)))), (16, (AVal.sc (Value.int IntKind.i64 (s.1))))]) (fun s σ' => s.1 ≤ j ∧ (s.2 = true ↔ (0 < (v1, v2).1 ∧ ltF (v1, v2) (x1, x2)) ∧ ∀ h, h < s.1 → ltF (rs h) (v1, v2) ∨ ltF (v1, v2) (rs h)) ∧ p2 < σ'.next ∧ σ'.get 0 = some (.cells 2 [.agg [(AVal.sc (Value.slice none 0 0)), (AVal.sc (Value.slice none 0 0))]]) ∧ σ'.get q = some (.cells 2 [.agg [.slice b1 0 k.length, .slice b2 0 k.length]]) ∧ σ'.get b1 = some (.cells 1 L1) ∧ σ'.get b2 = some (.cells 1 ((R1.set i (1 + (cntF rs (x1, x2) j : Int))).map iA)) ∧ σ'.get b3 = some (.cells 2 L3) ∧ σ'.get p = some (.cells 2 [.agg [(AVal.sc (Value.int IntKind.i64 (x1))), (AVal.sc (Value.int IntKind.i64 (x2)))]]) ∧ σ'.get p2 = some (.cells 2 [.agg [(AVal.sc (Value.int IntKind.i64 (v1))), (AVal.sc (Value.int IntKind.i64 (v2)))]])) (fun s => j - s.1) (fun _ => rfl) (0, false) ?_ ?_ ?_ | refine Z_loop (ι := Nat × Bool) (fun s => [(4, .ptr 0 0 0), (5, (AVal.sc (Value.int IntKind.i64 (0)))), (6, .ptr q 0 0), (7, .slice b3 0 k.length), (10, .func (.func 29) [] []), (118, .slice b3 0 k.length), (119, (AVal.sc (Value.int IntKind.i64 (k.length)))), (120, (AVal.sc (Value.int IntKind.i64 (i)))), (11, (AVal.sc (Value.int IntKind.i64 (i)))), (12, .ptr p 0 0), (132, .slice b3 0 k.length), (133, (AVal.sc (Value.int IntKind.i64 (k.length)))), (134, (AVal.sc (Value.int IntKind.i64 (j)))), (13, (AVal.sc (Value.int IntKind.i64 (j)))), (14, .ptr p2 0 0), (15, (AVal.sc (Value.bool (s.2)))), (16, (AVal.sc (Value.int IntKind.i64 (s.1))))]) (fun s σ' => s.1 ≤ j ∧ (s.2 = true ↔ (0 < (v1, v2).1 ∧ ltF (v1, v2) (x1, x2)) ∧ ∀ h, h < s.1 → ltF (rs h) (v1, v2) ∨ ltF (v1, v2) (rs h)) ∧ p2 < σ'.next ∧ σ'.get 0 = some (.cells 2 [.agg [(AVal.sc (Value.slice none 0 0)), (AVal.sc (Value.slice none 0 0))]]) ∧ σ'.get q = some (.cells 2 [.agg [.slice b1 0 k.length, .slice b2 0 k.length]]) ∧ σ'.get b1 = some (.cells 1 L1) ∧ σ'.get b2 = some (.cells 1 ((R1.set i (1 + (cntF rs (x1, x2) j : Int))).map iA)) ∧ σ'.get b3 = some (.cells 2 L3) ∧ σ'.get p = some (.cells 2 [.agg [(AVal.sc (Value.int IntKind.i64 (x1))), (AVal.sc (Value.int IntKind.i64 (x2)))]]) ∧ σ'.get p2 = some (.cells 2 [.agg [(AVal.sc (Value.int IntKind.i64 (v1))), (AVal.sc (Value.int IntKind.i64 (v2)))]])) (fun s => j - s.1) (fun _ => rfl) (0, false) ?_ ?_ ?_)
              · (repeat' (first | exact trivial | refine ⟨rfl, ?_⟩))
              · refine ⟨Nat.zero_le _, ?_, by simp only [set_next, alloc_next]; omega, ?_, ?_, ?_, ?_, ?_, ?_, ?_⟩
                · simp [c1, c2]
                · simp (maxSteps := 500000) -implicitDefEqProofs only [go_sem, ← hp2, g0, s0]
                · simp (maxSteps := 500000) -implicitDefEqProofs only [go_sem, ← hp2, gq, sq]
                · simp (maxSteps := 500000) -implicitDefEqProofs only [go_sem, ← hp2, g1, s1]
                · simp (maxSteps := 500000) -implicitDefEqProofs only [go_sem, ← hp2, g2, s2]
                · simp (maxSteps := 500000) -implicitDefEqProofs only [go_sem, ← hp2, g3, s3]
                · simp (maxSteps := 500000) -implicitDefEqProofs only [go_sem, ← hp2, gp, sp]
                · simp (maxSteps := 500000) -implicitDefEqProofs only [go_sem, ← hp2]
              clear g0 gq g1 g2 g3 gp hnx hp2 τ
              rintro ⟨h, sm⟩ τ ⟨hh, hsm, hnx, g0, gq, g1, g2, g3, gp, gp2⟩
              dsimp only at hh hsm ⊢
              by_cases d1 : h < j
              · have hhx : (0 : Int) ≤ h ∧ (h : Int) < (k.length : Int) := ⟨by omega, by omega⟩
                have hz' := r3 h (by omega)
                have okz := hr0 h (by omega)
                have lC1 := lessC (w := w) (rs h) (v1, v2) okz oky
                have lC2 := lessC (w := w) (v1, v2) (rs h) oky okz
                have hwh := wrapS (i := h) (by omega)
                obtain ⟨⟨z1, z2⟩, hze⟩ : ∃ z, z = rs h := ⟨_, rfl⟩
                rw [← hze] at hz' lC1 lC2
                simp only [rA] at lC1 lC2
                have d1' : (h : Int) < (j : Int) := by omega
                have nxt : ∀ sm', (sm' = true ↔ sm = true ∧ (ltF (z1, z2) (v1, v2) ∨ ltF (v1, v2) (z1, z2))) → (sm' = true ↔ (0 < (v1, v2).1 ∧ ltF (v1, v2) (x1, x2)) ∧ ∀ h', h' < h + 1 → ltF (rs h') (v1, v2) ∨ ltF (v1, v2) (rs h')) := by
                  intro sm' hs
                  rw [hs, hsm]
                  constructor
                  · rintro ⟨⟨e1, e2⟩, e3⟩
                    refine ⟨e1, fun h' hh' => ?_⟩
                    rcases Nat.lt_or_ge h' h with l | l
                    · exact e2 h' l
                    · obtain rfl : h' = h := by omega
                      rw [← hze]; exact e3
                  · rintro ⟨e1, e2⟩
                    exact ⟨⟨e1, fun h' hh' => e2 h' (by omega)⟩, by have := e2 h (by omega); rwa [← hze] at this⟩
                cases sm with
                | false =>
                  have nn : ¬ (0 < (v1, v2).1 ∧ ltF (v1, v2) (x1, x2) ∧ newF rs j) := fun hc => by
                    have := hsm.2 ⟨⟨hc.1, hc.2.1⟩, fun h' hh' => by have := hc.2.2 h' (by omega); rwa [← hye] at this⟩
                    cases this
                  simp (maxSteps := 500000) -implicitDefEqProofs only [go_sem, dct d1']
                  (repeat' first | ((first | refine vy1 ?_ ?_ | refine vy2 ?_ ?_ | refine vy3 ?_ ?_) <;> rintro ⟨hd, hq⟩ <;> first | (exfalso; omega) | simp (maxSteps := 500000) -implicitDefEqProofs only [go_sem, hd, hwj] | skip) | refine vzt ?_ | refine vzf ?_ | refine vsb ?_ | refine vzb ?_ | refine vzq ?_ | simp (maxSteps := 500000) -implicitDefEqProofs only [go_sem, hwj])
                  refine ⟨j + 1, by dsimp only; omega, ⟨by omega, by omega, g0, gq, g1, by rw [hcF nn]; exact g2, g3, gp⟩, ?_⟩
                  (repeat' (first | exact trivial | refine ⟨rfl, ?_⟩))
                | true =>
                  simp (maxSteps := 500000) -implicitDefEqProofs only [go_sem, dct d1']
                  (repeat' first | ((first | refine vy1 ?_ ?_ | refine vy2 ?_ ?_ | refine vy3 ?_ ?_) <;> rintro ⟨hd, hq⟩ <;> first | (exfalso; omega) | simp (maxSteps := 500000) -implicitDefEqProofs only [go_sem, hd] | skip) | refine vzt ?_ | refine vzf ?_ | refine vsb ?_ | refine vzb ?_ | refine vzq ?_ | simp (maxSteps := 500000) -implicitDefEqProofs only [go_sem])
                  ((try (refine Z_seq ?_; (try simp (maxSteps := 500000) -implicitDefEqProofs only [go_sem]))); refine Z_draw (by kernel_rfl) [0, 1, 2, 3, 4, 5, 6, 7, 8, 9, 10, 11, 12, 13, 14, 15, 16] [(16, 65535), (15, 32767), (14, 16383), (13, 7423), (12, 3327), (11, 255), (10, 255), (9, 255), (8, 255), (7, 127), (6, 63), (5, 0), (4, 14), (3, 6), (2, 0), (1, 0), (0, 0)] (by kernel_rfl) (by kernel_rfl) ?_)
                  simp (maxSteps := 500000) -implicitDefEqProofs only [go_sem, g3, hz', hhx, rA, gp2, fnL]
                  refine lC1.useD ?_
                  by_cases f1 : ltF (z1, z2) (v1, v2)
                  · rw [dct f1]
                    simp (maxSteps := 500000) -implicitDefEqProofs only [go_sem]
                    (repeat' first | ((first | refine vy1 ?_ ?_ | refine vy2 ?_ ?_ | refine vy3 ?_ ?_) <;> rintro ⟨hd, hq⟩ <;> first | (exfalso; omega) | simp (maxSteps := 500000) -implicitDefEqProofs only [go_sem, hd, hwh] | skip) | refine vzt ?_ | refine vzf ?_ | refine vsb ?_ | refine vzb ?_ | refine vzq ?_ | simp (maxSteps := 500000) -implicitDefEqProofs only [go_sem, hwh])
                    refine ⟨(h + 1, true), by dsimp only; omega, ⟨by dsimp only; omega, nxt true (by simp [f1]), hnx, g0, gq, g1, g2, g3, gp, gp2⟩, ?_⟩
                    (repeat' (first | exact trivial | refine ⟨rfl, ?_⟩))
                  · rw [dcf f1]
                    simp (maxSteps := 500000) -implicitDefEqProofs only [go_sem, g3, hz', hhx, rA, gp2, fnL]
                    refine lC2.useD ?_
                    by_cases f2 : ltF (v1, v2) (z1, z2)
                    · rw [dct f2]
                      simp (maxSteps := 500000) -implicitDefEqProofs only [go_sem]
                      (repeat' first | ((first | refine vy1 ?_ ?_ | refine vy2 ?_ ?_ | refine vy3 ?_ ?_) <;> rintro ⟨hd, hq⟩ <;> first | (exfalso; omega) | simp (maxSteps := 500000) -implicitDefEqProofs only [go_sem, hd, hwh] | skip) | refine vzt ?_ | refine vzf ?_ | refine vsb ?_ | refine vzb ?_ | refine vzq ?_ | simp (maxSteps := 500000) -implicitDefEqProofs only [go_sem, hwh])
                      refine ⟨(h + 1, true), by dsimp only; omega, ⟨by dsimp only; omega, nxt true (by simp [f2]), hnx, g0, gq, g1, g2, g3, gp, gp2⟩, ?_⟩
                      (repeat' (first | exact trivial | refine ⟨rfl, ?_⟩))
                    · rw [dcf f2]
                      simp (maxSteps := 500000) -implicitDefEqProofs only [go_sem]
                      (repeat' first | ((first | refine vy1 ?_ ?_ | refine vy2 ?_ ?_ | refine vy3 ?_ ?_) <;> rintro ⟨hd, hq⟩ <;> first | (exfalso; omega) | simp (maxSteps := 500000) -implicitDefEqProofs only [go_sem, hd, hwh] | skip) | refine vzt ?_ | refine vzf ?_ | refine vsb ?_ | refine vzb ?_ | refine vzq ?_ | simp (maxSteps := 500000) -implicitDefEqProofs only [go_sem, hwh])
                      refine ⟨(h + 1, false), by dsimp only; omega, ⟨by dsimp only; omega, nxt false (by simp [f1, f2]), hnx, g0, gq, g1, g2, g3, gp, gp2⟩, ?_⟩
                      (repeat' (first | exact trivial | refine ⟨rfl, ?_⟩))
              · obtain rfl : h = j := by omega
                have d1' : ¬ (h : Int) < (h : Int) := by omega
                have u2 := AStore.lt_of_get g2
                cases sm with
                | false =>
                  have nn : ¬ (0 < (v1, v2).1 ∧ ltF (v1, v2) (x1, x2) ∧ newF rs h) := fun hc => by
                    have := hsm.2 ⟨⟨hc.1, hc.2.1⟩, fun h' hh' => by have := hc.2.2 h' (by omega); rwa [← hye] at this⟩
                    cases this
                  simp (maxSteps := 500000) -implicitDefEqProofs only [go_sem, dcf d1']
                  (repeat' first | ((first | refine vy1 ?_ ?_ | refine vy2 ?_ ?_ | refine vy3 ?_ ?_) <;> rintro ⟨hd, hq⟩ <;> first | (exfalso; omega) | simp (maxSteps := 500000) -implicitDefEqProofs only [go_sem, hd, hwj] | skip) | refine vzt ?_ | refine vzf ?_ | refine vsb ?_ | refine vzb ?_ | refine vzq ?_ | simp (maxSteps := 500000) -implicitDefEqProofs only [go_sem, hwj])
                  refine ⟨h + 1, by dsimp only; omega, ⟨by omega, by omega, g0, gq, g1, by rw [hcF nn]; exact g2, g3, gp⟩, ?_⟩
                  (repeat' (first | exact trivial | refine ⟨rfl, ?_⟩))
                | true =>
                  have nn : 0 < (v1, v2).1 ∧ ltF (v1, v2) (x1, x2) ∧ newF rs h := by
                    obtain ⟨e1, e2⟩ := hsm.1 rfl
                    exact ⟨e1.1, e1.2, fun h' hh' => by have := e2 h' hh'; rwa [hye] at this⟩
                  simp (maxSteps := 500000) -implicitDefEqProofs only [go_sem, dcf d1']
                  (repeat' first | ((first | refine vy1 ?_ ?_ | refine vy2 ?_ ?_ | refine vy3 ?_ ?_) <;> rintro ⟨hd, hq⟩ <;> first | (exfalso; omega) | simp (maxSteps := 500000) -implicitDefEqProofs only [go_sem, hd, gq, g2, hru, hix, iA, hwc, hst, hwj] | skip) | refine vzt ?_ | refine vzf ?_ | refine vsb ?_ | refine vzb ?_ | refine vzq ?_ | simp (maxSteps := 500000) -implicitDefEqProofs only [go_sem, gq, g2, hru, hix, iA, hwc, hst, hwj])
                  refine ⟨h + 1, by dsimp only; omega, ⟨by omega, by simp only [set_next]; omega, ?_, ?_, ?_, ?_, ?_, ?_⟩, ?_⟩
                  · simp (maxSteps := 500000) -implicitDefEqProofs only [go_sem, g0, o2]
                  · simp (maxSteps := 500000) -implicitDefEqProofs only [go_sem, gq, n2']
                  · simp (maxSteps := 500000) -implicitDefEqProofs only [go_sem, g1, ne]
                  · rw [hcT nn]; simp (maxSteps := 500000) -implicitDefEqProofs only [go_sem, u2]; rfl
                  · simp (maxSteps := 500000) -implicitDefEqProofs only [go_sem, g3, m2]
                  · simp (maxSteps := 500000) -implicitDefEqProofs only [go_sem, gp, y2']
                  · (repeat' (first | exact trivial | refine ⟨rfl, ?_⟩))
          · (repeat' first | ((first | refine vy1 ?_ ?_ | refine vy2 ?_ ?_ | refine vy3 ?_ ?_) <;> rintro ⟨hd, hq⟩ <;> first | (exfalso; omega) | simp (maxSteps := 500000) -implicitDefEqProofs only [go_sem, hd, g3, hy', hjx, rA, ← hp2, s3, sp, gp, sp', dcf c1] | skip) | refine vzt ?_ | refine vzf ?_ | refine vsb ?_ | refine vzb ?_ | refine vzq ?_ | simp (maxSteps := 500000) -implicitDefEqProofs only [go_sem, g3, hy', hjx, rA, ← hp2, s3, sp, gp, sp', dcf c1])
            (first | refine Z_block_loop (ι := Nat × Bool) (fun s => [(4, .ptr 0 0 0), (5, (AVal.sc (Value.int IntKind.i64 (0)))), (6, .ptr q 0 0), (7, .slice b3 0 k.length), (10, .func (.func 29) [] []), (118, .slice b3 0 k.length), (119, (AVal.sc (Value.int IntKind.i64 (k.length)))), (120, (AVal.sc (Value.int IntKind.i64 (i)))), (11, (AVal.sc (Value.int IntKind.i64 (i)))), (12, .ptr p 0 0), (132, .slice b3 0 k.length), (133, (AVal.sc (Value.int IntKind.i64 (k.length)))), (134, (AVal.sc (Value.int IntKind.i64 (j)))), (13, (AVal.sc (Value.int IntKind.i64 (j)))), (14, .ptr p2 0 0), (15, (AVal.sc (Value.bool (s.2)))), (16, (AVal.sc (Value.int IntKind.i64 (s.1))))]) (fun s σ' => s.1 ≤ j ∧ (s.2 = true ↔ (0 < (v1, v2).1 ∧ ltF (v1, v2) (x1, x2)) ∧ ∀ h, h < s.1 → ltF (rs h) (v1, v2) ∨ ltF (v1, v2) (rs h)) ∧ p2 < σ'.next ∧ σ'.get 0 = some (.cells 2 [.agg [(AVal.sc (Value.slice none 0 0)), (AVal.sc (Value.slice none 0 0))]]) ∧ σ'.get q = some (.cells 2 [.agg [.slice b1 0 k.length, .slice b2 0 k.length]]) ∧ σ'.get b1 = some (.cells 1 L1) ∧ σ'.get b2 = some (.cells 1 ((R1.set i (1 + (cntF rs (x1, x2) j : Int))).map iA)) ∧ σ'.get b3 = some (.cells 2 L3) ∧ σ'.get p = some (.cells 2 [.agg [(AVal.sc (Value.int IntKind.i64 (x1))), (AVal.sc (Value.int IntKind.i64 (x2)))]]) ∧ σ'.get p2 = some (.cells 2 [.agg [(AVal.sc (Value.int IntKind.i64 (v1))), (AVal.sc (Value.int IntKind.i64 (v2)))]])) (fun s => j - s.1) (fun _ => rfl) (0, false) ?_ ?_ ?_ | refine Z_seq_loop (ι := Nat × Bool) (fun s => [(4, .ptr 0 0 0), (5, (AVal.sc (Value.int IntKind.i64 (0)))), (6, .ptr q 0 0), (7, .slice b3 0 k.length), (10, .func (.func 29) [] []), (118, .slice b3 0 k.length), (119, (AVal.sc (Value.int IntKind.i64 (k.length)))), (120, (AVal.sc (Value.int IntKind.i64 (i)))), (11, (AVal.sc (Value.int IntKind.i64 (i)))), (12, .ptr p 0 0), (132, .slice b3 0 k.length), (133, (AVal.sc (Value.int IntKind.i64 (k.length)))), (134, (AVal.sc (Value.int IntKind.i64 (j)))), (13, (AVal.sc (Value.int IntKind.i64 (j)))), (14, .ptr p2 0 0), (15, (AVal.sc (Value.bool (s.2)))), (16, (AVal.sc (Value.int IntKind.i64 (s.1))))]) (fun s σ' => s.1 ≤ j ∧ (s.2 = true ↔ (0 < (v1, v2).1 ∧ ltF (v1, v2) (x1, x2)) ∧ ∀ h, h < s.1 → ltF (rs h) (v1, v2) ∨ ltF (v1, v2) (rs h)) ∧ p2 < σ'.next ∧ σ'.get 0 = some (.cells 2 [.agg [(AVal.sc (Value.slice none 0 0)), (AVal.sc (Value.slice none 0 0))]]) ∧ σ'.get q = some (.cells 2 [.agg [.slice b1 0 k.length, .slice b2 0 k.length]]) ∧ σ'.get b1 = some (.cells 1 L1) ∧ σ'.get b2 = some (.cells 1 ((R1.set i (1 + (cntF rs (x1, x2) j : Int))).map iA)) ∧ σ'.get b3 = some (.cells 2 L3) ∧ σ'.get p = some (.cells 2 [.agg [(AVal.sc (Value.int IntKind.i64 (x1))), (AVal.sc (Value.int IntKind.i64 (x2)))]]) ∧ σ'.get p2 = some (.cells 2 [.agg [(AVal.sc (Value.int IntKind.i64 (v1))), (AVal.sc (Value.int IntKind.i64 (v2)))]])) (fun s => j - s.1) (fun _ => rfl) (0, false) ?_ ?_ ?_ | refine Z_loop (ι := Nat × Bool) (fun s => [(4, .ptr 0 0 0), (5, (AVal.sc (Value.int IntKind.i64 (0)))), (6, .ptr q 0 0), (7, .slice b3 0 k.length), (10, .func (.func 29) [] []), (118, .slice b3 0 k.length), (119, (AVal.sc (Value.int IntKind.i64 (k.length)))), (120, (AVal.sc (Value.int IntKind.i64 (i)))), (11, (AVal.sc (Value.int IntKind.i64 (i)))), (12, .ptr p 0 0), (132, .slice b3 0 k.length), (133, (AVal.sc (Value.int IntKind.i64 (k.length)))), (134, (AVal.sc (Value.int IntKind.i64 (j)))), (13, (AVal.sc (Value.int IntKind.i64 (j)))), (14, .ptr p2 0 0), (15, (AVal.sc (Value.bool (s.2)))), (16, (AVal.sc (Value.int IntKind.i64 (s.1))))]) (fun s σ' => s.1 ≤ j ∧ (s.2 = true ↔ (0 < (v1, v2).1 ∧ ltF (v1, v2) (x1, x2)) ∧ ∀ h, h < s.1 → ltF (rs h) (v1, v2) ∨ ltF (v1, v2) (rs h)) ∧ p2 < σ'.next ∧ σ'.get 0 = some (.cells 2 [.agg [(AVal.sc (Value.slice none 0 0)), (AVal.sc (Value.slice none 0 0))]]) ∧ σ'.get q = some (.cells 2 [.agg [.slice b1 0 k.length, .slice b2 0 k.length]]) ∧ σ'.get b1 = some (.cells 1 L1) ∧ σ'.get b2 = some (.cells 1 ((R1.set i (1 + (cntF rs (x1, x2) j : Int))).map iA)) ∧ σ'.get b3 = some (.cells 2 L3) ∧ σ'.get p = some (.cells 2 [.agg [(AVal.sc (Value.int IntKind.i64 (x1))), (AVal.sc (Value.int IntKind.i64 (x2)))]]) ∧ σ'.get p2 = some (.cells 2 [.agg [(AVal.sc (Value.int IntKind.i64 (v1))), (AVal.sc (Value.int IntKind.i64 (v2)))]])) (fun s => j - s.1) (fun _ => rfl) (0, false) ?_ ?_ ?_)
            · (repeat' (first | exact trivial | refine ⟨rfl, ?_⟩))
            · refine ⟨Nat.zero_le _, ?_, by simp only [set_next, alloc_next]; omega, ?_, ?_, ?_, ?_, ?_, ?_, ?_⟩
              · simp [c1]
              · simp (maxSteps := 500000) -implicitDefEqProofs only [go_sem, ← hp2, g0, s0]
              · simp (maxSteps := 500000) -implicitDefEqProofs only [go_sem, ← hp2, gq, sq]
              · simp (maxSteps := 500000) -implicitDefEqProofs only [go_sem, ← hp2, g1, s1]
              · simp (maxSteps := 500000) -implicitDefEqProofs only [go_sem, ← hp2, g2, s2]
              · simp (maxSteps := 500000) -implicitDefEqProofs only [go_sem, ← hp2, g3, s3]
              · simp (maxSteps := 500000) -implicitDefEqProofs only [go_sem, ← hp2, gp, sp]
              · simp (maxSteps := 500000) -implicitDefEqProofs only [go_sem, ← hp2]
            clear g0 gq g1 g2 g3 gp hnx hp2 τ
            rintro ⟨h, sm⟩ τ ⟨hh, hsm, hnx, g0, gq, g1, g2, g3, gp, gp2⟩
            dsimp only at hh hsm ⊢
            by_cases d1 : h < j
            · have hhx : (0 : Int) ≤ h ∧ (h : Int) < (k.length : Int) := ⟨by omega, by omega⟩
              have hz' := r3 h (by omega)
              have okz := hr0 h (by omega)
              have lC1 := lessC (w := w) (rs h) (v1, v2) okz oky
              have lC2 := lessC (w := w) (v1, v2) (rs h) oky okz
              have hwh := wrapS (i := h) (by omega)
              obtain ⟨⟨z1, z2⟩, hze⟩ : ∃ z, z = rs h := ⟨_, rfl⟩
              rw [← hze] at hz' lC1 lC2
              simp only [rA] at lC1 lC2
              have d1' : (h : Int) < (j : Int) := by omega
              have nxt : ∀ sm', (sm' = true ↔ sm = true ∧ (ltF (z1, z2) (v1, v2) ∨ ltF (v1, v2) (z1, z2))) → (sm' = true ↔ (0 < (v1, v2).1 ∧ ltF (v1, v2) (x1, x2)) ∧ ∀ h', h' < h + 1 → ltF (rs h') (v1, v2) ∨ ltF (v1, v2) (rs h')) := by
                intro sm' hs
                rw [hs, hsm]
                constructor
                · rintro ⟨⟨e1, e2⟩, e3⟩
                  refine ⟨e1, fun h' hh' => ?_⟩
                  rcases Nat.lt_or_ge h' h with l | l
                  · exact e2 h' l
                  · obtain rfl : h' = h := by omega
                    rw [← hze]; exact e3
                · rintro ⟨e1, e2⟩
                  exact ⟨⟨e1, fun h' hh' => e2 h' (by omega)⟩, by have := e2 h (by omega); rwa [← hze] at this⟩
              cases sm with
              | false =>
                have nn : ¬ (0 < (v1, v2).1 ∧ ltF (v1, v2) (x1, x2) ∧ newF rs j) := fun hc => by
                  have := hsm.2 ⟨⟨hc.1, hc.2.1⟩, fun h' hh' => by have := hc.2.2 h' (by omega); rwa [← hye] at this⟩
                  cases this
                simp (maxSteps := 500000) -implicitDefEqProofs only [go_sem, dct d1']
                (repeat' first | ((first | refine vy1 ?_ ?_ | refine vy2 ?_ ?_ | refine vy3 ?_ ?_) <;> rintro ⟨hd, hq⟩ <;> first | (exfalso; omega) | simp (maxSteps := 500000) -implicitDefEqProofs only [go_sem, hd, hwj] | skip) | refine vzt ?_ | refine vzf ?_ | refine vsb ?_ | refine vzb ?_ | refine vzq ?_ | simp (maxSteps := 500000) -implicitDefEqProofs only [go_sem, hwj])
                refine ⟨j + 1, by dsimp only; omega, ⟨by omega, by omega, g0, gq, g1, by rw [hcF nn]; exact g2, g3, gp⟩, ?_⟩
                (repeat' (first | exact trivial | refine ⟨rfl, ?_⟩))
              | true =>
                simp (maxSteps := 500000) -implicitDefEqProofs only [go_sem, dct d1']
                (repeat' first | ((first | refine vy1 ?_ ?_ | refine vy2 ?_ ?_ | refine vy3 ?_ ?_) <;> rintro ⟨hd, hq⟩ <;> first | (exfalso; omega) | simp (maxSteps := 500000) -implicitDefEqProofs only [go_sem, hd] | skip) | refine vzt ?_ | refine vzf ?_ | refine vsb ?_ | refine vzb ?_ | refine vzq ?_ | simp (maxSteps := 500000) -implicitDefEqProofs only [go_sem])
                ((try (refine Z_seq ?_; (try simp (maxSteps := 500000) -implicitDefEqProofs only [go_sem]))); refine Z_draw (by kernel_rfl) [0, 1, 2, 3, 4, 5, 6, 7, 8, 9, 10, 11, 12, 13, 14, 15, 16] [(16, 65535), (15, 32767), (14, 16383), (13, 7423), (12, 3327), (11, 255), (10, 255), (9, 255), (8, 255), (7, 127), (6, 63), (5, 0), (4, 14), (3, 6), (2, 0), (1, 0), (0, 0)] (by kernel_rfl) (by kernel_rfl) ?_)
                simp (maxSteps := 500000) -implicitDefEqProofs only [go_sem, g3, hz', hhx, rA, gp2, fnL]
                refine lC1.useD ?_
                by_cases f1 : ltF (z1, z2) (v1, v2)
                · rw [dct f1]
                  simp (maxSteps := 500000) -implicitDefEqProofs only [go_sem]
                  (repeat' first | ((first | refine vy1 ?_ ?_ | refine vy2 ?_ ?_ | refine vy3 ?_ ?_) <;> rintro ⟨hd, hq⟩ <;> first | (exfalso; omega) | simp (maxSteps := 500000) -implicitDefEqProofs only [go_sem, hd, hwh] | skip) | refine vzt ?_ | refine vzf ?_ | refine vsb ?_ | refine vzb ?_ | refine vzq ?_ | simp (maxSteps := 500000) -implicitDefEqProofs only [go_sem, hwh])
                  refine ⟨(h + 1, true), by dsimp only; omega, ⟨by dsimp only; omega, nxt true (by simp [f1]), hnx, g0, gq, g1, g2, g3, gp, gp2⟩, ?_⟩
                  (repeat' (first | exact trivial | refine ⟨rfl, ?_⟩))
                · rw [dcf f1]
                  simp (maxSteps := 500000) -implicitDefEqProofs only [go_sem, g3, hz', hhx, rA, gp2, fnL]
                  refine lC2.useD ?_
                  by_cases f2 : ltF (v1, v2) (z1, z2)
                  · rw [dct f2]
                    simp (maxSteps := 500000) -implicitDefEqProofs only [go_sem]
                    (repeat' first | ((first | refine vy1 ?_ ?_ | refine vy2 ?_ ?_ | refine vy3 ?_ ?_) <;> rintro ⟨hd, hq⟩ <;> first | (exfalso; omega) | simp (maxSteps := 500000) -implicitDefEqProofs only [go_sem, hd, hwh] | skip) | refine vzt ?_ | refine vzf ?_ | refine vsb ?_ | refine vzb ?_ | refine vzq ?_ | simp (maxSteps := 500000) -implicitDefEqProofs only [go_sem, hwh])
                    refine ⟨(h + 1, true), by dsimp only; omega, ⟨by dsimp only; omega, nxt true (by simp [f2]), hnx, g0, gq, g1, g2, g3, gp, gp2⟩, ?_⟩
                    (repeat' (first | exact trivial | refine ⟨rfl, ?_⟩))
                  · rw [dcf f2]
                    simp (maxSteps := 500000) -implicitDefEqProofs only [go_sem]
                    (repeat' first | ((first | refine vy1 ?_ ?_ | refine vy2 ?_ ?_ | refine vy3 ?_ ?_) <;> rintro ⟨hd, hq⟩ <;> first | (exfalso; omega) | simp (maxSteps := 500000) -implicitDefEqProofs only [go_sem, hd, hwh] | skip) | refine vzt ?_ | refine vzf ?_ | refine vsb ?_ | refine vzb ?_ | refine vzq ?_ | simp (maxSteps := 500000) -implicitDefEqProofs only [go_sem, hwh])
                    refine ⟨(h + 1, false), by dsimp only; omega, ⟨by dsimp only; omega, nxt false (by simp [f1, f2]), hnx, g0, gq, g1, g2, g3, gp, gp2⟩, ?_⟩
                    (repeat' (first | exact trivial | refine ⟨rfl, ?_⟩))
            · obtain rfl : h = j := by omega
              have d1' : ¬ (h : Int) < (h : Int) := by omega
              have u2 := AStore.lt_of_get g2
              cases sm with
              | false =>
                have nn : ¬ (0 < (v1, v2).1 ∧ ltF (v1, v2) (x1, x2) ∧ newF rs h) := fun hc => by
                  have := hsm.2 ⟨⟨hc.1, hc.2.1⟩, fun h' hh' => by have := hc.2.2 h' (by omega); rwa [← hye] at this⟩
                  cases this
                simp (maxSteps := 500000) -implicitDefEqProofs only [go_sem, dcf d1']
                (repeat' first | ((first | refine vy1 ?_ ?_ | refine vy2 ?_ ?_ | refine vy3 ?_ ?_) <;> rintro ⟨hd, hq⟩ <;> first | (exfalso; omega) | simp (maxSteps := 500000) -implicitDefEqProofs only [go_sem, hd, hwj] | skip) | refine vzt ?_ | refine vzf ?_ | refine vsb ?_ | refine vzb ?_ | refine vzq ?_ | simp (maxSteps := 500000) -implicitDefEqProofs only [go_sem, hwj])
                refine ⟨h + 1, by dsimp only; omega, ⟨by omega, by omega, g0, gq, g1, by rw [hcF nn]; exact g2, g3, gp⟩, ?_⟩
                (repeat' (first | exact trivial | refine ⟨rfl, ?_⟩))
              | true =>
                have nn : 0 < (v1, v2).1 ∧ ltF (v1, v2) (x1, x2) ∧ newF rs h := by
                  obtain ⟨e1, e2⟩ := hsm.1 rfl
                  exact ⟨e1.1, e1.2, fun h' hh' => by have := e2 h' hh'; rwa [hye] at this⟩
                simp (maxSteps := 500000) -implicitDefEqProofs only [go_sem, dcf d1']
                (repeat' first | ((first | refine vy1 ?_ ?_ | refine vy2 ?_ ?_ | refine vy3 ?_ ?_) <;> rintro ⟨hd, hq⟩ <;> first | (exfalso; omega) | simp (maxSteps := 500000) -implicitDefEqProofs only [go_sem, hd, gq, g2, hru, hix, iA, hwc, hst, hwj] | skip) | refine vzt ?_ | refine vzf ?_ | refine vsb ?_ | refine vzb ?_ | refine vzq ?_ | simp (maxSteps := 500000) -implicitDefEqProofs only [go_sem, gq, g2, hru, hix, iA, hwc, hst, hwj])
                refine ⟨h + 1, by dsimp only; omega, ⟨by omega, by simp only [set_next]; omega, ?_, ?_, ?_, ?_, ?_, ?_⟩, ?_⟩
                · simp (maxSteps := 500000) -implicitDefEqProofs only [go_sem, g0, o2]
                · simp (maxSteps := 500000) -implicitDefEqProofs only [go_sem, gq, n2']
                · simp (maxSteps := 500000) -implicitDefEqProofs only [go_sem, g1, ne]
                · rw [hcT nn]; simp (maxSteps := 500000) -implicitDefEqProofs only [go_sem, u2]; rfl
                · simp (maxSteps := 500000) -implicitDefEqProofs only [go_sem, g3, m2]
                · simp (maxSteps := 500000) -implicitDefEqProofs only [go_sem, gp, y2']
                · (repeat' (first | exact trivial | refine ⟨rfl, ?_⟩))
        · obtain rfl : j = k.length := by omega
          (repeat' first | ((first | refine vy1 ?_ ?_ | refine vy2 ?_ ?_ | refine vy3 ?_ ?_) <;> rintro ⟨hd, hq⟩ <;> first | (exfalso; omega) | simp (maxSteps := 500000) -implicitDefEqProofs only [go_sem, hd, hw] | skip) | refine vzt ?_ | refine vzf ?_ | refine vsb ?_ | refine vzb ?_ | refine vzq ?_ | simp (maxSteps := 500000) -implicitDefEqProofs only [go_sem, hw])
          refine ⟨i + 1, by dsimp only; omega, ⟨by omega, by omega, g0, gq, g1, ?_, g3⟩, ?_⟩
          · rw [g2, hR1, mixg_set (by rw [lz]; exact hik) hrk.symm]
          · (repeat' (first | exact trivial | refine ⟨rfl, ?_⟩))
      · obtain rfl : i = k.length := by omega
        have hqt : 0 < τ.next := by omega
        have e5 : mixG (rkV rs k.length) (List.replicate k.length (0 : Int)) k.length = (List.range k.length).map (rkV rs k.length) := by
          have := mixg_end (f := rkV rs k.length) (l := List.replicate k.length (0 : Int)); rwa [lz] at this
        rw [e5] at g2
        rw [hL1] at g1
        (repeat' first | ((first | refine vy1 ?_ ?_ | refine vy2 ?_ ?_ | refine vy3 ?_ ?_) <;> rintro ⟨hd, hq⟩ <;> first | (exfalso; omega) | simp (maxSteps := 500000) -implicitDefEqProofs only [go_sem, hd, g0, gq, hqt] | skip) | refine vzt ?_ | refine vzf ?_ | refine vsb ?_ | refine vzb ?_ | refine vzq ?_ | simp (maxSteps := 500000) -implicitDefEqProofs only [go_sem, g0, gq, hqt])
        have hfz : Two 1 (τ.set 0 (.cells 2 [.agg [.slice b1 0 k.length, .slice b2 0 k.length]])) b1 b2 ((List.range k.length).map (whV k cl)) ((List.range k.length).map (rkV rs k.length)) := ⟨ne, p1, p2, by rw [AStore.get_set, if_neg (by omega)]; exact g1, by rw [AStore.get_set, if_neg (by omega)]; exact g2⟩
        have hfz := hfz.frz (n1 := k.length) (n2 := k.length) (by simp) (by simp) 2
        simp only [rgA] at hfz
        exact ⟨_, _, rfl, by rw [frz_tuple, mapO_cons', mapO_cons', mapO_nil', hfz]; rfl, _, _, rfl, .inr ⟨false, rfl⟩, .inr ⟨false, rfl⟩⟩
end Abs
