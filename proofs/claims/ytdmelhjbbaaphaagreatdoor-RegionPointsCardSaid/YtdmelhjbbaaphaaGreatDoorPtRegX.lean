/-
  Functions of the program walked: each is shown to compute a plain function (RegX).
-/
import Derived.Test.YtdmelhjbbaaphaaGreatDoorPtRegP
namespace Abs
set_option linter.unusedSimpArgs false
set_option linter.unusedVariables false
set_option maxRecDepth 100000
set_option maxHeartbeats 2000000
open Go Go.Proofs
def mixL (f : Nat → Int) (l : List Int) (i : Nat) : List Int := (List.range i).map f ++ l.drop i
theorem mix_at (f : Nat → Int) (l : List Int) (i j : Nat) : (mixL f l i)[j]? = if j < i then some (f j) else l[j]? := by
 unfold mixL
 rw [List.getElem?_append]
 by_cases h : j < i
 ·rw [if_pos (by simpa using h), if_pos h]; simp [h]
 ·rw [if_neg (by simpa using h), if_neg h, List.getElem?_drop]
  congr 1; simp; omega
theorem mix_zero (f : Nat → Int) (l : List Int) : mixL f l 0 = l := by simp [mixL]
theorem mix_get {f : Nat → Int} {l : List Int} {i : Nat} : (mixL f l i)[i]? = l[i]? := by rw [mix_at, if_neg (by omega)]
theorem mix_set {f : Nat → Int} {l : List Int} {i : Nat} {x : Int} (h : i < l.length) (hx : x = f i) : (mixL f l i).set i x = mixL f l (i + 1) := by
 subst hx
 apply List.ext_getElem?
 intro j
 rw [List.getElem?_set, mix_at, mix_at]
 by_cases e : i = j
 ·subst e
  have hlen : i < (mixL f l i).length := by simp [mixL]; omega
  rw [if_pos rfl, if_pos hlen, if_pos (by omega)]
 ·rw [if_neg e]
  by_cases h2 : j < i
  ·rw [if_pos h2, if_pos (by omega)]
  ·rw [if_neg h2, if_neg (by omega)]
theorem mix_keep {f : Nat → Int} {l : List Int} {i : Nat} {x : Int} (h : l[i]? = some x) (hx : x = f i) : mixL f l (i + 1) = mixL f l i := by
 subst hx
 apply List.ext_getElem?
 intro j
 rw [mix_at, mix_at]
 by_cases h2 : j < i
 ·rw [if_pos h2, if_pos (by omega)]
 ·by_cases e : j = i
  ·subst e; rw [if_pos (by omega), if_neg h2, h]
  ·rw [if_neg h2, if_neg (by omega)]
theorem mix_len {f : Nat → Int} {l : List Int} {i : Nat} (h : i ≤ l.length) : (mixL f l i).length = l.length := by simp [mixL]; omega
def at0 (l : List Int) (i : Nat) : Int := (l[i]?).getD 0
theorem at_of {l : List Int} {i : Nat} {x : Int} (h : l[i]? = some x) : at0 l i = x := by simp [at0, h]
def wTo (k l r : List Int) : Nat → Bool
 | 0 => false
 | i + 1 => wTo k l r i || (decide (at0 l i ≤ at0 k i) && decide (at0 r i = 0))
def fTo (k l r : List Int) : Nat → Bool
 | 0 => false
 | i + 1 => fTo k l r i || (decide (at0 l i ≤ at0 k i) && decide (at0 r i = 0) && decide (at0 l i < at0 k i))
def stepV (W F : Bool) (T c x y : Int) : Int × Int :=
 if c < x then (x, y)
 else if W = false ∧ y = T then (x + 1, 0)
 else if W = true ∧ 0 < y ∧ F = true then (x, y + 1)
 else if W = true ∧ y = 0 ∧ x = c then (x + 1, y)
 else if W = true ∧ y = 0 then (x, 1) else (x, y)
def nxL (k l r : List Int) (i : Nat) : Int := (stepV (wTo k l r k.length) (fTo k l r k.length) (topR r) (at0 k i) (at0 l i) (at0 r i)).1
def nxR (k l r : List Int) (i : Nat) : Int := (stepV (wTo k l r k.length) (fTo k l r k.length) (topR r) (at0 k i) (at0 l i) (at0 r i)).2
def onL (k l r : List Int) : Bool := wTo k l r k.length || decide (topR r ≠ 0)
def lats (f : Nat → Int) (on : Bool) (l : List Int) : List Int := if on then mixL f l l.length else l
structure Fine (k l r : List Int) : Prop where
 n : k.length ≤ 10
 ln : l.length = k.length
 rn : r.length = k.length
 b : ∀ i, i < k.length → ∃ c x y, k[i]? = some c ∧ l[i]? = some x ∧ r[i]? = some y ∧ -1 ≤ c ∧ c ≤ 1000 ∧ 0 ≤ x ∧ x ≤ c + 1 ∧ 0 ≤ y ∧ y ≤ 10
theorem Fine.of {k l r : List Int} (h : checkP k l r) : Fine k l r where
 n := fine_len h.1
 ln := h.2.1
 rn := h.2.2.1
 b := fun i hi => by
  obtain ⟨c, x, y, h1, h2, h3, h4, h5, h6, h7, h8, h9, _⟩ := checkP_at h hi
  have := fine_len h.1
  exact ⟨c, x, y, h1, h2, h3, h4, h5, h6, h7, h8, by omega⟩
set_option maxHeartbeats 8000000 in
theorem laterC {w : World} {K : AVal} {k l r : List Int} {b1 b2 m : Nat} {σ : AStore} (hK : IsD 1 K (k.map iA)) (hf : Fine k l r) (ht : Two m σ b1 b2 l r) :
  ACalls (EE w) 40 [K, rgA (.slice b1 0 k.length) (.slice b2 0 k.length)] σ fun e σ' =>
   e = .ret (.tuple [rgA (.slice b1 0 k.length) (.slice b2 0 k.length), (AVal.sc (Value.bool (onL k l r)))]) ∧ Two m σ' b1 b2 (lats (nxL k l r) (onL k l r) l) (lats (nxR k l r) (onL k l r) r) ∧ σ.next ≤ σ'.next ∧ ∀ b x, b < m → σ.get b = some x → σ'.get b = some x := by
 obtain ⟨ne, m1, m2, g1, g2⟩ := ht
 have e1 := hf.ln
 have e2 := hf.rn
 have hn10 := hf.n
 have p1 := AStore.lt_of_get g1
 have p2 := AStore.lt_of_get g2
 have ne' : ¬ b2 = b1 := fun h => ne h.symm
 obtain ⟨p, hp⟩ : ∃ p, p = σ.next := ⟨_, rfl⟩
 rw [← hp] at p1 p2
 refine of_40 rfl rfl rfl (by kernel_rfl) ?_
 have n0 : ¬ p = p + 1 := by omega
 simp (maxSteps := 500000) -implicitDefEqProofs only [go_sem, rgA, ← hp, n0]
 (first | refine Z_block_loop (ι := Nat) (fun i => [(0, K), (3, .ptr p 0 0), (4, .ptr (p + 1) 0 0), (5, (AVal.sc (Value.bool (false)))), (6, (AVal.sc (Value.bool (wTo k l r i)))), (7, (AVal.sc (Value.bool (fTo k l r i)))), (8, (AVal.sc (Value.int IntKind.i64 ((r.take i).foldl max 0)))), (14, .slice b1 0 k.length), (15, (AVal.sc (Value.int IntKind.i64 (k.length)))), (16, (AVal.sc (Value.int IntKind.i64 (i))))]) (fun i σ' => i ≤ k.length ∧ σ.next ≤ σ'.next ∧ (∀ b x, b < m → σ.get b = some x → σ'.get b = some x) ∧ σ'.get p = some (.cells 2 [.agg [.slice b1 0 k.length, .slice b2 0 k.length]]) ∧ σ'.get (p + 1) = some (.cells 2 [.agg [(AVal.sc (Value.slice none 0 0)), (AVal.sc (Value.slice none 0 0))]]) ∧ σ'.get b1 = some (.cells 1 (l.map iA)) ∧ σ'.get b2 = some (.cells 1 (r.map iA))) (fun i => k.length - i) (fun _ => rfl) 0 ?_ ?_ ?_ | refine Z_seq_loop (ι := Nat) (fun i => [(0, K), (3, .ptr p 0 0), (4, .ptr (p + 1) 0 0), (5, (AVal.sc (Value.bool (false)))), (6, (AVal.sc (Value.bool (wTo k l r i)))), (7, (AVal.sc (Value.bool (fTo k l r i)))), (8, (AVal.sc (Value.int IntKind.i64 ((r.take i).foldl max 0)))), (14, .slice b1 0 k.length), (15, (AVal.sc (Value.int IntKind.i64 (k.length)))), (16, (AVal.sc (Value.int IntKind.i64 (i))))]) (fun i σ' => i ≤ k.length ∧ σ.next ≤ σ'.next ∧ (∀ b x, b < m → σ.get b = some x → σ'.get b = some x) ∧ σ'.get p = some (.cells 2 [.agg [.slice b1 0 k.length, .slice b2 0 k.length]]) ∧ σ'.get (p + 1) = some (.cells 2 [.agg [(AVal.sc (Value.slice none 0 0)), (AVal.sc (Value.slice none 0 0))]]) ∧ σ'.get b1 = some (.cells 1 (l.map iA)) ∧ σ'.get b2 = some (.cells 1 (r.map iA))) (fun i => k.length - i) (fun _ => rfl) 0 ?_ ?_ ?_ | refine Z_loop (ι := Nat) (fun i => [(0, K), (3, .ptr p 0 0), (4, .ptr (p + 1) 0 0), (5, (AVal.sc (Value.bool (false)))), (6, (AVal.sc (Value.bool (wTo k l r i)))), (7, (AVal.sc (Value.bool (fTo k l r i)))), (8, (AVal.sc (Value.int IntKind.i64 ((r.take i).foldl max 0)))), (14, .slice b1 0 k.length), (15, (AVal.sc (Value.int IntKind.i64 (k.length)))), (16, (AVal.sc (Value.int IntKind.i64 (i))))]) (fun i σ' => i ≤ k.length ∧ σ.next ≤ σ'.next ∧ (∀ b x, b < m → σ.get b = some x → σ'.get b = some x) ∧ σ'.get p = some (.cells 2 [.agg [.slice b1 0 k.length, .slice b2 0 k.length]]) ∧ σ'.get (p + 1) = some (.cells 2 [.agg [(AVal.sc (Value.slice none 0 0)), (AVal.sc (Value.slice none 0 0))]]) ∧ σ'.get b1 = some (.cells 1 (l.map iA)) ∧ σ'.get b2 = some (.cells 1 (r.map iA))) (fun i => k.length - i) (fun _ => rfl) 0 ?_ ?_ ?_)
 ·(repeat' (first | exact trivial | refine ⟨rfl, ?_⟩))
 ·exact ⟨Nat.zero_le _, by simp only [alloc_next]; omega, fun b x _ hx => get_alloc_old (get_alloc_old hx), get_alloc_old (hp ▸ getA), hp ▸ getA (σ := σ.alloc _), get_alloc_old (get_alloc_old g1), get_alloc_old (get_alloc_old g2)⟩
 clear g1 g2
 ·rintro i τ ⟨hi, hnx, hkp, gp, gq, g1, g2⟩
  simp (maxSteps := 500000) -implicitDefEqProofs only [go_sem]
  ((first | refine vz2 ?_ ?_ | refine vz3 ?_ ?_) <;> intro h2)
  ·obtain ⟨c, x, y, hc, hx, hy, c1, c2, x1, x2, y1, y2⟩ := hf.b i (by omega)
   have hc' : (k.map iA)[i]? = some (iA c) := by simp [hc]
   have hx' : (l.map iA)[i]? = some (iA x) := by simp [hx]
   have hy' : (r.map iA)[i]? = some (iA y) := by simp [hy]
   have hw := wrapS (i := i) (by omega)
   have hm := (max_if ((r.take i).foldl max 0) y).trans (top_take hy).symm
   have hix : (0 : Int) ≤ i ∧ (i : Int) < (k.length : Int) := ⟨by omega, by omega⟩
   have hW1 : wTo k l r (i + 1) = (wTo k l r i || (decide (x ≤ c) && decide (y = 0))) := by simp only [wTo, at_of hc, at_of hx, at_of hy]
   have hF1 : fTo k l r (i + 1) = (fTo k l r i || (decide (x ≤ c) && decide (y = 0) && decide (x < c))) := by simp only [fTo, at_of hc, at_of hx, at_of hy]
   by_cases a1 : x ≤ c
   ·by_cases a2 : y = 0
    ·rw [dct a1, dct a2] at hW1 hF1
     generalize fTo k l r i = F at *
     generalize wTo k l r i = W at *
     cases F
     ·by_cases a3 : x < c
      ·rw [dct a3] at hF1
       (repeat' first | ((first | refine vy1 ?_ ?_ | refine vy2 ?_ ?_ | refine vy3 ?_ ?_) <;> rintro ⟨hd, hq⟩ <;> first | (exfalso; omega) | simp (maxSteps := 500000) -implicitDefEqProofs only [go_sem, hd, hK.idx hc', iA, g1, g2, gp, hx', hy', hix, Int.toNat_natCast, Nat.zero_add, dct a1, dct a2, dct a3, hm, hw] | skip) | refine vzt ?_ | refine vzf ?_ | refine vsb ?_ | refine vzb ?_ | refine vzq ?_ | simp (maxSteps := 500000) -implicitDefEqProofs only [go_sem, hK.idx hc', iA, g1, g2, gp, hx', hy', hix, Int.toNat_natCast, Nat.zero_add, dct a1, dct a2, dct a3, hm, hw])
       refine ⟨i + 1, by dsimp only; omega, ⟨by omega, hnx, hkp, gp, gq, g1, g2⟩, ?_⟩
       dsimp only
       (try simp only [Bool.and_true, Bool.or_true, Bool.true_or, Bool.and_false, Bool.false_or, Bool.or_false, Bool.false_and, Bool.true_and] at hW1 hF1)
       rw [hW1, hF1]
       (repeat' (first | exact trivial | refine ⟨rfl, ?_⟩))
      ·rw [dcf a3] at hF1
       (repeat' first | ((first | refine vy1 ?_ ?_ | refine vy2 ?_ ?_ | refine vy3 ?_ ?_) <;> rintro ⟨hd, hq⟩ <;> first | (exfalso; omega) | simp (maxSteps := 500000) -implicitDefEqProofs only [go_sem, hd, hK.idx hc', iA, g1, g2, gp, hx', hy', hix, Int.toNat_natCast, Nat.zero_add, dct a1, dct a2, dcf a3, hm, hw] | skip) | refine vzt ?_ | refine vzf ?_ | refine vsb ?_ | refine vzb ?_ | refine vzq ?_ | simp (maxSteps := 500000) -implicitDefEqProofs only [go_sem, hK.idx hc', iA, g1, g2, gp, hx', hy', hix, Int.toNat_natCast, Nat.zero_add, dct a1, dct a2, dcf a3, hm, hw])
       refine ⟨i + 1, by dsimp only; omega, ⟨by omega, hnx, hkp, gp, gq, g1, g2⟩, ?_⟩
       dsimp only
       (try simp only [Bool.and_true, Bool.or_true, Bool.true_or, Bool.and_false, Bool.false_or, Bool.or_false, Bool.false_and, Bool.true_and] at hW1 hF1)
       rw [hW1, hF1]
       (repeat' (first | exact trivial | refine ⟨rfl, ?_⟩))
     ·(repeat' first | ((first | refine vy1 ?_ ?_ | refine vy2 ?_ ?_ | refine vy3 ?_ ?_) <;> rintro ⟨hd, hq⟩ <;> first | (exfalso; omega) | simp (maxSteps := 500000) -implicitDefEqProofs only [go_sem, hd, hK.idx hc', iA, g1, g2, gp, hx', hy', hix, Int.toNat_natCast, Nat.zero_add, dct a1, dct a2, hm, hw] | skip) | refine vzt ?_ | refine vzf ?_ | refine vsb ?_ | refine vzb ?_ | refine vzq ?_ | simp (maxSteps := 500000) -implicitDefEqProofs only [go_sem, hK.idx hc', iA, g1, g2, gp, hx', hy', hix, Int.toNat_natCast, Nat.zero_add, dct a1, dct a2, hm, hw])
      refine ⟨i + 1, by dsimp only; omega, ⟨by omega, hnx, hkp, gp, gq, g1, g2⟩, ?_⟩
      dsimp only
      (try simp only [Bool.and_true, Bool.or_true, Bool.true_or, Bool.and_false, Bool.false_or, Bool.or_false, Bool.false_and, Bool.true_and] at hW1 hF1)
      rw [hW1, hF1]
      (repeat' (first | exact trivial | refine ⟨rfl, ?_⟩))
    ·rw [dcf a2] at hW1
     rw [dcf a2] at hF1
     (repeat' first | ((first | refine vy1 ?_ ?_ | refine vy2 ?_ ?_ | refine vy3 ?_ ?_) <;> rintro ⟨hd, hq⟩ <;> first | (exfalso; omega) | simp (maxSteps := 500000) -implicitDefEqProofs only [go_sem, hd, hK.idx hc', iA, g1, g2, gp, hx', hy', hix, Int.toNat_natCast, Nat.zero_add, dct a1, dcf a2, hm, hw] | skip) | refine vzt ?_ | refine vzf ?_ | refine vsb ?_ | refine vzb ?_ | refine vzq ?_ | simp (maxSteps := 500000) -implicitDefEqProofs only [go_sem, hK.idx hc', iA, g1, g2, gp, hx', hy', hix, Int.toNat_natCast, Nat.zero_add, dct a1, dcf a2, hm, hw])
     refine ⟨i + 1, by dsimp only; omega, ⟨by omega, hnx, hkp, gp, gq, g1, g2⟩, ?_⟩
     dsimp only
     (try simp only [Bool.and_true, Bool.or_true, Bool.true_or, Bool.and_false, Bool.false_or, Bool.or_false, Bool.false_and, Bool.true_and] at hW1 hF1)
     rw [hW1, hF1]
     (repeat' (first | exact trivial | refine ⟨rfl, ?_⟩))
   ·rw [dcf a1] at hW1
    rw [dcf a1] at hF1
    (repeat' first | ((first | refine vy1 ?_ ?_ | refine vy2 ?_ ?_ | refine vy3 ?_ ?_) <;> rintro ⟨hd, hq⟩ <;> first | (exfalso; omega) | simp (maxSteps := 500000) -implicitDefEqProofs only [go_sem, hd, hK.idx hc', iA, g1, g2, gp, hx', hy', hix, Int.toNat_natCast, Nat.zero_add, dcf a1, hm, hw] | skip) | refine vzt ?_ | refine vzf ?_ | refine vsb ?_ | refine vzb ?_ | refine vzq ?_ | simp (maxSteps := 500000) -implicitDefEqProofs only [go_sem, hK.idx hc', iA, g1, g2, gp, hx', hy', hix, Int.toNat_natCast, Nat.zero_add, dcf a1, hm, hw])
    refine ⟨i + 1, by dsimp only; omega, ⟨by omega, hnx, hkp, gp, gq, g1, g2⟩, ?_⟩
    dsimp only
    (try simp only [Bool.and_true, Bool.or_true, Bool.true_or, Bool.and_false, Bool.false_or, Bool.or_false, Bool.false_and, Bool.true_and] at hW1 hF1)
    rw [hW1, hF1]
    (repeat' (first | exact trivial | refine ⟨rfl, ?_⟩))
  ·obtain rfl : i = k.length := by omega
   have hT : (r.take k.length).foldl max 0 = topR r := by rw [← e2, List.take_length]; rfl
   have hpt : p < τ.next := AStore.lt_of_get gp
   have hqt : p + 1 < τ.next := AStore.lt_of_get gq
   have nb1 : ¬ b1 = p + 1 := by omega
   have nb2 : ¬ b2 = p + 1 := by omega
   have np1 : ¬ p = b1 := by omega
   have np2 : ¬ p = b2 := by omega
   have nq1 : ¬ p + 1 = b1 := by omega
   have nq2 : ¬ p + 1 = b2 := by omega
   have hpq : ¬ p = p + 1 := by omega
   rw [hT]
   cases hWv : wTo k l r k.length with
   | false =>
    by_cases a1 : topR r = 0
    ·have hon : onL k l r = false := by simp only [onL, hWv, a1]; rfl
     rw [hon]
     (repeat' first | ((first | refine vy1 ?_ ?_ | refine vy2 ?_ ?_ | refine vy3 ?_ ?_) <;> rintro ⟨hd, hq⟩ <;> first | (exfalso; omega) | simp (maxSteps := 500000) -implicitDefEqProofs only [go_sem, hd, dct a1, gp, gq, hqt] | skip) | refine vzt ?_ | refine vzf ?_ | refine vsb ?_ | refine vzb ?_ | refine vzq ?_ | simp (maxSteps := 500000) -implicitDefEqProofs only [go_sem, dct a1, gp, gq, hqt])
     refine ⟨⟨ne, m1, m2, ?_, ?_⟩, by omega, fun b z hb hz => by rw [if_neg (by omega)]; exact hkp b z hb hz⟩
     ·simp only [lats, Bool.false_eq_true, if_false]; simp (maxSteps := 500000) -implicitDefEqProofs only [go_sem, g1, nb1, nb2, hqt]
     ·simp only [lats, Bool.false_eq_true, if_false]; simp (maxSteps := 500000) -implicitDefEqProofs only [go_sem, g2, nb1, nb2, hqt]
    ·have hon : onL k l r = true := by simp only [onL, hWv, Bool.false_or]; exact dct a1
     rw [hon]
     (repeat' first | ((first | refine vy1 ?_ ?_ | refine vy2 ?_ ?_ | refine vy3 ?_ ?_) <;> rintro ⟨hd, hq⟩ <;> first | (exfalso; omega) | simp (maxSteps := 500000) -implicitDefEqProofs only [go_sem, hd, dcf a1, gp] | skip) | refine vzt ?_ | refine vzf ?_ | refine vsb ?_ | refine vzb ?_ | refine vzq ?_ | simp (maxSteps := 500000) -implicitDefEqProofs only [go_sem, dcf a1, gp])
     (first | refine Z_block_loop (ι := Nat) (fun i => [(0, K), (3, .ptr p 0 0), (4, .ptr (p + 1) 0 0), (5, (AVal.sc (Value.bool (false)))), (6, (AVal.sc (Value.bool (false)))), (7, (AVal.sc (Value.bool (fTo k l r k.length)))), (8, (AVal.sc (Value.int IntKind.i64 (topR r)))), (60, .slice b1 0 k.length), (61, (AVal.sc (Value.int IntKind.i64 (k.length)))), (62, (AVal.sc (Value.int IntKind.i64 (i))))]) (fun i σ' => i ≤ k.length ∧ σ.next ≤ σ'.next ∧ (∀ b x, b < m → σ.get b = some x → σ'.get b = some x) ∧ σ'.get p = some (.cells 2 [.agg [.slice b1 0 k.length, .slice b2 0 k.length]]) ∧ σ'.get (p + 1) = some (.cells 2 [.agg [(AVal.sc (Value.slice none 0 0)), (AVal.sc (Value.slice none 0 0))]]) ∧ σ'.get b1 = some (.cells 1 ((mixL (nxL k l r) l i).map iA)) ∧ σ'.get b2 = some (.cells 1 ((mixL (nxR k l r) r i).map iA))) (fun i => k.length - i) (fun _ => rfl) 0 ?_ ?_ ?_ | refine Z_seq_loop (ι := Nat) (fun i => [(0, K), (3, .ptr p 0 0), (4, .ptr (p + 1) 0 0), (5, (AVal.sc (Value.bool (false)))), (6, (AVal.sc (Value.bool (false)))), (7, (AVal.sc (Value.bool (fTo k l r k.length)))), (8, (AVal.sc (Value.int IntKind.i64 (topR r)))), (60, .slice b1 0 k.length), (61, (AVal.sc (Value.int IntKind.i64 (k.length)))), (62, (AVal.sc (Value.int IntKind.i64 (i))))]) (fun i σ' => i ≤ k.length ∧ σ.next ≤ σ'.next ∧ (∀ b x, b < m → σ.get b = some x → σ'.get b = some x) ∧ σ'.get p = some (.cells 2 [.agg [.slice b1 0 k.length, .slice b2 0 k.length]]) ∧ σ'.get (p + 1) = some (.cells 2 [.agg [(AVal.sc (Value.slice none 0 0)), (AVal.sc (Value.slice none 0 0))]]) ∧ σ'.get b1 = some (.cells 1 ((mixL (nxL k l r) l i).map iA)) ∧ σ'.get b2 = some (.cells 1 ((mixL (nxR k l r) r i).map iA))) (fun i => k.length - i) (fun _ => rfl) 0 ?_ ?_ ?_ | refine Z_loop (ι := Nat) (fun i => [(0, K), (3, .ptr p 0 0), (4, .ptr (p + 1) 0 0), (5, (AVal.sc (Value.bool (false)))), (6, (AVal.sc (Value.bool (false)))), (7, (AVal.sc (Value.bool (fTo k l r k.length)))), (8, (AVal.sc (Value.int IntKind.i64 (topR r)))), (60, .slice b1 0 k.length), (61, (AVal.sc (Value.int IntKind.i64 (k.length)))), (62, (AVal.sc (Value.int IntKind.i64 (i))))]) (fun i σ' => i ≤ k.length ∧ σ.next ≤ σ'.next ∧ (∀ b x, b < m → σ.get b = some x → σ'.get b = some x) ∧ σ'.get p = some (.cells 2 [.agg [.slice b1 0 k.length, .slice b2 0 k.length]]) ∧ σ'.get (p + 1) = some (.cells 2 [.agg [(AVal.sc (Value.slice none 0 0)), (AVal.sc (Value.slice none 0 0))]]) ∧ σ'.get b1 = some (.cells 1 ((mixL (nxL k l r) l i).map iA)) ∧ σ'.get b2 = some (.cells 1 ((mixL (nxR k l r) r i).map iA))) (fun i => k.length - i) (fun _ => rfl) 0 ?_ ?_ ?_)
     ·(repeat' (first | exact trivial | refine ⟨rfl, ?_⟩))
     ·exact ⟨Nat.zero_le _, hnx, hkp, gp, gq, by rw [mix_zero]; exact g1, by rw [mix_zero]; exact g2⟩
     clear g1 g2 gp gq hnx hkp hpt hqt hi
     ·rintro i τ ⟨hi, hnx, hkp, gp, gq, g1, g2⟩
      have t1 := AStore.lt_of_get g1
      have t2 := AStore.lt_of_get g2
      simp (maxSteps := 500000) -implicitDefEqProofs only [go_sem]
      ((first | refine vz2 ?_ ?_ | refine vz3 ?_ ?_) <;> intro h2)
      ·obtain ⟨c, x, y, hc, hx, hy, c1, c2, x1, x2, y1, y2⟩ := hf.b i (by omega)
       have hc' : (k.map iA)[i]? = some (iA c) := by simp [hc]
       have hx'' : ((mixL (nxL k l r) l i).map iA)[i]? = some (iA x) := by rw [List.getElem?_map, mix_get, hx]; rfl
       have hy'' : ((mixL (nxR k l r) r i).map iA)[i]? = some (iA y) := by rw [List.getElem?_map, mix_get, hy]; rfl
       have hw := wrapS (i := i) (by omega)
       have hwx : IntKind.i64.wrap (x + 1) = x + 1 := wrap64 (by omega) (by omega)
       have hwy : IntKind.i64.wrap (y + 1) = y + 1 := wrap64 (by omega) (by omega)
       have hix : (0 : Int) ≤ i ∧ (i : Int) < (k.length : Int) := ⟨by omega, by omega⟩
       have u1 : nxL k l r i = (stepV false (fTo k l r k.length) (topR r) c x y).1 := by unfold nxL; rw [at_of hc, at_of hx, at_of hy, hWv]
       have u2 : nxR k l r i = (stepV false (fTo k l r k.length) (topR r) c x y).2 := by unfold nxR; rw [at_of hc, at_of hx, at_of hy, hWv]
       generalize fTo k l r k.length = F at u1 u2 ⊢
       by_cases a1 : c < x
       ·have hs1 : x = nxL k l r i := by rw [u1]; simp [stepV, a1]
        have hs2 : y = nxR k l r i := by rw [u2]; simp [stepV, a1]
        (repeat' first | ((first | refine vy1 ?_ ?_ | refine vy2 ?_ ?_ | refine vy3 ?_ ?_) <;> rintro ⟨hd, hq⟩ <;> first | (exfalso; omega) | simp (maxSteps := 500000) -implicitDefEqProofs only [go_sem, hd, hK.idx hc', iA, g1, g2, gp, hx'', hy'', hix, Int.toNat_natCast, Nat.zero_add, hw, ne, ne', t1, t2, hwx, hwy, dct a1] | skip) | refine vzt ?_ | refine vzf ?_ | refine vsb ?_ | refine vzb ?_ | refine vzq ?_ | simp (maxSteps := 500000) -implicitDefEqProofs only [go_sem, hK.idx hc', iA, g1, g2, gp, hx'', hy'', hix, Int.toNat_natCast, Nat.zero_add, hw, ne, ne', t1, t2, hwx, hwy, dct a1])
        refine ⟨i + 1, by dsimp only; omega, ⟨by omega, ?_, ?_, ?_, ?_, ?_, ?_⟩, ?_⟩
        ·(try simp only [set_next]); omega
        ·intro b z hb hz; (try simp only [AStore.get_set]); (try rw [if_neg (by omega)]); (try rw [if_neg (by omega)]); exact hkp b z hb hz
        ·simp (maxSteps := 500000) -implicitDefEqProofs only [go_sem, gp, np1, np2]
        ·simp (maxSteps := 500000) -implicitDefEqProofs only [go_sem, gq, nq1, nq2]
        ·rw [mix_keep hx hs1]; simp (maxSteps := 500000) -implicitDefEqProofs only [go_sem, g1, ne, ne', t1, t2, List.map_set, iA]
        ·rw [mix_keep hy hs2]; simp (maxSteps := 500000) -implicitDefEqProofs only [go_sem, g2, ne, ne', t1, t2, List.map_set, iA]
        ·(repeat' (first | exact trivial | refine ⟨rfl, ?_⟩))
       ·by_cases a2 : y = topR r
        ·have hs1 : (x + 1) = nxL k l r i := by rw [u1]; simp [stepV, a1, a2]
         have hs2 : 0 = nxR k l r i := by rw [u2]; simp [stepV, a1, a2]
         (repeat' first | ((first | refine vy1 ?_ ?_ | refine vy2 ?_ ?_ | refine vy3 ?_ ?_) <;> rintro ⟨hd, hq⟩ <;> first | (exfalso; omega) | simp (maxSteps := 500000) -implicitDefEqProofs only [go_sem, hd, hK.idx hc', iA, g1, g2, gp, hx'', hy'', hix, Int.toNat_natCast, Nat.zero_add, hw, ne, ne', t1, t2, hwx, hwy, dcf a1, dct a2] | skip) | refine vzt ?_ | refine vzf ?_ | refine vsb ?_ | refine vzb ?_ | refine vzq ?_ | simp (maxSteps := 500000) -implicitDefEqProofs only [go_sem, hK.idx hc', iA, g1, g2, gp, hx'', hy'', hix, Int.toNat_natCast, Nat.zero_add, hw, ne, ne', t1, t2, hwx, hwy, dcf a1, dct a2])
         ((try (refine Z_seq ?_; (try simp (maxSteps := 500000) -implicitDefEqProofs only [go_sem]))); refine Z_draw (by kernel_rfl) [0, 1, 2, 3, 4, 5, 6, 7, 8, 9, 10, 11] [(11, 2047), (10, 1023), (9, 455), (8, 199), (7, 64), (6, 0), (5, 0), (4, 8), (3, 0), (2, 0), (1, 1), (0, 0)] (by kernel_rfl) (by kernel_rfl) ?_)
         (repeat' first | ((first | refine vy1 ?_ ?_ | refine vy2 ?_ ?_ | refine vy3 ?_ ?_) <;> rintro ⟨hd, hq⟩ <;> first | (exfalso; omega) | simp (maxSteps := 500000) -implicitDefEqProofs only [go_sem, hd, np1, np2, hK.idx hc', iA, g1, g2, gp, hx'', hy'', hix, Int.toNat_natCast, Nat.zero_add, hw, ne, ne', t1, t2, hwx, hwy, dcf a1, dct a2] | skip) | refine vzt ?_ | refine vzf ?_ | refine vsb ?_ | refine vzb ?_ | refine vzq ?_ | simp (maxSteps := 500000) -implicitDefEqProofs only [go_sem, np1, np2, hK.idx hc', iA, g1, g2, gp, hx'', hy'', hix, Int.toNat_natCast, Nat.zero_add, hw, ne, ne', t1, t2, hwx, hwy, dcf a1, dct a2])
         refine ⟨i + 1, by dsimp only; omega, ⟨by omega, ?_, ?_, ?_, ?_, ?_, ?_⟩, ?_⟩
         ·(try simp only [set_next]); omega
         ·intro b z hb hz; (try simp only [AStore.get_set]); (try rw [if_neg (by omega)]); (try rw [if_neg (by omega)]); exact hkp b z hb hz
         ·simp (maxSteps := 500000) -implicitDefEqProofs only [go_sem, gp, np1, np2]
         ·simp (maxSteps := 500000) -implicitDefEqProofs only [go_sem, gq, nq1, nq2]
         ·rw [← mix_set (x := (x + 1)) (by omega) hs1]; simp (maxSteps := 500000) -implicitDefEqProofs only [go_sem, g1, ne, ne', t1, t2, List.map_set, iA]
         ·rw [← mix_set (x := 0) (by omega) hs2]; simp (maxSteps := 500000) -implicitDefEqProofs only [go_sem, g2, ne, ne', t1, t2, List.map_set, iA]
         ·(repeat' (first | exact trivial | refine ⟨rfl, ?_⟩))
        ·have hs1 : x = nxL k l r i := by rw [u1]; simp [stepV, a1, a2]
         have hs2 : y = nxR k l r i := by rw [u2]; simp [stepV, a1, a2]
         (repeat' first | ((first | refine vy1 ?_ ?_ | refine vy2 ?_ ?_ | refine vy3 ?_ ?_) <;> rintro ⟨hd, hq⟩ <;> first | (exfalso; omega) | simp (maxSteps := 500000) -implicitDefEqProofs only [go_sem, hd, hK.idx hc', iA, g1, g2, gp, hx'', hy'', hix, Int.toNat_natCast, Nat.zero_add, hw, ne, ne', t1, t2, hwx, hwy, dcf a1, dcf a2] | skip) | refine vzt ?_ | refine vzf ?_ | refine vsb ?_ | refine vzb ?_ | refine vzq ?_ | simp (maxSteps := 500000) -implicitDefEqProofs only [go_sem, hK.idx hc', iA, g1, g2, gp, hx'', hy'', hix, Int.toNat_natCast, Nat.zero_add, hw, ne, ne', t1, t2, hwx, hwy, dcf a1, dcf a2])
         refine ⟨i + 1, by dsimp only; omega, ⟨by omega, ?_, ?_, ?_, ?_, ?_, ?_⟩, ?_⟩
         ·(try simp only [set_next]); omega
         ·intro b z hb hz; (try simp only [AStore.get_set]); (try rw [if_neg (by omega)]); (try rw [if_neg (by omega)]); exact hkp b z hb hz
         ·simp (maxSteps := 500000) -implicitDefEqProofs only [go_sem, gp, np1, np2]
         ·simp (maxSteps := 500000) -implicitDefEqProofs only [go_sem, gq, nq1, nq2]
         ·rw [mix_keep hx hs1]; simp (maxSteps := 500000) -implicitDefEqProofs only [go_sem, g1, ne, ne', t1, t2, List.map_set, iA]
         ·rw [mix_keep hy hs2]; simp (maxSteps := 500000) -implicitDefEqProofs only [go_sem, g2, ne, ne', t1, t2, List.map_set, iA]
         ·(repeat' (first | exact trivial | refine ⟨rfl, ?_⟩))
      ·obtain rfl : i = k.length := by omega
       have hqt : p + 1 < τ.next := AStore.lt_of_get gq
       (repeat' first | ((first | refine vy1 ?_ ?_ | refine vy2 ?_ ?_ | refine vy3 ?_ ?_) <;> rintro ⟨hd, hq⟩ <;> first | (exfalso; omega) | simp (maxSteps := 500000) -implicitDefEqProofs only [go_sem, hd, gp, gq, hqt, np1, np2, nq1, nq2, hpq] | skip) | refine vzt ?_ | refine vzf ?_ | refine vsb ?_ | refine vzb ?_ | refine vzq ?_ | simp (maxSteps := 500000) -implicitDefEqProofs only [go_sem, gp, gq, hqt, np1, np2, nq1, nq2, hpq])
       refine ⟨⟨ne, m1, m2, ?_, ?_⟩, by omega, fun b z hb hz => by rw [if_neg (by omega)]; exact hkp b z hb hz⟩
       ·simp only [lats, if_true, e1]; simp (maxSteps := 500000) -implicitDefEqProofs only [go_sem, g1, nb1, nb2, hqt]
       ·simp only [lats, if_true, e2]; simp (maxSteps := 500000) -implicitDefEqProofs only [go_sem, g2, nb1, nb2, hqt]
   | true =>
    have hon : onL k l r = true := by simp only [onL, hWv, Bool.true_or]
    rw [hon]
    (repeat' first | ((first | refine vy1 ?_ ?_ | refine vy2 ?_ ?_ | refine vy3 ?_ ?_) <;> rintro ⟨hd, hq⟩ <;> first | (exfalso; omega) | simp (maxSteps := 500000) -implicitDefEqProofs only [go_sem, hd, gp] | skip) | refine vzt ?_ | refine vzf ?_ | refine vsb ?_ | refine vzb ?_ | refine vzq ?_ | simp (maxSteps := 500000) -implicitDefEqProofs only [go_sem, gp])
    (first | refine Z_block_loop (ι := Nat) (fun i => [(0, K), (3, .ptr p 0 0), (4, .ptr (p + 1) 0 0), (5, (AVal.sc (Value.bool (false)))), (6, (AVal.sc (Value.bool (true)))), (7, (AVal.sc (Value.bool (fTo k l r k.length)))), (8, (AVal.sc (Value.int IntKind.i64 (topR r)))), (60, .slice b1 0 k.length), (61, (AVal.sc (Value.int IntKind.i64 (k.length)))), (62, (AVal.sc (Value.int IntKind.i64 (i))))]) (fun i σ' => i ≤ k.length ∧ σ.next ≤ σ'.next ∧ (∀ b x, b < m → σ.get b = some x → σ'.get b = some x) ∧ σ'.get p = some (.cells 2 [.agg [.slice b1 0 k.length, .slice b2 0 k.length]]) ∧ σ'.get (p + 1) = some (.cells 2 [.agg [(AVal.sc (Value.slice none 0 0)), (AVal.sc (Value.slice none 0 0))]]) ∧ σ'.get b1 = some (.cells 1 ((mixL (nxL k l r) l i).map iA)) ∧ σ'.get b2 = some (.cells 1 ((mixL (nxR k l r) r i).map iA))) (fun i => k.length - i) (fun _ => rfl) 0 ?_ ?_ ?_ | refine Z_seq_loop (ι := Nat) (fun i => [(0, K), (3, .ptr p 0 0), (4, .ptr (p + 1) 0 0), (5, (AVal.sc (Value.bool (false)))), (6, (AVal.sc (Value.bool (true)))), (7, (AVal.sc (Value.bool (fTo k l r k.length)))), (8, (AVal.sc (Value.int IntKind.i64 (topR r)))), (60, .slice b1 0 k.length), (61, (AVal.sc (Value.int IntKind.i64 (k.length)))), (62, (AVal.sc (Value.int IntKind.i64 (i))))]) (fun i σ' => i ≤ k.length ∧ σ.next ≤ σ'.next ∧ (∀ b x, b < m → σ.get b = some x → σ'.get b = some x) ∧ σ'.get p = some (.cells 2 [.agg [.slice b1 0 k.length, .slice b2 0 k.length]]) ∧ σ'.get (p + 1) = some (.cells 2 [.agg [(AVal.sc (Value.slice none 0 0)), (AVal.sc (Value.slice none 0 0))]]) ∧ σ'.get b1 = some (.cells 1 ((mixL (nxL k l r) l i).map iA)) ∧ σ'.get b2 = some (.cells 1 ((mixL (nxR k l r) r i).map iA))) (fun i => k.length - i) (fun _ => rfl) 0 ?_ ?_ ?_ | refine Z_loop (ι := Nat) (fun i => [(0, K), (3, .ptr p 0 0), (4, .ptr (p + 1) 0 0), (5, (AVal.sc (Value.bool (false)))), (6, (AVal.sc (Value.bool (true)))), (7, (AVal.sc (Value.bool (fTo k l r k.length)))), (8, (AVal.sc (Value.int IntKind.i64 (topR r)))), (60, .slice b1 0 k.length), (61, (AVal.sc (Value.int IntKind.i64 (k.length)))), (62, (AVal.sc (Value.int IntKind.i64 (i))))]) (fun i σ' => i ≤ k.length ∧ σ.next ≤ σ'.next ∧ (∀ b x, b < m → σ.get b = some x → σ'.get b = some x) ∧ σ'.get p = some (.cells 2 [.agg [.slice b1 0 k.length, .slice b2 0 k.length]]) ∧ σ'.get (p + 1) = some (.cells 2 [.agg [(AVal.sc (Value.slice none 0 0)), (AVal.sc (Value.slice none 0 0))]]) ∧ σ'.get b1 = some (.cells 1 ((mixL (nxL k l r) l i).map iA)) ∧ σ'.get b2 = some (.cells 1 ((mixL (nxR k l r) r i).map iA))) (fun i => k.length - i) (fun _ => rfl) 0 ?_ ?_ ?_)
    ·(repeat' (first | exact trivial | refine ⟨rfl, ?_⟩))
    ·exact ⟨Nat.zero_le _, hnx, hkp, gp, gq, by rw [mix_zero]; exact g1, by rw [mix_zero]; exact g2⟩
    clear g1 g2 gp gq hnx hkp hpt hqt hi
    ·rintro i τ ⟨hi, hnx, hkp, gp, gq, g1, g2⟩
     have t1 := AStore.lt_of_get g1
     have t2 := AStore.lt_of_get g2
     simp (maxSteps := 500000) -implicitDefEqProofs only [go_sem]
     ((first | refine vz2 ?_ ?_ | refine vz3 ?_ ?_) <;> intro h2)
     ·obtain ⟨c, x, y, hc, hx, hy, c1, c2, x1, x2, y1, y2⟩ := hf.b i (by omega)
      have hc' : (k.map iA)[i]? = some (iA c) := by simp [hc]
      have hx'' : ((mixL (nxL k l r) l i).map iA)[i]? = some (iA x) := by rw [List.getElem?_map, mix_get, hx]; rfl
      have hy'' : ((mixL (nxR k l r) r i).map iA)[i]? = some (iA y) := by rw [List.getElem?_map, mix_get, hy]; rfl
      have hw := wrapS (i := i) (by omega)
      have hwx : IntKind.i64.wrap (x + 1) = x + 1 := wrap64 (by omega) (by omega)
      have hwy : IntKind.i64.wrap (y + 1) = y + 1 := wrap64 (by omega) (by omega)
      have hix : (0 : Int) ≤ i ∧ (i : Int) < (k.length : Int) := ⟨by omega, by omega⟩
      have u1 : nxL k l r i = (stepV true (fTo k l r k.length) (topR r) c x y).1 := by unfold nxL; rw [at_of hc, at_of hx, at_of hy, hWv]
      have u2 : nxR k l r i = (stepV true (fTo k l r k.length) (topR r) c x y).2 := by unfold nxR; rw [at_of hc, at_of hx, at_of hy, hWv]
      generalize fTo k l r k.length = F at u1 u2 ⊢
      by_cases a1 : c < x
      ·have hs1 : x = nxL k l r i := by rw [u1]; simp [stepV, a1]
       have hs2 : y = nxR k l r i := by rw [u2]; simp [stepV, a1]
       (repeat' first | ((first | refine vy1 ?_ ?_ | refine vy2 ?_ ?_ | refine vy3 ?_ ?_) <;> rintro ⟨hd, hq⟩ <;> first | (exfalso; omega) | simp (maxSteps := 500000) -implicitDefEqProofs only [go_sem, hd, hK.idx hc', iA, g1, g2, gp, hx'', hy'', hix, Int.toNat_natCast, Nat.zero_add, hw, ne, ne', t1, t2, hwx, hwy, dct a1] | skip) | refine vzt ?_ | refine vzf ?_ | refine vsb ?_ | refine vzb ?_ | refine vzq ?_ | simp (maxSteps := 500000) -implicitDefEqProofs only [go_sem, hK.idx hc', iA, g1, g2, gp, hx'', hy'', hix, Int.toNat_natCast, Nat.zero_add, hw, ne, ne', t1, t2, hwx, hwy, dct a1])
       refine ⟨i + 1, by dsimp only; omega, ⟨by omega, ?_, ?_, ?_, ?_, ?_, ?_⟩, ?_⟩
       ·(try simp only [set_next]); omega
       ·intro b z hb hz; (try simp only [AStore.get_set]); (try rw [if_neg (by omega)]); (try rw [if_neg (by omega)]); exact hkp b z hb hz
       ·simp (maxSteps := 500000) -implicitDefEqProofs only [go_sem, gp, np1, np2]
       ·simp (maxSteps := 500000) -implicitDefEqProofs only [go_sem, gq, nq1, nq2]
       ·rw [mix_keep hx hs1]; simp (maxSteps := 500000) -implicitDefEqProofs only [go_sem, g1, ne, ne', t1, t2, List.map_set, iA]
       ·rw [mix_keep hy hs2]; simp (maxSteps := 500000) -implicitDefEqProofs only [go_sem, g2, ne, ne', t1, t2, List.map_set, iA]
       ·(repeat' (first | exact trivial | refine ⟨rfl, ?_⟩))
      ·by_cases a2 : y = 0
       ·subst a2
        by_cases a3 : x = c
        ·have hs1 : (x + 1) = nxL k l r i := by rw [u1]; simp [stepV, a1, a3]
         have hs2 : 0 = nxR k l r i := by rw [u2]; simp [stepV, a1, a3]
         (repeat' first | ((first | refine vy1 ?_ ?_ | refine vy2 ?_ ?_ | refine vy3 ?_ ?_) <;> rintro ⟨hd, hq⟩ <;> first | (exfalso; omega) | simp (maxSteps := 500000) -implicitDefEqProofs only [go_sem, hd, hK.idx hc', iA, g1, g2, gp, hx'', hy'', hix, Int.toNat_natCast, Nat.zero_add, hw, ne, ne', t1, t2, hwx, hwy, dcf a1, dct a3] | skip) | refine vzt ?_ | refine vzf ?_ | refine vsb ?_ | refine vzb ?_ | refine vzq ?_ | simp (maxSteps := 500000) -implicitDefEqProofs only [go_sem, hK.idx hc', iA, g1, g2, gp, hx'', hy'', hix, Int.toNat_natCast, Nat.zero_add, hw, ne, ne', t1, t2, hwx, hwy, dcf a1, dct a3])
         refine ⟨i + 1, by dsimp only; omega, ⟨by omega, ?_, ?_, ?_, ?_, ?_, ?_⟩, ?_⟩
         ·(try simp only [set_next]); omega
         ·intro b z hb hz; (try simp only [AStore.get_set]); (try rw [if_neg (by omega)]); (try rw [if_neg (by omega)]); exact hkp b z hb hz
         ·simp (maxSteps := 500000) -implicitDefEqProofs only [go_sem, gp, np1, np2]
         ·simp (maxSteps := 500000) -implicitDefEqProofs only [go_sem, gq, nq1, nq2]
         ·rw [← mix_set (x := (x + 1)) (by omega) hs1]; simp (maxSteps := 500000) -implicitDefEqProofs only [go_sem, g1, ne, ne', t1, t2, List.map_set, iA]
         ·rw [mix_keep hy hs2]; simp (maxSteps := 500000) -implicitDefEqProofs only [go_sem, g2, ne, ne', t1, t2, List.map_set, iA]
         ·(repeat' (first | exact trivial | refine ⟨rfl, ?_⟩))
        ·have hs1 : x = nxL k l r i := by rw [u1]; simp [stepV, a1, a3]
         have hs2 : 1 = nxR k l r i := by rw [u2]; simp [stepV, a1, a3]
         (repeat' first | ((first | refine vy1 ?_ ?_ | refine vy2 ?_ ?_ | refine vy3 ?_ ?_) <;> rintro ⟨hd, hq⟩ <;> first | (exfalso; omega) | simp (maxSteps := 500000) -implicitDefEqProofs only [go_sem, hd, hK.idx hc', iA, g1, g2, gp, hx'', hy'', hix, Int.toNat_natCast, Nat.zero_add, hw, ne, ne', t1, t2, hwx, hwy, dcf a1, dcf a3] | skip) | refine vzt ?_ | refine vzf ?_ | refine vsb ?_ | refine vzb ?_ | refine vzq ?_ | simp (maxSteps := 500000) -implicitDefEqProofs only [go_sem, hK.idx hc', iA, g1, g2, gp, hx'', hy'', hix, Int.toNat_natCast, Nat.zero_add, hw, ne, ne', t1, t2, hwx, hwy, dcf a1, dcf a3])
         refine ⟨i + 1, by dsimp only; omega, ⟨by omega, ?_, ?_, ?_, ?_, ?_, ?_⟩, ?_⟩
         ·(try simp only [set_next]); omega
         ·intro b z hb hz; (try simp only [AStore.get_set]); (try rw [if_neg (by omega)]); (try rw [if_neg (by omega)]); exact hkp b z hb hz
         ·simp (maxSteps := 500000) -implicitDefEqProofs only [go_sem, gp, np1, np2]
         ·simp (maxSteps := 500000) -implicitDefEqProofs only [go_sem, gq, nq1, nq2]
         ·rw [mix_keep hx hs1]; simp (maxSteps := 500000) -implicitDefEqProofs only [go_sem, g1, ne, ne', t1, t2, List.map_set, iA]
         ·rw [← mix_set (x := 1) (by omega) hs2]; simp (maxSteps := 500000) -implicitDefEqProofs only [go_sem, g2, ne, ne', t1, t2, List.map_set, iA]
         ·(repeat' (first | exact trivial | refine ⟨rfl, ?_⟩))
       ·have a4 : 0 < y := by omega
        cases F
        ·have hs1 : x = nxL k l r i := by rw [u1]; simp [stepV, a1, a2, a4]
         have hs2 : y = nxR k l r i := by rw [u2]; simp [stepV, a1, a2, a4]
         (repeat' first | ((first | refine vy1 ?_ ?_ | refine vy2 ?_ ?_ | refine vy3 ?_ ?_) <;> rintro ⟨hd, hq⟩ <;> first | (exfalso; omega) | simp (maxSteps := 500000) -implicitDefEqProofs only [go_sem, hd, hK.idx hc', iA, g1, g2, gp, hx'', hy'', hix, Int.toNat_natCast, Nat.zero_add, hw, ne, ne', t1, t2, hwx, hwy, dcf a1, dcf a2, dct a4] | skip) | refine vzt ?_ | refine vzf ?_ | refine vsb ?_ | refine vzb ?_ | refine vzq ?_ | simp (maxSteps := 500000) -implicitDefEqProofs only [go_sem, hK.idx hc', iA, g1, g2, gp, hx'', hy'', hix, Int.toNat_natCast, Nat.zero_add, hw, ne, ne', t1, t2, hwx, hwy, dcf a1, dcf a2, dct a4])
         refine ⟨i + 1, by dsimp only; omega, ⟨by omega, ?_, ?_, ?_, ?_, ?_, ?_⟩, ?_⟩
         ·(try simp only [set_next]); omega
         ·intro b z hb hz; (try simp only [AStore.get_set]); (try rw [if_neg (by omega)]); (try rw [if_neg (by omega)]); exact hkp b z hb hz
         ·simp (maxSteps := 500000) -implicitDefEqProofs only [go_sem, gp, np1, np2]
         ·simp (maxSteps := 500000) -implicitDefEqProofs only [go_sem, gq, nq1, nq2]
         ·rw [mix_keep hx hs1]; simp (maxSteps := 500000) -implicitDefEqProofs only [go_sem, g1, ne, ne', t1, t2, List.map_set, iA]
         ·rw [mix_keep hy hs2]; simp (maxSteps := 500000) -implicitDefEqProofs only [go_sem, g2, ne, ne', t1, t2, List.map_set, iA]
         ·(repeat' (first | exact trivial | refine ⟨rfl, ?_⟩))
        ·have hs1 : x = nxL k l r i := by rw [u1]; simp [stepV, a1, a2, a4]
         have hs2 : (y + 1) = nxR k l r i := by rw [u2]; simp [stepV, a1, a2, a4]
         (repeat' first | ((first | refine vy1 ?_ ?_ | refine vy2 ?_ ?_ | refine vy3 ?_ ?_) <;> rintro ⟨hd, hq⟩ <;> first | (exfalso; omega) | simp (maxSteps := 500000) -implicitDefEqProofs only [go_sem, hd, hK.idx hc', iA, g1, g2, gp, hx'', hy'', hix, Int.toNat_natCast, Nat.zero_add, hw, ne, ne', t1, t2, hwx, hwy, dcf a1, dcf a2, dct a4] | skip) | refine vzt ?_ | refine vzf ?_ | refine vsb ?_ | refine vzb ?_ | refine vzq ?_ | simp (maxSteps := 500000) -implicitDefEqProofs only [go_sem, hK.idx hc', iA, g1, g2, gp, hx'', hy'', hix, Int.toNat_natCast, Nat.zero_add, hw, ne, ne', t1, t2, hwx, hwy, dcf a1, dcf a2, dct a4])
         refine ⟨i + 1, by dsimp only; omega, ⟨by omega, ?_, ?_, ?_, ?_, ?_, ?_⟩, ?_⟩
         ·(try simp only [set_next]); omega
         ·intro b z hb hz; (try simp only [AStore.get_set]); (try rw [if_neg (by omega)]); (try rw [if_neg (by omega)]); exact hkp b z hb hz
         ·simp (maxSteps := 500000) -implicitDefEqProofs only [go_sem, gp, np1, np2]
         ·simp (maxSteps := 500000) -implicitDefEqProofs only [go_sem, gq, nq1, nq2]
         ·rw [mix_keep hx hs1]; simp (maxSteps := 500000) -implicitDefEqProofs only [go_sem, g1, ne, ne', t1, t2, List.map_set, iA]
         ·rw [← mix_set (x := (y + 1)) (by omega) hs2]; simp (maxSteps := 500000) -implicitDefEqProofs only [go_sem, g2, ne, ne', t1, t2, List.map_set, iA]
         ·(repeat' (first | exact trivial | refine ⟨rfl, ?_⟩))
     ·obtain rfl : i = k.length := by omega
      have hqt : p + 1 < τ.next := AStore.lt_of_get gq
      (repeat' first | ((first | refine vy1 ?_ ?_ | refine vy2 ?_ ?_ | refine vy3 ?_ ?_) <;> rintro ⟨hd, hq⟩ <;> first | (exfalso; omega) | simp (maxSteps := 500000) -implicitDefEqProofs only [go_sem, hd, gp, gq, hqt, np1, np2, nq1, nq2, hpq] | skip) | refine vzt ?_ | refine vzf ?_ | refine vsb ?_ | refine vzb ?_ | refine vzq ?_ | simp (maxSteps := 500000) -implicitDefEqProofs only [go_sem, gp, gq, hqt, np1, np2, nq1, nq2, hpq])
      refine ⟨⟨ne, m1, m2, ?_, ?_⟩, by omega, fun b z hb hz => by rw [if_neg (by omega)]; exact hkp b z hb hz⟩
      ·simp only [lats, if_true, e1]; simp (maxSteps := 500000) -implicitDefEqProofs only [go_sem, g1, nb1, nb2, hqt]
      ·simp only [lats, if_true, e2]; simp (maxSteps := 500000) -implicitDefEqProofs only [go_sem, g2, nb1, nb2, hqt]
end Abs
