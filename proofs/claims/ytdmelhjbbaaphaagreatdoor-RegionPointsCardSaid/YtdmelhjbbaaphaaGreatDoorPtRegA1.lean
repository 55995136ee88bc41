/-
  Functions of the program walked: each is shown to compute a plain function (RegA1).
-/
import Derived.Test.YtdmelhjbbaaphaaGreatDoorPtRegY
namespace Abs
set_option linter.unusedSimpArgs false
set_option linter.unusedVariables false
set_option maxRecDepth 100000
set_option maxHeartbeats 2000000
open Go Go.Proofs
def rsA (x : Int × Int) : AVal := .agg [(AVal.sc (Value.int IntKind.i64 (x.1))), (AVal.sc (Value.int IntKind.i64 (x.2)))]
theorem wfRs (x : Int × Int) : WF 0 (rsA x) := .agg _ (.cons _ _ (.sc _) (.cons _ _ (.sc _) .nil))
def minI (a b : Int) : Int := if b < a then b else a
def dec1 (was : Int) (y : Int) : Int := if was < y then y - 1 else y
def rsL (k l : List Int) (i : Nat) (to : Int) : List Int := l.set i (minI to (at0 k i + 1))
def rsR (r : List Int) (i : Nat) : List Int := if at0 r i = 0 ∨ at0 r i ∈ r.set i 0 then r.set i 0 else (r.set i 0).map (dec1 (at0 r i))
theorem map_mix {f : Int → Int} {l : List Int} : mixL (fun i => f (at0 l i)) l l.length = l.map f := by
 apply List.ext_getElem?
 intro j
 rw [mix_at, List.getElem?_map]
 by_cases h : j < l.length
 ·rw [if_pos h, List.getElem?_eq_getElem h, at_of (List.getElem?_eq_getElem h)]; rfl
 ·rw [if_neg h, List.getElem?_eq_none (by omega)]; rfl
set_option maxHeartbeats 8000000 in
theorem resetC {w : World} {K : AVal} {k l r : List Int} {b1 b2 m i : Nat} {to : Int} {σ : AStore} (hK : IsD 1 K (k.map iA)) (hf : Fine k l r) (hi : i < k.length) (h0 : 0 ≤ to) (h1 : to ≤ 1048576) (ht : Two m σ b1 b2 l r) :
  ACalls (EE w) 43 [K, rgA (.slice b1 0 k.length) (.slice b2 0 k.length), rsA ((i : Int) + 1, to)] σ fun e σ' =>
   e = .ret (rgA (.slice b1 0 k.length) (.slice b2 0 k.length)) ∧ Two m σ' b1 b2 (rsL k l i to) (rsR r i) ∧ σ.next ≤ σ'.next ∧ ∀ b x, b < m → σ.get b = some x → σ'.get b = some x := by
 obtain ⟨ne, m1, m2, g1, g2⟩ := ht
 have e1 := hf.ln
 have e2 := hf.rn
 have hn10 := hf.n
 have p1 := AStore.lt_of_get g1
 have p2 := AStore.lt_of_get g2
 have ne' : ¬ b2 = b1 := fun h => ne h.symm
 obtain ⟨p, hp⟩ : ∃ p, p = σ.next := ⟨_, rfl⟩
 rw [← hp] at p1 p2
 obtain ⟨c, x, y, hc, hx, hy, c1, c2, x1, x2, y1, y2⟩ := hf.b i hi
 have hc' : (k.map iA)[i]? = some (iA c) := by simp [hc]
 have hx' : (l.map iA)[i]? = some (iA x) := by simp [hx]
 have hy' : (r.map iA)[i]? = some (iA y) := by simp [hy]
 have hix : (0 : Int) ≤ i ∧ (i : Int) < (k.length : Int) := ⟨by omega, by omega⟩
 have hwi : IntKind.i64.wrap ((i : Int) + 1 - 1) = (i : Int) := by rw [wrap64 (by omega) (by omega)]; omega
 have hwc : IntKind.i64.wrap (c + 1) = c + 1 := wrap64 (by omega) (by omega)
 have n0 : ¬ p = p + 1 := by omega
 have n1 : ¬ p = p + 1 + 1 := by omega
 have n2 : ¬ p + 1 = p + 1 + 1 := by omega
 have nb1 : ¬ b1 = p := by omega
 have nb2 : ¬ b2 = p := by omega
 have nb3 : ¬ b1 = p + 1 := by omega
 have nb4 : ¬ b2 = p + 1 := by omega
 have nb5 : ¬ b1 = p + 1 + 1 := by omega
 have nb6 : ¬ b2 = p + 1 + 1 := by omega
 have np1 : ¬ p = b1 := by omega
 have np2 : ¬ p = b2 := by omega
 have np3 : ¬ p + 1 = b1 := by omega
 have np4 : ¬ p + 1 = b2 := by omega
 have np5 : ¬ p + 1 + 1 = b1 := by omega
 have np6 : ¬ p + 1 + 1 = b2 := by omega
 have lt1 : b1 < p + 1 + 1 + 1 := by omega
 have lt2 : b2 < p + 1 + 1 + 1 := by omega
 have lt3 : p + 1 + 1 < p + 1 + 1 + 1 := by omega
 have hrl : rsL k l i to = l.set i (minI to (c + 1)) := by simp only [rsL, at_of hc]
 refine of_43 rfl rfl rfl (by kernel_rfl) ?_
 simp (maxSteps := 500000) -implicitDefEqProofs only [go_sem, rgA, rsA, ← hp, n0, n1, n2, hwi, g1, g2, nb1, nb2, nb3, nb4, nb5, nb6, hy', hix, iA]
 (repeat' first | ((first | refine vy1 ?_ ?_ | refine vy2 ?_ ?_ | refine vy3 ?_ ?_) <;> rintro ⟨hd, hq⟩ <;> first | (exfalso; omega) | simp (maxSteps := 500000) -implicitDefEqProofs only [go_sem, hd] | skip) | refine vzt ?_ | refine vzf ?_ | refine vsb ?_ | refine vzb ?_ | refine vzq ?_ | simp (maxSteps := 500000) -implicitDefEqProofs only [go_sem])
 ((try (refine Z_seq ?_; (try simp (maxSteps := 500000) -implicitDefEqProofs only [go_sem]))); refine Z_draw (by kernel_rfl) [0, 1, 2, 3, 4, 5, 6, 7, 8, 9, 10, 11, 12, 13, 14, 15, 16, 17] [(17, 131071), (16, 65535), (15, 32711), (14, 16327), (13, 8128), (12, 3840), (11, 1792), (10, 768), (9, 0), (8, 0), (7, 64), (6, 0), (5, 0), (4, 8), (3, 0), (2, 0), (1, 1), (0, 0)] (by kernel_rfl) (by kernel_rfl) ?_)
 simp (maxSteps := 500000) -implicitDefEqProofs only [go_sem, ← hp, n0, n1, n2, hwi, hwc, g1, g2, nb1, nb2, nb3, nb4, nb5, nb6, np1, np2, np3, np4, np5, np6, lt1, lt2, ne, ne', hx', hy', hK.idx hc', hix, iA]
 have hr1 : at0 r i = y := at_of hy
 obtain ⟨r1, hr1e⟩ : ∃ r1, r1 = r.set i 0 := ⟨_, rfl⟩
 have r1l : r1.length = k.length := by rw [hr1e, List.length_set, e2]
 have m1e : (l.map iA).set i (.sc (.int .i64 (if c + 1 < to then c + 1 else to))) = (rsL k l i to).map iA := by rw [hrl, List.map_set]; rfl
 have m2e : (r.map iA).set i (.sc (.int .i64 0)) = r1.map iA := by rw [hr1e, List.map_set]; rfl
 rw [m1e, m2e]
 obtain ⟨τ, hτ⟩ : ∃ τ, τ = ((((σ.alloc (.cells 2 [.agg [.slice b1 0 k.length, .slice b2 0 k.length]])).alloc (.cells 2 [.agg [(AVal.sc (Value.int IntKind.i64 ((i : Int) + 1))), (AVal.sc (Value.int IntKind.i64 (to)))]])).alloc (.cells 2 [.agg [(AVal.sc (Value.slice none 0 0)), (AVal.sc (Value.slice none 0 0))]])).set b1 (.cells 1 ((rsL k l i to).map iA))).set b2 (.cells 1 (r1.map iA)) := ⟨_, rfl⟩
 have gp : τ.get p = some (.cells 2 [.agg [.slice b1 0 k.length, .slice b2 0 k.length]]) := by
  rw [hτ, AStore.get_set, if_neg (by omega), AStore.get_set, if_neg (by omega)]
  exact get_alloc_old (get_alloc_old (hp ▸ getA))
 have gq : τ.get (p + 1 + 1) = some (.cells 2 [.agg [(AVal.sc (Value.slice none 0 0)), (AVal.sc (Value.slice none 0 0))]]) := by
  rw [hτ, AStore.get_set, if_neg (by omega), AStore.get_set, if_neg (by omega)]
  exact hp ▸ getA (σ := (σ.alloc _).alloc _)
 have g1' : τ.get b1 = some (.cells 1 ((rsL k l i to).map iA)) := by
  rw [hτ, AStore.get_set, if_neg (by omega), AStore.get_set, if_pos ⟨rfl, by simp only [alloc_next]; omega⟩]
 have g2' : τ.get b2 = some (.cells 1 (r1.map iA)) := by
  rw [hτ, AStore.get_set, if_pos ⟨rfl, by simp only [alloc_next, set_next]; omega⟩]
 have hkp : ∀ b x, b < m → σ.get b = some x → τ.get b = some x := by
  intro b x hb hx
  rw [hτ, AStore.get_set, if_neg (by omega), AStore.get_set, if_neg (by omega)]
  exact get_alloc_old (get_alloc_old (get_alloc_old hx))
 have hnx : σ.next ≤ τ.next := by
  rw [hτ]; simp only [set_next, alloc_next]; omega
 rw [← hτ]
 have hqt : p + 1 + 1 < τ.next := AStore.lt_of_get gq
 clear hτ g1 g2 hx' hy'
 by_cases a1 : y = 0
 ·have hrr : rsR r i = r1 := by unfold rsR; rw [hr1, if_pos (.inl a1), hr1e]
  (repeat' first | ((first | refine vy1 ?_ ?_ | refine vy2 ?_ ?_ | refine vy3 ?_ ?_) <;> rintro ⟨hd, hq⟩ <;> first | (exfalso; omega) | simp (maxSteps := 500000) -implicitDefEqProofs only [go_sem, hd, dct a1, gp, gq, hqt] | skip) | refine vzt ?_ | refine vzf ?_ | refine vsb ?_ | refine vzb ?_ | refine vzq ?_ | simp (maxSteps := 500000) -implicitDefEqProofs only [go_sem, dct a1, gp, gq, hqt])
  refine ⟨⟨ne, m1, m2, ?_, ?_⟩, by omega, ?_⟩
  ·simp (maxSteps := 500000) -implicitDefEqProofs only [go_sem, nb5, g1']
  ·rw [hrr]; simp (maxSteps := 500000) -implicitDefEqProofs only [go_sem, nb6, g2']
  ·intro b z hb hz; rw [if_neg (by omega)]; exact hkp b z hb hz
 (repeat' first | ((first | refine vy1 ?_ ?_ | refine vy2 ?_ ?_ | refine vy3 ?_ ?_) <;> rintro ⟨hd, hq⟩ <;> first | (exfalso; omega) | simp (maxSteps := 500000) -implicitDefEqProofs only [go_sem, hd, dcf a1, gp, gq, hqt] | skip) | refine vzt ?_ | refine vzf ?_ | refine vsb ?_ | refine vzb ?_ | refine vzq ?_ | simp (maxSteps := 500000) -implicitDefEqProofs only [go_sem, dcf a1, gp, gq, hqt])
 (first | refine Z_block_loop (ι := Nat) (fun j => [(4, .ptr p 0 0), (6, .ptr (p + 1 + 1) 0 0), (8, (AVal.sc (Value.int IntKind.i64 (y)))), (41, .slice b2 0 k.length), (42, (AVal.sc (Value.int IntKind.i64 (k.length)))), (43, (AVal.sc (Value.int IntKind.i64 (j))))]) (fun j σ' => j ≤ k.length ∧ (∀ (j' : Nat) z, j' < j → r1[j']? = some z → z ≠ y) ∧ σ.next ≤ σ'.next ∧ (∀ b x, b < m → σ.get b = some x → σ'.get b = some x) ∧ σ'.get p = some (.cells 2 [.agg [.slice b1 0 k.length, .slice b2 0 k.length]]) ∧ σ'.get (p + 1 + 1) = some (.cells 2 [.agg [(AVal.sc (Value.slice none 0 0)), (AVal.sc (Value.slice none 0 0))]]) ∧ σ'.get b1 = some (.cells 1 ((rsL k l i to).map iA)) ∧ σ'.get b2 = some (.cells 1 (r1.map iA))) (fun j => k.length - j) (fun _ => rfl) 0 ?_ ?_ ?_ | refine Z_seq_loop (ι := Nat) (fun j => [(4, .ptr p 0 0), (6, .ptr (p + 1 + 1) 0 0), (8, (AVal.sc (Value.int IntKind.i64 (y)))), (41, .slice b2 0 k.length), (42, (AVal.sc (Value.int IntKind.i64 (k.length)))), (43, (AVal.sc (Value.int IntKind.i64 (j))))]) (fun j σ' => j ≤ k.length ∧ (∀ (j' : Nat) z, j' < j → r1[j']? = some z → z ≠ y) ∧ σ.next ≤ σ'.next ∧ (∀ b x, b < m → σ.get b = some x → σ'.get b = some x) ∧ σ'.get p = some (.cells 2 [.agg [.slice b1 0 k.length, .slice b2 0 k.length]]) ∧ σ'.get (p + 1 + 1) = some (.cells 2 [.agg [(AVal.sc (Value.slice none 0 0)), (AVal.sc (Value.slice none 0 0))]]) ∧ σ'.get b1 = some (.cells 1 ((rsL k l i to).map iA)) ∧ σ'.get b2 = some (.cells 1 (r1.map iA))) (fun j => k.length - j) (fun _ => rfl) 0 ?_ ?_ ?_ | refine Z_loop (ι := Nat) (fun j => [(4, .ptr p 0 0), (6, .ptr (p + 1 + 1) 0 0), (8, (AVal.sc (Value.int IntKind.i64 (y)))), (41, .slice b2 0 k.length), (42, (AVal.sc (Value.int IntKind.i64 (k.length)))), (43, (AVal.sc (Value.int IntKind.i64 (j))))]) (fun j σ' => j ≤ k.length ∧ (∀ (j' : Nat) z, j' < j → r1[j']? = some z → z ≠ y) ∧ σ.next ≤ σ'.next ∧ (∀ b x, b < m → σ.get b = some x → σ'.get b = some x) ∧ σ'.get p = some (.cells 2 [.agg [.slice b1 0 k.length, .slice b2 0 k.length]]) ∧ σ'.get (p + 1 + 1) = some (.cells 2 [.agg [(AVal.sc (Value.slice none 0 0)), (AVal.sc (Value.slice none 0 0))]]) ∧ σ'.get b1 = some (.cells 1 ((rsL k l i to).map iA)) ∧ σ'.get b2 = some (.cells 1 (r1.map iA))) (fun j => k.length - j) (fun _ => rfl) 0 ?_ ?_ ?_)
 ·(repeat' (first | exact trivial | refine ⟨rfl, ?_⟩))
 ·exact ⟨Nat.zero_le _, by omega, hnx, hkp, gp, gq, g1', g2'⟩
 clear gp gq g1' g2' hkp hnx hqt
 rintro j τ ⟨hj, hno, hnx, hkp, gp, gq, g1, g2⟩
 have hqt : p + 1 + 1 < τ.next := AStore.lt_of_get gq
 simp (maxSteps := 500000) -implicitDefEqProofs only [go_sem]
 ((first | refine vz2 ?_ ?_ | refine vz3 ?_ ?_) <;> intro h2)
 ·obtain ⟨z, hz⟩ : ∃ z, r1[j]? = some z := ⟨r1[j]'(by omega), by simp⟩
  have hz' : (r1.map iA)[j]? = some (iA z) := by simp [hz]
  have hjx : (0 : Int) ≤ j ∧ (j : Int) < (k.length : Int) := ⟨by omega, by omega⟩
  have hw := wrapS (i := j) (by omega)
  by_cases a2 : z = y
  ·have hrr : rsR r i = r1 := by unfold rsR; rw [hr1, ← hr1e, if_pos (.inr (a2 ▸ List.mem_of_getElem? hz))]
   (repeat' first | ((first | refine vy1 ?_ ?_ | refine vy2 ?_ ?_ | refine vy3 ?_ ?_) <;> rintro ⟨hd, hq⟩ <;> first | (exfalso; omega) | simp (maxSteps := 500000) -implicitDefEqProofs only [go_sem, hd, dct a2, g2, hz', hjx, iA, gp, gq, hqt] | skip) | refine vzt ?_ | refine vzf ?_ | refine vsb ?_ | refine vzb ?_ | refine vzq ?_ | simp (maxSteps := 500000) -implicitDefEqProofs only [go_sem, dct a2, g2, hz', hjx, iA, gp, gq, hqt])
   refine ⟨⟨ne, m1, m2, ?_, ?_⟩, by omega, ?_⟩
   ·simp (maxSteps := 500000) -implicitDefEqProofs only [go_sem, nb5, g1]
   ·rw [hrr]; simp (maxSteps := 500000) -implicitDefEqProofs only [go_sem, nb6, g2]
   ·intro b z hb hz; rw [if_neg (by omega)]; exact hkp b z hb hz
  ·(repeat' first | ((first | refine vy1 ?_ ?_ | refine vy2 ?_ ?_ | refine vy3 ?_ ?_) <;> rintro ⟨hd, hq⟩ <;> first | (exfalso; omega) | simp (maxSteps := 500000) -implicitDefEqProofs only [go_sem, hd, dcf a2, g2, hz', hjx, iA, hw] | skip) | refine vzt ?_ | refine vzf ?_ | refine vsb ?_ | refine vzb ?_ | refine vzq ?_ | simp (maxSteps := 500000) -implicitDefEqProofs only [go_sem, dcf a2, g2, hz', hjx, iA, hw])
   refine ⟨j + 1, by dsimp only; omega, ⟨by omega, ?_, hnx, hkp, gp, gq, g1, g2⟩, ?_⟩
   ·intro j' z' hj' hzz
    rcases Nat.lt_or_ge j' j with h' | h'
    ·exact hno j' z' h' hzz
    ·obtain rfl : j' = j := by omega
     rw [hz] at hzz; cases hzz; exact a2
   ·(repeat' (first | exact trivial | refine ⟨rfl, ?_⟩))
 obtain rfl : j = k.length := by omega
 have hnm : y ∉ r1 := fun hm => by
  obtain ⟨j, hj, e⟩ := List.mem_iff_getElem.1 hm
  exact hno j _ (by omega) (List.getElem?_eq_getElem hj) e
 have hrr : rsR r i = r1.map (dec1 y) := by unfold rsR; rw [hr1, ← hr1e, if_neg (fun h => h.elim a1 hnm)]
 have rb : ∀ (j : Nat) z, r1[j]? = some z → 0 ≤ z ∧ z ≤ 10 := by
  intro j z hz
  rw [hr1e, List.getElem?_set] at hz
  split at hz
  ·split at hz
   ·cases hz; omega
   ·cases hz
  ·obtain ⟨c, x, y, _, _, h3, _, _, _, _, h4, h5⟩ := hf.b j (by
    rcases Nat.lt_or_ge j r.length with h' | h'
    ·omega
    ·rw [List.getElem?_eq_none h'] at hz; cases hz)
   rw [h3] at hz; cases hz; omega
 clear hno
 (repeat' first | ((first | refine vy1 ?_ ?_ | refine vy2 ?_ ?_ | refine vy3 ?_ ?_) <;> rintro ⟨hd, hq⟩ <;> first | (exfalso; omega) | simp (maxSteps := 500000) -implicitDefEqProofs only [go_sem, hd, gp, gq, hqt] | skip) | refine vzt ?_ | refine vzf ?_ | refine vsb ?_ | refine vzb ?_ | refine vzq ?_ | simp (maxSteps := 500000) -implicitDefEqProofs only [go_sem, gp, gq, hqt])
 (first | refine Z_block_loop (ι := Nat) (fun j => [(4, .ptr p 0 0), (6, .ptr (p + 1 + 1) 0 0), (8, (AVal.sc (Value.int IntKind.i64 (y)))), (53, .slice b2 0 k.length), (54, (AVal.sc (Value.int IntKind.i64 (k.length)))), (55, (AVal.sc (Value.int IntKind.i64 (j))))]) (fun j σ' => j ≤ k.length ∧ σ.next ≤ σ'.next ∧ (∀ b x, b < m → σ.get b = some x → σ'.get b = some x) ∧ σ'.get p = some (.cells 2 [.agg [.slice b1 0 k.length, .slice b2 0 k.length]]) ∧ σ'.get (p + 1 + 1) = some (.cells 2 [.agg [(AVal.sc (Value.slice none 0 0)), (AVal.sc (Value.slice none 0 0))]]) ∧ σ'.get b1 = some (.cells 1 ((rsL k l i to).map iA)) ∧ σ'.get b2 = some (.cells 1 ((mixL (fun j => dec1 y (at0 r1 j)) r1 j).map iA))) (fun j => k.length - j) (fun _ => rfl) 0 ?_ ?_ ?_ | refine Z_seq_loop (ι := Nat) (fun j => [(4, .ptr p 0 0), (6, .ptr (p + 1 + 1) 0 0), (8, (AVal.sc (Value.int IntKind.i64 (y)))), (53, .slice b2 0 k.length), (54, (AVal.sc (Value.int IntKind.i64 (k.length)))), (55, (AVal.sc (Value.int IntKind.i64 (j))))]) (fun j σ' => j ≤ k.length ∧ σ.next ≤ σ'.next ∧ (∀ b x, b < m → σ.get b = some x → σ'.get b = some x) ∧ σ'.get p = some (.cells 2 [.agg [.slice b1 0 k.length, .slice b2 0 k.length]]) ∧ σ'.get (p + 1 + 1) = some (.cells 2 [.agg [(AVal.sc (Value.slice none 0 0)), (AVal.sc (Value.slice none 0 0))]]) ∧ σ'.get b1 = some (.cells 1 ((rsL k l i to).map iA)) ∧ σ'.get b2 = some (.cells 1 ((mixL (fun j => dec1 y (at0 r1 j)) r1 j).map iA))) (fun j => k.length - j) (fun _ => rfl) 0 ?_ ?_ ?_ | refine Z_loop (ι := Nat) (fun j => [(4, .ptr p 0 0), (6, .ptr (p + 1 + 1) 0 0), (8, (AVal.sc (Value.int IntKind.i64 (y)))), (53, .slice b2 0 k.length), (54, (AVal.sc (Value.int IntKind.i64 (k.length)))), (55, (AVal.sc (Value.int IntKind.i64 (j))))]) (fun j σ' => j ≤ k.length ∧ σ.next ≤ σ'.next ∧ (∀ b x, b < m → σ.get b = some x → σ'.get b = some x) ∧ σ'.get p = some (.cells 2 [.agg [.slice b1 0 k.length, .slice b2 0 k.length]]) ∧ σ'.get (p + 1 + 1) = some (.cells 2 [.agg [(AVal.sc (Value.slice none 0 0)), (AVal.sc (Value.slice none 0 0))]]) ∧ σ'.get b1 = some (.cells 1 ((rsL k l i to).map iA)) ∧ σ'.get b2 = some (.cells 1 ((mixL (fun j => dec1 y (at0 r1 j)) r1 j).map iA))) (fun j => k.length - j) (fun _ => rfl) 0 ?_ ?_ ?_)
 ·(repeat' (first | exact trivial | refine ⟨rfl, ?_⟩))
 ·exact ⟨Nat.zero_le _, hnx, hkp, gp, gq, g1, by rw [mix_zero]; exact g2⟩
 clear gp gq g1 g2 hkp hnx hqt hj
 rintro j τ ⟨hj, hnx, hkp, gp, gq, g1, g2⟩
 have hqt : p + 1 + 1 < τ.next := AStore.lt_of_get gq
 have t2 := AStore.lt_of_get g2
 simp (maxSteps := 500000) -implicitDefEqProofs only [go_sem]
 ((first | refine vz2 ?_ ?_ | refine vz3 ?_ ?_) <;> intro h3)
 ·obtain ⟨z, hz⟩ : ∃ z, r1[j]? = some z := ⟨r1[j]'(by omega), by simp⟩
  obtain ⟨z0, z1⟩ := rb j z hz
  have hz' : ((mixL (fun j => dec1 y (at0 r1 j)) r1 j).map iA)[j]? = some (iA z) := by rw [List.getElem?_map, mix_get, hz]; rfl
  have hjx : (0 : Int) ≤ j ∧ (j : Int) < (k.length : Int) := ⟨by omega, by omega⟩
  have hw := wrapS (i := j) (by omega)
  have hwz : IntKind.i64.wrap (z - 1) = z - 1 := wrap64 (by omega) (by omega)
  by_cases a2 : y < z
  ·have hs : (z - 1) = (fun j => dec1 y (at0 r1 j)) j := by dsimp only; rw [at_of hz, dec1, if_pos a2]
   (repeat' first | ((first | refine vy1 ?_ ?_ | refine vy2 ?_ ?_ | refine vy3 ?_ ?_) <;> rintro ⟨hd, hq⟩ <;> first | (exfalso; omega) | simp (maxSteps := 500000) -implicitDefEqProofs only [go_sem, hd, dct a2, g2, hz', hjx, iA, hw, hwz, gp] | skip) | refine vzt ?_ | refine vzf ?_ | refine vsb ?_ | refine vzb ?_ | refine vzq ?_ | simp (maxSteps := 500000) -implicitDefEqProofs only [go_sem, dct a2, g2, hz', hjx, iA, hw, hwz, gp])
   refine ⟨j + 1, by dsimp only; omega, ⟨by omega, ?_, ?_, ?_, ?_, ?_, ?_⟩, ?_⟩
   ·(try simp only [set_next]); omega
   ·intro b z hb hz; (try simp only [AStore.get_set]); (try rw [if_neg (by omega)]); exact hkp b z hb hz
   ·simp (maxSteps := 500000) -implicitDefEqProofs only [go_sem, gp, np2]
   ·simp (maxSteps := 500000) -implicitDefEqProofs only [go_sem, gq, np6]
   ·simp (maxSteps := 500000) -implicitDefEqProofs only [go_sem, g1, ne]
   ·rw [← mix_set (x := z - 1) (by omega) hs]; simp (maxSteps := 500000) -implicitDefEqProofs only [go_sem, g2, t2, List.map_set, iA]
   ·(repeat' (first | exact trivial | refine ⟨rfl, ?_⟩))
  ·have hs : z = (fun j => dec1 y (at0 r1 j)) j := by dsimp only; rw [at_of hz, dec1, if_neg a2]
   (repeat' first | ((first | refine vy1 ?_ ?_ | refine vy2 ?_ ?_ | refine vy3 ?_ ?_) <;> rintro ⟨hd, hq⟩ <;> first | (exfalso; omega) | simp (maxSteps := 500000) -implicitDefEqProofs only [go_sem, hd, dcf a2, g2, hz', hjx, iA, hw] | skip) | refine vzt ?_ | refine vzf ?_ | refine vsb ?_ | refine vzb ?_ | refine vzq ?_ | simp (maxSteps := 500000) -implicitDefEqProofs only [go_sem, dcf a2, g2, hz', hjx, iA, hw])
   refine ⟨j + 1, by dsimp only; omega, ⟨by omega, hnx, hkp, gp, gq, g1, by rw [mix_keep hz hs]; exact g2⟩, ?_⟩
   (repeat' (first | exact trivial | refine ⟨rfl, ?_⟩))
 ·obtain rfl : j = k.length := by omega
  rw [← r1l, map_mix (f := dec1 y) (l := r1), ← hrr] at g2
  (repeat' first | ((first | refine vy1 ?_ ?_ | refine vy2 ?_ ?_ | refine vy3 ?_ ?_) <;> rintro ⟨hd, hq⟩ <;> first | (exfalso; omega) | simp (maxSteps := 500000) -implicitDefEqProofs only [go_sem, hd, gp, gq, hqt] | skip) | refine vzt ?_ | refine vzf ?_ | refine vsb ?_ | refine vzb ?_ | refine vzq ?_ | simp (maxSteps := 500000) -implicitDefEqProofs only [go_sem, gp, gq, hqt])
  refine ⟨⟨ne, m1, m2, ?_, ?_⟩, by omega, ?_⟩
  ·simp (maxSteps := 500000) -implicitDefEqProofs only [go_sem, nb5, g1]
  ·simp (maxSteps := 500000) -implicitDefEqProofs only [go_sem, nb6, g2]
  ·intro b z hb hz; rw [if_neg (by omega)]; exact hkp b z hb hz
end Abs
namespace Abs
set_option linter.unusedSimpArgs false
set_option linter.unusedVariables false
set_option maxRecDepth 100000
set_option maxHeartbeats 2000000
open Go Go.Proofs
def rstOk (k l r : List Int) (x : Int × Int) : Prop := checkP k l r ∧ 1 ≤ x.1 ∧ x.1 ≤ k.length ∧ 0 ≤ x.2 ∧ x.2 ≤ 1048576
open Classical in
noncomputable def rstP (k l r : List Int) (x : Int × Int) : (List Int × List Int) × Int := if rstOk k l r x then ((rsL k l (x.1 - 1).toNat x.2, rsR r (x.1 - 1).toNat), 0) else (([], []), 2)
theorem rst_bad {k l r : List Int} {x : Int × Int} (h : ¬ rstOk k l r x) : rstP k l r x = (([], []), 2) := if_neg h
theorem rst_good {k l r : List Int} {to : Int} {i : Nat} (h : checkP k l r) (hi : i < k.length) (h0 : 0 ≤ to) (h1 : to ≤ 1048576) : rstP k l r ((i : Int) + 1, to) = ((rsL k l i to, rsR r i), 0) := by
 unfold rstP
 rw [if_pos ⟨h, by dsimp only; omega, by dsimp only; omega, h0, h1⟩]
 rw [show (((i : Int) + 1, to).1 - 1).toNat = i by dsimp only; omega]
def RstC (w : World) (f : Nat) : Prop := ∀ {K W R : AVal} {k l r : List Int} {x : Int × Int}, IsD 1 K (k.map iA) → IsD 1 W (l.map iA) → IsD 1 R (r.map iA) → k.length ≤ 1000000 → l.length ≤ 1000000 → r.length ≤ 1000000 → in64 x.1 → in64 x.2 →
 Gives (EE w) f [K, rgA W R, rsA x] fun v => ∃ W' R', v = .tuple [rgA W' R', (AVal.sc (Value.int IntKind.i64 ((rstP k l r x).2)))] ∧ IsD 1 W' ((rstP k l r x).1.1.map iA) ∧ IsD 1 R' ((rstP k l r x).1.2.map iA)
set_option maxHeartbeats 4000000 in
theorem reset1C {w : World} : RstC w 17 := by
 intro K W R k l r x hK hW hR hk hl hr hx1 hx2
 refine Gives.of (fun _ => .sc _) (.cons _ _ (hK.wf (wf_is k)) (.cons _ _ (.agg _ (.cons _ _ (hW.wf (wf_is l)) (.cons _ _ (hR.wf (wf_is r)) .nil))) (.cons _ _ (wfRs x) .nil))) 6 ?_
 obtain ⟨c1, to⟩ := x
 dsimp only at hx1 hx2
 refine of_17 rfl rfl rfl (by kernel_rfl) ?_
 simp (maxSteps := 500000) -implicitDefEqProofs only [go_sem, rgA, rsA]
 refine (checkC hK hW hR hk hl hr).use ?_
 by_cases hc : checkP k l r
 case neg =>
  rw [check_bad hc, rst_bad fun h => hc h.1]
  have d20 : decide ((2 : Int) = 0) = false := by decide
  simp (maxSteps := 500000) -implicitDefEqProofs only [go_sem, d20]
  (repeat' first | ((first | refine vy1 ?_ ?_ | refine vy2 ?_ ?_ | refine vy3 ?_ ?_) <;> rintro ⟨hd, hq⟩ <;> first | (exfalso; omega) | simp (maxSteps := 500000) -implicitDefEqProofs only [go_sem, hd] | skip) | refine vzt ?_ | refine vzf ?_ | refine vsb ?_ | refine vzb ?_ | refine vzq ?_ | simp (maxSteps := 500000) -implicitDefEqProofs only [go_sem])
  exact ⟨_, _, rfl, rfl, _, _, rfl, .inl ⟨rfl, _, _, rfl⟩, .inl ⟨rfl, _, _, rfl⟩⟩
 rw [check_good hc]
 by_cases d1 : c1 < 1
 ·rw [rst_bad fun h => by have := h.2.1; dsimp only at this; omega]
  simp (maxSteps := 500000) -implicitDefEqProofs only [go_sem, dct d1]
  (repeat' first | ((first | refine vy1 ?_ ?_ | refine vy2 ?_ ?_ | refine vy3 ?_ ?_) <;> rintro ⟨hd, hq⟩ <;> first | (exfalso; omega) | simp (maxSteps := 500000) -implicitDefEqProofs only [go_sem, hd] | skip) | refine vzt ?_ | refine vzf ?_ | refine vsb ?_ | refine vzb ?_ | refine vzq ?_ | simp (maxSteps := 500000) -implicitDefEqProofs only [go_sem])
  exact ⟨_, _, rfl, rfl, _, _, rfl, .inl ⟨rfl, _, _, rfl⟩, .inl ⟨rfl, _, _, rfl⟩⟩
 by_cases d2 : (k.length : Int) < c1
 ·rw [rst_bad fun h => by have := h.2.2.1; dsimp only at this; omega]
  simp (maxSteps := 500000) -implicitDefEqProofs only [go_sem, hK.len, dcf d1, dct d2]
  (repeat' first | ((first | refine vy1 ?_ ?_ | refine vy2 ?_ ?_ | refine vy3 ?_ ?_) <;> rintro ⟨hd, hq⟩ <;> first | (exfalso; omega) | simp (maxSteps := 500000) -implicitDefEqProofs only [go_sem, hd] | skip) | refine vzt ?_ | refine vzf ?_ | refine vsb ?_ | refine vzb ?_ | refine vzq ?_ | simp (maxSteps := 500000) -implicitDefEqProofs only [go_sem])
  exact ⟨_, _, rfl, rfl, _, _, rfl, .inl ⟨rfl, _, _, rfl⟩, .inl ⟨rfl, _, _, rfl⟩⟩
 by_cases d3 : to < 0
 ·rw [rst_bad fun h => by have := h.2.2.2.1; dsimp only at this; omega]
  simp (maxSteps := 500000) -implicitDefEqProofs only [go_sem, hK.len, dcf d1, dcf d2, dct d3]
  (repeat' first | ((first | refine vy1 ?_ ?_ | refine vy2 ?_ ?_ | refine vy3 ?_ ?_) <;> rintro ⟨hd, hq⟩ <;> first | (exfalso; omega) | simp (maxSteps := 500000) -implicitDefEqProofs only [go_sem, hd] | skip) | refine vzt ?_ | refine vzf ?_ | refine vsb ?_ | refine vzb ?_ | refine vzq ?_ | simp (maxSteps := 500000) -implicitDefEqProofs only [go_sem])
  exact ⟨_, _, rfl, rfl, _, _, rfl, .inl ⟨rfl, _, _, rfl⟩, .inl ⟨rfl, _, _, rfl⟩⟩
 by_cases d4 : 1048576 < to
 ·rw [rst_bad fun h => by have := h.2.2.2.2; dsimp only at this; omega]
  simp (maxSteps := 500000) -implicitDefEqProofs only [go_sem, hK.len, dcf d1, dcf d2, dcf d3, dct d4]
  (repeat' first | ((first | refine vy1 ?_ ?_ | refine vy2 ?_ ?_ | refine vy3 ?_ ?_) <;> rintro ⟨hd, hq⟩ <;> first | (exfalso; omega) | simp (maxSteps := 500000) -implicitDefEqProofs only [go_sem, hd] | skip) | refine vzt ?_ | refine vzf ?_ | refine vsb ?_ | refine vzb ?_ | refine vzq ?_ | simp (maxSteps := 500000) -implicitDefEqProofs only [go_sem])
  exact ⟨_, _, rfl, rfl, _, _, rfl, .inl ⟨rfl, _, _, rfl⟩, .inl ⟨rfl, _, _, rfl⟩⟩
 obtain ⟨i, rfl⟩ : ∃ i : Nat, c1 = (i : Int) + 1 := ⟨(c1 - 1).toNat, by omega⟩
 have hi : i < k.length := by omega
 rw [rst_good hc hi (by omega) (by omega)]
 have hf := Fine.of hc
 have e1 := hf.ln
 have e2 := hf.rn
 have hl0 : l ≠ [] := fun h => by rw [h] at e1; simp at e1; omega
 have hr0 : r ≠ [] := fun h => by rw [h] at e2; simp at e2; omega
 simp (maxSteps := 500000) -implicitDefEqProofs only [go_sem, hK.len, dcf d1, dcf d2, dcf d3, dcf d4]
 (repeat' first | ((first | refine vy1 ?_ ?_ | refine vy2 ?_ ?_ | refine vy3 ?_ ?_) <;> rintro ⟨hd, hq⟩ <;> first | (exfalso; omega) | simp (maxSteps := 500000) -implicitDefEqProofs only [go_sem, hd] | skip) | refine vzt ?_ | refine vzf ?_ | refine vsb ?_ | refine vzb ?_ | refine vzq ?_ | simp (maxSteps := 500000) -implicitDefEqProofs only [go_sem])
 ((try (refine Z_seq ?_; (try simp (maxSteps := 500000) -implicitDefEqProofs only [go_sem]))); refine Z_draw (by kernel_rfl) [0, 1, 3, 2, 4, 5, 6] [(6, 63), (5, 31), (4, 15), (2, 2), (3, 0), (1, 0), (0, 0)] (by kernel_rfl) (by kernel_rfl) ?_)
 simp (maxSteps := 500000) -implicitDefEqProofs only [go_sem]
 refine (copy1C hW hR hl0 hr0 hl hr).mono ?_
 rintro _ σ1 ⟨b1, b2, rfl, ht, hle, hkeep⟩
 have k0 := hkeep 0 _ (by simp only [go_sem, reduceIte] <;> rfl)
 have k1 := hkeep 1 _ (by simp only [go_sem, reduceIte] <;> rfl)
 have k2 := hkeep 2 _ (by simp only [go_sem, reduceIte] <;> rfl)
 rw [e1, e2]
 have ht2 : Two 3 σ1 b1 b2 l r := ⟨ht.ne, by have := ht.m1; simp only [alloc_next, empty_next] at this; omega, by have := ht.m2; simp only [alloc_next, empty_next] at this; omega, ht.g1, ht.g2⟩
 refine .inr ⟨?_, ?_⟩
 ·simp (maxSteps := 500000) -implicitDefEqProofs only [go_sem, k0, k1, k2]
 simp (maxSteps := 500000) -implicitDefEqProofs only [go_sem, rgA, k0, k1, k2]
 refine (resetC (to := to) hK hf hi (by omega) (by omega) ht2).mono ?_
 rintro _ σ2 ⟨rfl, ht3, hle2, hkp⟩
 have q0 := hkp 0 _ (by omega) k0
 have q1 := hkp 1 _ (by omega) k1
 have q2 := hkp 2 _ (by omega) k2
 have p2 := AStore.lt_of_get q2
 refine .inr ⟨?_, ?_⟩
 ·simp (maxSteps := 500000) -implicitDefEqProofs only [go_sem, q0, q1, q2]
 simp (maxSteps := 500000) -implicitDefEqProofs only [go_sem, rgA, q0, q1, q2, p2]
 refine ⟨_, _, rfl, ?_, _, _, rfl, .inr ⟨false, rfl⟩, .inr ⟨false, rfl⟩⟩
 have ht4 : Two 3 (σ2.set 2 (.cells 2 [.agg [.slice b1 0 k.length, .slice b2 0 k.length]])) b1 b2 (rsL k l i to) (rsR r i) := by
  have m1 := ht3.m1
  have m2 := ht3.m2
  refine ⟨ht3.ne, m1, m2, ?_, ?_⟩
  ·rw [AStore.get_set, if_neg (by omega)]; exact ht3.g1
  ·rw [AStore.get_set, if_neg (by omega)]; exact ht3.g2
 have hfz := ht4.frz (n1 := k.length) (n2 := k.length) (by simp [rsL, e1]) (by unfold rsR; split <;> simp [e2]) 2
 simp only [rgA] at hfz
 rw [frz_tuple, mapO_cons', mapO_cons', mapO_nil', hfz]
 rfl
end Abs
namespace Abs
set_option linter.unusedSimpArgs false
set_option linter.unusedVariables false
set_option maxRecDepth 100000
set_option maxHeartbeats 2000000
open Go Go.Proofs
end Abs
