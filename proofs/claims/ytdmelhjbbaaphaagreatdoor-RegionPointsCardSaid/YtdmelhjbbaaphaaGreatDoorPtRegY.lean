/-
  Functions of the program walked: each is shown to compute a plain function (RegY).
-/
import Derived.Test.YtdmelhjbbaaphaaGreatDoorPtRegX
import Derived.Test.YtdmelhjbbaaphaaGreatDoorPtRegP
namespace Abs
set_option linter.unusedSimpArgs false
set_option linter.unusedVariables false
set_option maxRecDepth 100000
set_option maxHeartbeats 2000000
open Go Go.Proofs
/-- Copies of two empty lists. -/
def CopyE (w : World) (f : Nat) : Prop := ∀ {W R : AVal} {σ : AStore}, IsD 1 W [] → IsD 1 R [] →
 ACalls (EE w) f [rgA W R] σ fun e σ' => e = .ret (rgA (.data 1 true []) (.data 1 true [])) ∧ σ.next ≤ σ'.next ∧ ∀ b x, σ.get b = some x → σ'.get b = some x
theorem app_ee {σ : AStore} {sz sz' bytes : Nat} : aAppend sz bytes (.data sz' true []) [] σ = some (.data sz' true [], σ) := by
 simp only [aAppend, aAppend0, List.length_nil, if_true]
theorem copyE1 {w : World} : CopyE w 39 := by
 intro W R σ hW hR
 have s1 := fun σ : AStore => hW.src (σ := σ)
 have s2 := fun σ : AStore => hR.src (σ := σ)
 have c1 := hW.cells
 have c2 := hR.cells
 have i1 := hW.isCell
 have i2 := hR.isCell
 have f1 := hW.fit
 have f2 := hR.fit
 have n1 : ¬ σ.next = σ.next + 1 := by omega
 have l1 : σ.next + 1 < σ.next + 1 + 1 := by omega
 refine of_39 rfl rfl rfl (by kernel_rfl) ?_
 simp (maxSteps := 500000) -implicitDefEqProofs only [go_sem, rgA]
 (repeat' first | ((first | refine vy1 ?_ ?_ | refine vy2 ?_ ?_ | refine vy3 ?_ ?_) <;> rintro ⟨hd, hq⟩ <;> first | (exfalso; omega) | simp (maxSteps := 500000) -implicitDefEqProofs only [go_sem, hd] | skip) | refine vzt ?_ | refine vzf ?_ | refine vsb ?_ | refine vzb ?_ | refine vzq ?_ | simp (maxSteps := 500000) -implicitDefEqProofs only [go_sem])
 ((try (refine Z_seq ?_; (try simp (maxSteps := 500000) -implicitDefEqProofs only [go_sem]))); refine Z_draw (by kernel_rfl) [0, 1, 2, 4, 5, 6, 3, 7, 8, 9] [(9, 511), (8, 255), (7, 127), (3, 7), (6, 32), (5, 0), (4, 0), (2, 2), (1, 0), (0, 0)] (by kernel_rfl) (by kernel_rfl) ?_)
 simp (maxSteps := 500000) -implicitDefEqProofs only [go_sem, s1, s2, n1, l1, app_ee, c1, c2, i1, i2, f1, f2]
 refine ⟨by omega, fun b x hx => ?_⟩
 have := AStore.lt_of_get hx
 try simp only [AStore.get_set, AStore.get_alloc, alloc_next]
 rw [if_neg (by omega), if_neg (by omega), if_neg (by omega)]
 exact hx
theorem Two.frz {m : Nat} {σ : AStore} {b1 b2 : Nat} {l r : List Int} (h : Two m σ b1 b2 l r) {n1 n2 : Nat} (e1 : n1 = l.length) (e2 : n2 = r.length) (n : Nat) :
  Abs.frz σ (n + 3) (rgA (.slice b1 0 n1) (.slice b2 0 n2)) = some (rgA (.data 1 false (l.map iA)) (.data 1 false (r.map iA))) := by
 subst e1 e2
 have f1 : Abs.frz σ (n + 2) (.slice b1 0 l.length) = some (.data 1 false (l.map iA)) := by
  rw [frz_slice, h.g1, frzS_cells (by simp)]
  have : ((l.map iA).drop 0).take l.length = l.map iA := by rw [List.drop_zero, List.take_of_length_le (by simp)]
  rw [this, mapO_iA]; rfl
 have f2 : Abs.frz σ (n + 2) (.slice b2 0 r.length) = some (.data 1 false (r.map iA)) := by
  rw [frz_slice, h.g2, frzS_cells (by simp)]
  have : ((r.map iA).drop 0).take r.length = r.map iA := by rw [List.drop_zero, List.take_of_length_le (by simp)]
  rw [this, mapO_iA]; rfl
 unfold rgA
 rw [frz_agg, mapO_cons', mapO_cons', mapO_nil', f1, f2]
 rfl
theorem lats_len {f : Nat → Int} {on : Bool} {l : List Int} : (lats f on l).length = l.length := by
 unfold lats
 split
 ·exact mix_len (Nat.le_refl _)
 ·rfl
open Classical in
/-- What Later returns. -/
noncomputable def latP (k l r : List Int) : (List Int × List Int) × Bool := if checkP k l r then ((lats (nxL k l r) (onL k l r) l, lats (nxR k l r) (onL k l r) r), onL k l r) else (([], []), false)
def LatC (w : World) (f : Nat) : Prop := ∀ {K W R : AVal} {k l r : List Int}, IsD 1 K (k.map iA) → IsD 1 W (l.map iA) → IsD 1 R (r.map iA) → k.length ≤ 1000000 → l.length ≤ 1000000 → r.length ≤ 1000000 →
 Gives (EE w) f [K, rgA W R] fun v => ∃ W' R', v = .tuple [rgA W' R', (AVal.sc (Value.bool ((latP k l r).2))), (AVal.sc (Value.int IntKind.i64 (checkE k l r)))] ∧ IsD 1 W' ((latP k l r).1.1.map iA) ∧ IsD 1 R' ((latP k l r).1.2.map iA)
theorem laterE {w : World} {K : AVal} {σ : AStore} (hK : IsD 1 K []) :
  ACalls (EE w) 40 [K, rgA (.data 1 true []) (.data 1 true [])] σ fun e σ' =>
   e = .ret (.tuple [rgA (.data 1 true []) (.data 1 true []), (AVal.sc (Value.bool (false)))]) ∧ σ.next ≤ σ'.next ∧ ∀ b x, σ.get b = some x → σ'.get b = some x := by
 have n0 : ¬ σ.next = σ.next + 1 := by omega
 obtain ⟨p, hp⟩ : ∃ p, p = σ.next := ⟨_, rfl⟩
 refine of_40 rfl rfl rfl (by kernel_rfl) ?_
 simp (maxSteps := 500000) -implicitDefEqProofs only [go_sem, rgA, n0]
 (first | refine Z_block_loop (ι := Nat) (fun i => [(0, K), (3, .ptr p 0 0), (4, .ptr (p + 1) 0 0), (5, (AVal.sc (Value.bool (false)))), (6, (AVal.sc (Value.bool (false)))), (8, (AVal.sc (Value.int IntKind.i64 (0)))), (15, (AVal.sc (Value.int IntKind.i64 (0)))), (16, (AVal.sc (Value.int IntKind.i64 (0))))]) (fun i σ' => σ.next ≤ σ'.next ∧ σ'.get p = some (.cells 2 [.agg [.data 1 true [], .data 1 true []]]) ∧ σ'.get (p + 1) = some (.cells 2 [.agg [(AVal.sc (Value.slice none 0 0)), (AVal.sc (Value.slice none 0 0))]]) ∧ ∀ b x, σ.get b = some x → σ'.get b = some x) (fun i => 0) (fun _ => rfl) 0 ?_ ?_ ?_ | refine Z_seq_loop (ι := Nat) (fun i => [(0, K), (3, .ptr p 0 0), (4, .ptr (p + 1) 0 0), (5, (AVal.sc (Value.bool (false)))), (6, (AVal.sc (Value.bool (false)))), (8, (AVal.sc (Value.int IntKind.i64 (0)))), (15, (AVal.sc (Value.int IntKind.i64 (0)))), (16, (AVal.sc (Value.int IntKind.i64 (0))))]) (fun i σ' => σ.next ≤ σ'.next ∧ σ'.get p = some (.cells 2 [.agg [.data 1 true [], .data 1 true []]]) ∧ σ'.get (p + 1) = some (.cells 2 [.agg [(AVal.sc (Value.slice none 0 0)), (AVal.sc (Value.slice none 0 0))]]) ∧ ∀ b x, σ.get b = some x → σ'.get b = some x) (fun i => 0) (fun _ => rfl) 0 ?_ ?_ ?_ | refine Z_loop (ι := Nat) (fun i => [(0, K), (3, .ptr p 0 0), (4, .ptr (p + 1) 0 0), (5, (AVal.sc (Value.bool (false)))), (6, (AVal.sc (Value.bool (false)))), (8, (AVal.sc (Value.int IntKind.i64 (0)))), (15, (AVal.sc (Value.int IntKind.i64 (0)))), (16, (AVal.sc (Value.int IntKind.i64 (0))))]) (fun i σ' => σ.next ≤ σ'.next ∧ σ'.get p = some (.cells 2 [.agg [.data 1 true [], .data 1 true []]]) ∧ σ'.get (p + 1) = some (.cells 2 [.agg [(AVal.sc (Value.slice none 0 0)), (AVal.sc (Value.slice none 0 0))]]) ∧ ∀ b x, σ.get b = some x → σ'.get b = some x) (fun i => 0) (fun _ => rfl) 0 ?_ ?_ ?_)
 ·subst hp; (repeat' (first | exact trivial | refine ⟨rfl, ?_⟩))
 ·subst hp
  exact ⟨by simp only [alloc_next]; omega, get_alloc_old getA, getA (σ := σ.alloc _), fun b x hx => get_alloc_old (get_alloc_old hx)⟩
 rintro _ τ ⟨hle, gp, gq, hk⟩
 have hqt : p + 1 < τ.next := AStore.lt_of_get gq
 have hpp : ¬ p = p + 1 := by omega
 (repeat' first | ((first | refine vy1 ?_ ?_ | refine vy2 ?_ ?_ | refine vy3 ?_ ?_) <;> rintro ⟨hd, hq⟩ <;> first | (exfalso; omega) | simp (maxSteps := 500000) -implicitDefEqProofs only [go_sem, hd, gp, gq, hqt, hpp] | skip) | refine vzt ?_ | refine vzf ?_ | refine vsb ?_ | refine vzb ?_ | refine vzq ?_ | simp (maxSteps := 500000) -implicitDefEqProofs only [go_sem, gp, gq, hqt, hpp])
 refine ⟨by omega, fun b x hx => ?_⟩
 have h1 := AStore.lt_of_get hx
 rw [if_neg (by omega)]
 exact hk b x hx
set_option maxHeartbeats 4000000 in
theorem later1C {w : World} : LatC w 15 := by
 intro K W R k l r hK hW hR hk hl hr
 refine Gives.of (fun _ => .sc _) (.cons _ _ (hK.wf (wf_is k)) (.cons _ _ (.agg _ (.cons _ _ (hW.wf (wf_is l)) (.cons _ _ (hR.wf (wf_is r)) .nil))) .nil)) 6 ?_
 refine of_15 rfl rfl rfl (by kernel_rfl) ?_
 simp (maxSteps := 500000) -implicitDefEqProofs only [go_sem, rgA]
 refine (checkC hK hW hR hk hl hr).use ?_
 by_cases hc : checkP k l r
 case neg =>
  rw [check_bad hc, show latP k l r = (([], []), false) by simp [latP, hc]]
  have d20 : decide ((2 : Int) = 0) = false := by decide
  simp (maxSteps := 500000) -implicitDefEqProofs only [go_sem, d20]
  (repeat' first | ((first | refine vy1 ?_ ?_ | refine vy2 ?_ ?_ | refine vy3 ?_ ?_) <;> rintro ⟨hd, hq⟩ <;> first | (exfalso; omega) | simp (maxSteps := 500000) -implicitDefEqProofs only [go_sem, hd] | skip) | refine vzt ?_ | refine vzf ?_ | refine vsb ?_ | refine vzb ?_ | refine vzq ?_ | simp (maxSteps := 500000) -implicitDefEqProofs only [go_sem])
  exact ⟨_, _, rfl, rfl, _, _, rfl, .inl ⟨rfl, _, _, rfl⟩, .inl ⟨rfl, _, _, rfl⟩⟩
 rw [check_good hc, show latP k l r = ((lats (nxL k l r) (onL k l r) l, lats (nxR k l r) (onL k l r) r), onL k l r) by simp [latP, hc]]
 have hf := Fine.of hc
 have e1 := hf.ln
 have e2 := hf.rn
 by_cases h0 : k = []
 ·subst h0
  obtain rfl : l = [] := List.eq_nil_of_length_eq_zero e1
  obtain rfl : r = [] := List.eq_nil_of_length_eq_zero e2
  (repeat' first | ((first | refine vy1 ?_ ?_ | refine vy2 ?_ ?_ | refine vy3 ?_ ?_) <;> rintro ⟨hd, hq⟩ <;> first | (exfalso; omega) | simp (maxSteps := 500000) -implicitDefEqProofs only [go_sem, hd] | skip) | refine vzt ?_ | refine vzf ?_ | refine vsb ?_ | refine vzb ?_ | refine vzq ?_ | simp (maxSteps := 500000) -implicitDefEqProofs only [go_sem])
  refine (copyE1 hW hR).mono ?_
  rintro _ σ1 ⟨rfl, hle, hkeep⟩
  have k0 := hkeep 0 _ (by simp only [go_sem, reduceIte] <;> rfl)
  have k1 := hkeep 1 _ (by simp only [go_sem, reduceIte] <;> rfl)
  have p0 := AStore.lt_of_get k1
  have hn1 : ¬ 1 = σ1.next := by omega
  simp (maxSteps := 500000) -implicitDefEqProofs only [go_sem, rgA, k0, k1]
  refine (laterE (σ := (σ1.alloc (.cells 2 [.agg [(AVal.sc (Value.slice none 0 0)), (AVal.sc (Value.slice none 0 0))]])).set σ1.next (.cells 2 [.agg [.data 1 true [], .data 1 true []]])) hK).mono ?_
  rintro _ σ2 ⟨rfl, hle2, hkp⟩
  have q1 : σ2.get 1 = some (.cells 2 [.agg [(AVal.sc (Value.slice none 0 0)), (AVal.sc (Value.slice none 0 0))]]) := hkp 1 _ (by rw [AStore.get_set, if_neg (by omega)]; exact get_alloc_old k1)
  have p1 := AStore.lt_of_get q1
  have hn2 : ¬ 1 = σ2.next := by omega
  have hl1 : 1 < σ2.next + 1 := by omega
  simp (maxSteps := 500000) -implicitDefEqProofs only [go_sem, rgA, q1, hn2, hl1]
  exact ⟨_, _, rfl, rfl, _, _, rfl, .inr ⟨true, rfl⟩, .inr ⟨true, rfl⟩⟩
 ·have hl0 : l ≠ [] := fun h => h0 (List.eq_nil_of_length_eq_zero (by rw [← e1, h]; rfl))
  have hr0 : r ≠ [] := fun h => h0 (List.eq_nil_of_length_eq_zero (by rw [← e2, h]; rfl))
  (repeat' first | ((first | refine vy1 ?_ ?_ | refine vy2 ?_ ?_ | refine vy3 ?_ ?_) <;> rintro ⟨hd, hq⟩ <;> first | (exfalso; omega) | simp (maxSteps := 500000) -implicitDefEqProofs only [go_sem, hd] | skip) | refine vzt ?_ | refine vzf ?_ | refine vsb ?_ | refine vzb ?_ | refine vzq ?_ | simp (maxSteps := 500000) -implicitDefEqProofs only [go_sem])
  refine (copy1C hW hR hl0 hr0 hl hr).mono ?_
  rintro _ σ1 ⟨b1, b2, rfl, ht, hle, hkeep⟩
  have k0 := hkeep 0 _ (by simp only [go_sem, reduceIte] <;> rfl)
  have k1 := hkeep 1 _ (by simp only [go_sem, reduceIte] <;> rfl)
  rw [e1, e2]
  have p0 := AStore.lt_of_get k1
  have hn1 : ¬ 1 = σ1.next := by omega
  have ht2 : Two 2 (((σ1.alloc (.cells 2 [.agg [(AVal.sc (Value.slice none 0 0)), (AVal.sc (Value.slice none 0 0))]])).set σ1.next (.cells 2 [rgA (.slice b1 0 k.length) (.slice b2 0 k.length)]))) b1 b2 l r := ⟨ht.ne, by have := ht.m1; simp only [alloc_next, empty_next] at this; omega, by have := ht.m2; simp only [alloc_next, empty_next] at this; omega, get_alloc_set ht.g1, get_alloc_set ht.g2⟩
  simp only [rgA] at ht2
  simp (maxSteps := 500000) -implicitDefEqProofs only [go_sem, rgA, k0, k1, putR_ret]
  refine (laterC (σ := (σ1.alloc (.cells 2 [.agg [(AVal.sc (Value.slice none 0 0)), (AVal.sc (Value.slice none 0 0))]])).set σ1.next (.cells 2 [.agg [.slice b1 0 k.length, .slice b2 0 k.length]])) hK hf ht2).mono ?_
  rintro _ σ2 ⟨rfl, ht3, hle2, hkp⟩
  have q1 : σ2.get 1 = some (.cells 2 [.agg [(AVal.sc (Value.slice none 0 0)), (AVal.sc (Value.slice none 0 0))]]) := hkp 1 _ (by omega) (by rw [AStore.get_set, if_neg (by simp; omega)]; exact get_alloc_old k1)
  have p1 := AStore.lt_of_get q1
  have hn2 : ¬ 1 = σ2.next := by omega
  have hl1 : 1 < σ2.next + 1 := by omega
  simp (maxSteps := 500000) -implicitDefEqProofs only [go_sem, rgA, putR_ret, q1, hn2, hl1]
  refine ⟨_, _, rfl, ?_, _, _, rfl, .inr ⟨false, rfl⟩, .inr ⟨false, rfl⟩⟩
  have ht4 : Two 2 (((σ2.alloc (.cells 2 [.agg [(AVal.sc (Value.slice none 0 0)), (AVal.sc (Value.slice none 0 0))]])).set σ2.next (.cells 2 [.agg [.slice b1 0 k.length, .slice b2 0 k.length]])).set 1 (.cells 2 [.agg [.slice b1 0 k.length, .slice b2 0 k.length]])) b1 b2 (lats (nxL k l r) (onL k l r) l) (lats (nxR k l r) (onL k l r) r) := by
   have m1 := ht3.m1
   have m2 := ht3.m2
   have a1 := AStore.lt_of_get ht3.g1
   have a2 := AStore.lt_of_get ht3.g2
   refine ⟨ht3.ne, m1, m2, ?_, ?_⟩
   ·rw [AStore.get_set, if_neg (by omega)]; exact get_alloc_set ht3.g1
   ·rw [AStore.get_set, if_neg (by omega)]; exact get_alloc_set ht3.g2
  have hfz := ht4.frz (n1 := k.length) (n2 := k.length) (by rw [lats_len, e1]) (by rw [lats_len, e2]) 2
  simp only [rgA] at hfz
  rw [frz_tuple, mapO_cons', mapO_cons', mapO_cons', mapO_nil', hfz]
  rfl
end Abs
namespace Abs
set_option linter.unusedSimpArgs false
set_option linter.unusedVariables false
set_option maxRecDepth 100000
set_option maxHeartbeats 2000000
open Go Go.Proofs
end Abs
