/-
  Functions of the program walked: each is shown to compute a plain function (RegY).
-/
import Derived.Test.YtdmelhjbbaaphaaGreatDoorRegX
import Derived.Test.YtdmelhjbbaaphaaGreatDoorRegP
namespace Abs
set_option linter.unusedSimpArgs false
set_option linter.unusedVariables false
set_option maxRecDepth 100000
set_option maxHeartbeats 2000000
open Go Go.Proofs
theorem copy2C {w : World} : CopyC w 41 := by
 intro W R l r σ hW hR hl0 hr0 hl hr
 have hl1 : l.map iA ≠ [] := by simpa using hl0
 have hr1 : r.map iA ≠ [] := by simpa using hr0
 have a1 : ∀ (σ : AStore), aAppend 1 8 (.data 1 true []) (l.map iA) σ = some (.slice σ.next 0 (l.map iA).length, σ.alloc (.cells 1 (l.map iA))) := fun σ => app_data hl1 (by simp; omega) (by decide)
 have a2 : ∀ (σ : AStore), aAppend 1 8 (.data 1 true []) (r.map iA) σ = some (.slice σ.next 0 (r.map iA).length, σ.alloc (.cells 1 (r.map iA))) := fun σ => app_data hr1 (by simp; omega) (by decide)
 obtain ⟨t1, rfl⟩ : ∃ t, W = .data 1 t (l.map iA) := by
  rcases hW with ⟨h, _⟩ | h
  ·exact absurd h hl1
  ·exact h
 obtain ⟨t2, rfl⟩ : ∃ t, R = .data 1 t (r.map iA) := by
  rcases hR with ⟨h, _⟩ | h
  ·exact absurd h hr1
  ·exact h
 have n1 : ¬ σ.next = σ.next + 1 := by omega
 have n2 : ¬ σ.next = σ.next + 1 + 1 := by omega
 have n3 : ¬ σ.next + 1 = σ.next + 1 + 1 := by omega
 have n4 : ¬ σ.next = σ.next + 1 + 1 + 1 := by omega
 have n5 : ¬ σ.next + 1 = σ.next + 1 + 1 + 1 := by omega
 have n6 : ¬ σ.next + 1 + 1 = σ.next + 1 + 1 + 1 := by omega
 refine of_41 rfl rfl rfl (by kernel_rfl) ?_
 simp (maxSteps := 500000) -implicitDefEqProofs only [go_sem, rgA]
 (repeat' first | ((first | refine vy1 ?_ ?_ | refine vy2 ?_ ?_ | refine vy3 ?_ ?_) <;> rintro ⟨hd, hq⟩ <;> first | (exfalso; omega) | simp (maxSteps := 500000) -implicitDefEqProofs only [go_sem, hd] | skip) | refine vzt ?_ | refine vzf ?_ | refine vsb ?_ | refine vzb ?_ | refine vzq ?_ | simp (maxSteps := 500000) -implicitDefEqProofs only [go_sem])
 ((try (refine Z_seq ?_; (try simp (maxSteps := 500000) -implicitDefEqProofs only [go_sem]))); refine Z_draw (by kernel_rfl) [0, 1, 2, 4, 5, 6, 3, 7, 8, 9] [(9, 511), (8, 255), (7, 127), (3, 7), (6, 32), (5, 0), (4, 0), (2, 2), (1, 0), (0, 0)] (by kernel_rfl) (by kernel_rfl) ?_)
 have l1 : σ.next + 1 < σ.next + 1 + 1 + 1 + 1 := by omega
 simp (maxSteps := 500000) -implicitDefEqProofs only [go_sem, a1, a2, n1, n2, n3, n4, n5, n6, l1, List.length_map]
 refine ⟨σ.next + 1 + 1, σ.next + 1 + 1 + 1, rfl, ⟨by omega, by omega, by omega, ?_, ?_⟩, by omega, ?_⟩
 ·simp only [AStore.get_set, AStore.get_alloc, alloc_next]
  rw [if_neg (by omega), if_neg (by omega), if_pos trivial]
 ·simp only [AStore.get_set, AStore.get_alloc, alloc_next]
  rw [if_neg (by omega), if_pos trivial]
 ·intro b x hx
  have := AStore.lt_of_get hx
  try simp only [AStore.get_set, AStore.get_alloc, alloc_next]
  rw [if_neg (by omega), if_neg (by omega), if_neg (by omega), if_neg (by omega), if_neg (by omega)]
  exact hx
/-- Copies of two empty lists. -/
def CopyE (w : World) (f : Nat) : Prop := ∀ {W R : AVal} {σ : AStore}, IsD 1 W [] → IsD 1 R [] →
 ACalls (EE w) f [rgA W R] σ fun e σ' => e = .ret (rgA (.data 1 true []) (.data 1 true [])) ∧ σ.next ≤ σ'.next ∧ ∀ b x, σ.get b = some x → σ'.get b = some x
theorem app_ee {σ : AStore} {sz sz' bytes : Nat} : aAppend sz bytes (.data sz' true []) [] σ = some (.data sz' true [], σ) := by
 simp only [aAppend, aAppend0, List.length_nil, if_true]
theorem copyE1 {w : World} : CopyE w 39 := by
 intro W R σ hW hR
 have s1 := fun σ : AStore => hW.src (σ := σ)
 have s2 := fun σ : AStore => hR.src (σ := σ)
 have c1 := hW.cells
 have c2 := hR.cells
 have i1 := hW.isCell
 have i2 := hR.isCell
 have f1 := hW.fit
 have f2 := hR.fit
 have n1 : ¬ σ.next = σ.next + 1 := by omega
 have l1 : σ.next + 1 < σ.next + 1 + 1 := by omega
 refine of_39 rfl rfl rfl (by kernel_rfl) ?_
 simp (maxSteps := 500000) -implicitDefEqProofs only [go_sem, rgA]
 (repeat' first | ((first | refine vy1 ?_ ?_ | refine vy2 ?_ ?_ | refine vy3 ?_ ?_) <;> rintro ⟨hd, hq⟩ <;> first | (exfalso; omega) | simp (maxSteps := 500000) -implicitDefEqProofs only [go_sem, hd] | skip) | refine vzt ?_ | refine vzf ?_ | refine vsb ?_ | refine vzb ?_ | refine vzq ?_ | simp (maxSteps := 500000) -implicitDefEqProofs only [go_sem])
 ((try (refine Z_seq ?_; (try simp (maxSteps := 500000) -implicitDefEqProofs only [go_sem]))); refine Z_draw (by kernel_rfl) [0, 1, 2, 4, 5, 6, 3, 7, 8, 9] [(9, 511), (8, 255), (7, 127), (3, 7), (6, 32), (5, 0), (4, 0), (2, 2), (1, 0), (0, 0)] (by kernel_rfl) (by kernel_rfl) ?_)
 simp (maxSteps := 500000) -implicitDefEqProofs only [go_sem, s1, s2, n1, l1, app_ee, c1, c2, i1, i2, f1, f2]
 refine ⟨by omega, fun b x hx => ?_⟩
 have := AStore.lt_of_get hx
 try simp only [AStore.get_set, AStore.get_alloc, alloc_next]
 rw [if_neg (by omega), if_neg (by omega), if_neg (by omega)]
 exact hx
theorem copyE2 {w : World} : CopyE w 41 := by
 intro W R σ hW hR
 have s1 := fun σ : AStore => hW.src (σ := σ)
 have s2 := fun σ : AStore => hR.src (σ := σ)
 have c1 := hW.cells
 have c2 := hR.cells
 have i1 := hW.isCell
 have i2 := hR.isCell
 have f1 := hW.fit
 have f2 := hR.fit
 have n1 : ¬ σ.next = σ.next + 1 := by omega
 have l1 : σ.next + 1 < σ.next + 1 + 1 := by omega
 refine of_41 rfl rfl rfl (by kernel_rfl) ?_
 simp (maxSteps := 500000) -implicitDefEqProofs only [go_sem, rgA]
 (repeat' first | ((first | refine vy1 ?_ ?_ | refine vy2 ?_ ?_ | refine vy3 ?_ ?_) <;> rintro ⟨hd, hq⟩ <;> first | (exfalso; omega) | simp (maxSteps := 500000) -implicitDefEqProofs only [go_sem, hd] | skip) | refine vzt ?_ | refine vzf ?_ | refine vsb ?_ | refine vzb ?_ | refine vzq ?_ | simp (maxSteps := 500000) -implicitDefEqProofs only [go_sem])
 ((try (refine Z_seq ?_; (try simp (maxSteps := 500000) -implicitDefEqProofs only [go_sem]))); refine Z_draw (by kernel_rfl) [0, 1, 2, 4, 5, 6, 3, 7, 8, 9] [(9, 511), (8, 255), (7, 127), (3, 7), (6, 32), (5, 0), (4, 0), (2, 2), (1, 0), (0, 0)] (by kernel_rfl) (by kernel_rfl) ?_)
 simp (maxSteps := 500000) -implicitDefEqProofs only [go_sem, s1, s2, n1, l1, app_ee, c1, c2, i1, i2, f1, f2]
 refine ⟨by omega, fun b x hx => ?_⟩
 have := AStore.lt_of_get hx
 try simp only [AStore.get_set, AStore.get_alloc, alloc_next]
 rw [if_neg (by omega), if_neg (by omega), if_neg (by omega)]
 exact hx
theorem Two.frz {m : Nat} {σ : AStore} {b1 b2 : Nat} {l r : List Int} (h : Two m σ b1 b2 l r) {n1 n2 : Nat} (e1 : n1 = l.length) (e2 : n2 = r.length) (n : Nat) :
  Abs.frz σ (n + 3) (rgA (.slice b1 0 n1) (.slice b2 0 n2)) = some (rgA (.data 1 false (l.map iA)) (.data 1 false (r.map iA))) := by
 subst e1 e2
 have f1 : Abs.frz σ (n + 2) (.slice b1 0 l.length) = some (.data 1 false (l.map iA)) := by
  rw [frz_slice, h.g1, frzS_cells (by simp)]
  have : ((l.map iA).drop 0).take l.length = l.map iA := by rw [List.drop_zero, List.take_of_length_le (by simp)]
  rw [this, mapO_iA]; rfl
 have f2 : Abs.frz σ (n + 2) (.slice b2 0 r.length) = some (.data 1 false (r.map iA)) := by
  rw [frz_slice, h.g2, frzS_cells (by simp)]
  have : ((r.map iA).drop 0).take r.length = r.map iA := by rw [List.drop_zero, List.take_of_length_le (by simp)]
  rw [this, mapO_iA]; rfl
 unfold rgA
 rw [frz_agg, mapO_cons', mapO_cons', mapO_nil', f1, f2]
 rfl
theorem lats_len {f : Nat → Int} {on : Bool} {l : List Int} : (lats f on l).length = l.length := by
 unfold lats
 split
 ·exact mix_len (Nat.le_refl _)
 ·rfl
open Classical in
/-- What Later returns. -/
noncomputable def latP (k l r : List Int) : (List Int × List Int) × Bool := if checkP k l r then ((lats (nxL k l r) (onL k l r) l, lats (nxR k l r) (onL k l r) r), onL k l r) else (([], []), false)
def LatC (w : World) (f : Nat) : Prop := ∀ {K W R : AVal} {k l r : List Int}, IsD 1 K (k.map iA) → IsD 1 W (l.map iA) → IsD 1 R (r.map iA) → k.length ≤ 1000000 → l.length ≤ 1000000 → r.length ≤ 1000000 →
 Gives (EE w) f [K, rgA W R] fun v => ∃ W' R', v = .tuple [rgA W' R', (AVal.sc (Value.bool ((latP k l r).2))), (AVal.sc (Value.int IntKind.i64 (checkE k l r)))] ∧ IsD 1 W' ((latP k l r).1.1.map iA) ∧ IsD 1 R' ((latP k l r).1.2.map iA)
theorem laterE {w : World} {K : AVal} {σ : AStore} (hK : IsD 1 K []) :
  ACalls (EE w) 40 [K, rgA (.data 1 true []) (.data 1 true [])] σ fun e σ' =>
   e = .ret (.tuple [rgA (.data 1 true []) (.data 1 true []), (AVal.sc (Value.bool (false)))]) ∧ σ.next ≤ σ'.next ∧ ∀ b x, σ.get b = some x → σ'.get b = some x := by
 have n0 : ¬ σ.next = σ.next + 1 := by omega
 obtain ⟨p, hp⟩ : ∃ p, p = σ.next := ⟨_, rfl⟩
 refine of_40 rfl rfl rfl (by kernel_rfl) ?_
 simp (maxSteps := 500000) -implicitDefEqProofs only [go_sem, rgA, n0]
 (first | refine Z_block_loop (ι := Nat) (fun i => [(0, K), (3, .ptr p 0 0), (4, .ptr (p + 1) 0 0), (5, (AVal.sc (Value.bool (false)))), (6, (AVal.sc (Value.bool (false)))), (8, (AVal.sc (Value.int IntKind.i64 (0)))), (15, (AVal.sc (Value.int IntKind.i64 (0)))), (16, (AVal.sc (Value.int IntKind.i64 (0))))]) (fun i σ' => σ.next ≤ σ'.next ∧ σ'.get p = some (.cells 2 [.agg [.data 1 true [], .data 1 true []]]) ∧ σ'.get (p + 1) = some (.cells 2 [.agg [(AVal.sc (Value.slice none 0 0)), (AVal.sc (Value.slice none 0 0))]]) ∧ ∀ b x, σ.get b = some x → σ'.get b = some x) (fun i => 0) (fun _ => rfl) 0 ?_ ?_ ?_ | refine Z_seq_loop (ι := Nat) (fun i => [(0, K), (3, .ptr p 0 0), (4, .ptr (p + 1) 0 0), (5, (AVal.sc (Value.bool (false)))), (6, (AVal.sc (Value.bool (false)))), (8, (AVal.sc (Value.int IntKind.i64 (0)))), (15, (AVal.sc (Value.int IntKind.i64 (0)))), (16, (AVal.sc (Value.int IntKind.i64 (0))))]) (fun i σ' => σ.next ≤ σ'.next ∧ σ'.get p = some (.cells 2 [.agg [.data 1 true [], .data 1 true []]]) ∧ σ'.get (p + 1) = some (.cells 2 [.agg [(AVal.sc (Value.slice none 0 0)), (AVal.sc (Value.slice none 0 0))]]) ∧ ∀ b x, σ.get b = some x → σ'.get b = some x) (fun i => 0) (fun _ => rfl) 0 ?_ ?_ ?_ | refine Z_loop (ι := Nat) (fun i => [(0, K), (3, .ptr p 0 0), (4, .ptr (p + 1) 0 0), (5, (AVal.sc (Value.bool (false)))), (6, (AVal.sc (Value.bool (false)))), (8, (AVal.sc (Value.int IntKind.i64 (0)))), (15, (AVal.sc (Value.int IntKind.i64 (0)))), (16, (AVal.sc (Value.int IntKind.i64 (0))))]) (fun i σ' => σ.next ≤ σ'.next ∧ σ'.get p = some (.cells 2 [.agg [.data 1 true [], .data 1 true []]]) ∧ σ'.get (p + 1) = some (.cells 2 [.agg [(AVal.sc (Value.slice none 0 0)), (AVal.sc (Value.slice none 0 0))]]) ∧ ∀ b x, σ.get b = some x → σ'.get b = some x) (fun i => 0) (fun _ => rfl) 0 ?_ ?_ ?_)
 ·subst hp; (repeat' (first | exact trivial | refine ⟨rfl, ?_⟩))
 ·subst hp
  exact ⟨by simp only [alloc_next]; omega, get_alloc_old getA, getA (σ := σ.alloc _), fun b x hx => get_alloc_old (get_alloc_old hx)⟩
 rintro _ τ ⟨hle, gp, gq, hk⟩
 have hqt : p + 1 < τ.next := AStore.lt_of_get gq
 have hpp : ¬ p = p + 1 := by omega
 (repeat' first | ((first | refine vy1 ?_ ?_ | refine vy2 ?_ ?_ | refine vy3 ?_ ?_) <;> rintro ⟨hd, hq⟩ <;> first | (exfalso; omega) | simp (maxSteps := 500000) -implicitDefEqProofs only [go_sem, hd, gp, gq, hqt, hpp] | skip) | refine vzt ?_ | refine vzf ?_ | refine vsb ?_ | refine vzb ?_ | refine vzq ?_ | simp (maxSteps := 500000) -implicitDefEqProofs only [go_sem, gp, gq, hqt, hpp])
 refine ⟨by omega, fun b x hx => ?_⟩
 have h1 := AStore.lt_of_get hx
 rw [if_neg (by omega)]
 exact hk b x hx
set_option maxHeartbeats 4000000 in
theorem later1C {w : World} : LatC w 15 := by
 intro K W R k l r hK hW hR hk hl hr
 refine Gives.of (fun _ => .sc _) (.cons _ _ (hK.wf (wf_is k)) (.cons _ _ (.agg _ (.cons _ _ (hW.wf (wf_is l)) (.cons _ _ (hR.wf (wf_is r)) .nil))) .nil)) 6 ?_
 refine of_15 rfl rfl rfl (by kernel_rfl) ?_
 simp (maxSteps := 500000) -implicitDefEqProofs only [go_sem, rgA]
 refine (checkC hK hW hR hk hl hr).use ?_
 by_cases hc : checkP k l r
 case neg =>
  rw [check_bad hc, show latP k l r = (([], []), false) by simp [latP, hc]]
  have d20 : decide ((2 : Int) = 0) = false := by decide
  simp (maxSteps := 500000) -implicitDefEqProofs only [go_sem, d20]
  (repeat' first | ((first | refine vy1 ?_ ?_ | refine vy2 ?_ ?_ | refine vy3 ?_ ?_) <;> rintro ⟨hd, hq⟩ <;> first | (exfalso; omega) | simp (maxSteps := 500000) -implicitDefEqProofs only [go_sem, hd] | skip) | refine vzt ?_ | refine vzf ?_ | refine vsb ?_ | refine vzb ?_ | refine vzq ?_ | simp (maxSteps := 500000) -implicitDefEqProofs only [go_sem])
  exact ⟨_, _, rfl, rfl, _, _, rfl, .inl ⟨rfl, _, _, rfl⟩, .inl ⟨rfl, _, _, rfl⟩⟩
 rw [check_good hc, show latP k l r = ((lats (nxL k l r) (onL k l r) l, lats (nxR k l r) (onL k l r) r), onL k l r) by simp [latP, hc]]
 have hf := Fine.of hc
 have e1 := hf.ln
 have e2 := hf.rn
 by_cases h0 : k = []
 ·subst h0
  obtain rfl : l = [] := List.eq_nil_of_length_eq_zero e1
  obtain rfl : r = [] := List.eq_nil_of_length_eq_zero e2
  (repeat' first | ((first | refine vy1 ?_ ?_ | refine vy2 ?_ ?_ | refine vy3 ?_ ?_) <;> rintro ⟨hd, hq⟩ <;> first | (exfalso; omega) | simp (maxSteps := 500000) -implicitDefEqProofs only [go_sem, hd] | skip) | refine vzt ?_ | refine vzf ?_ | refine vsb ?_ | refine vzb ?_ | refine vzq ?_ | simp (maxSteps := 500000) -implicitDefEqProofs only [go_sem])
  refine (copyE1 hW hR).mono ?_
  rintro _ σ1 ⟨rfl, hle, hkeep⟩
  have k0 := hkeep 0 _ (by simp only [go_sem, reduceIte] <;> rfl)
  have k1 := hkeep 1 _ (by simp only [go_sem, reduceIte] <;> rfl)
  have p0 := AStore.lt_of_get k1
  have hn1 : ¬ 1 = σ1.next := by omega
  simp (maxSteps := 500000) -implicitDefEqProofs only [go_sem, rgA, k0, k1]
  refine (laterE (σ := (σ1.alloc (.cells 2 [.agg [(AVal.sc (Value.slice none 0 0)), (AVal.sc (Value.slice none 0 0))]])).set σ1.next (.cells 2 [.agg [.data 1 true [], .data 1 true []]])) hK).mono ?_
  rintro _ σ2 ⟨rfl, hle2, hkp⟩
  have q1 : σ2.get 1 = some (.cells 2 [.agg [(AVal.sc (Value.slice none 0 0)), (AVal.sc (Value.slice none 0 0))]]) := hkp 1 _ (by rw [AStore.get_set, if_neg (by omega)]; exact get_alloc_old k1)
  have p1 := AStore.lt_of_get q1
  have hn2 : ¬ 1 = σ2.next := by omega
  have hl1 : 1 < σ2.next + 1 := by omega
  simp (maxSteps := 500000) -implicitDefEqProofs only [go_sem, rgA, q1, hn2, hl1]
  exact ⟨_, _, rfl, rfl, _, _, rfl, .inr ⟨true, rfl⟩, .inr ⟨true, rfl⟩⟩
 ·have hl0 : l ≠ [] := fun h => h0 (List.eq_nil_of_length_eq_zero (by rw [← e1, h]; rfl))
  have hr0 : r ≠ [] := fun h => h0 (List.eq_nil_of_length_eq_zero (by rw [← e2, h]; rfl))
  (repeat' first | ((first | refine vy1 ?_ ?_ | refine vy2 ?_ ?_ | refine vy3 ?_ ?_) <;> rintro ⟨hd, hq⟩ <;> first | (exfalso; omega) | simp (maxSteps := 500000) -implicitDefEqProofs only [go_sem, hd] | skip) | refine vzt ?_ | refine vzf ?_ | refine vsb ?_ | refine vzb ?_ | refine vzq ?_ | simp (maxSteps := 500000) -implicitDefEqProofs only [go_sem])
  refine (copy1C hW hR hl0 hr0 hl hr).mono ?_
  rintro _ σ1 ⟨b1, b2, rfl, ht, hle, hkeep⟩
  have k0 := hkeep 0 _ (by simp only [go_sem, reduceIte] <;> rfl)
  have k1 := hkeep 1 _ (by simp only [go_sem, reduceIte] <;> rfl)
  rw [e1, e2]
  have p0 := AStore.lt_of_get k1
  have hn1 : ¬ 1 = σ1.next := by omega
  have ht2 : Two 2 (((σ1.alloc (.cells 2 [.agg [(AVal.sc (Value.slice none 0 0)), (AVal.sc (Value.slice none 0 0))]])).set σ1.next (.cells 2 [rgA (.slice b1 0 k.length) (.slice b2 0 k.length)]))) b1 b2 l r := ⟨ht.ne, by have := ht.m1; simp only [alloc_next, empty_next] at this; omega, by have := ht.m2; simp only [alloc_next, empty_next] at this; omega, get_alloc_set ht.g1, get_alloc_set ht.g2⟩
  simp only [rgA] at ht2
  simp (maxSteps := 500000) -implicitDefEqProofs only [go_sem, rgA, k0, k1, putR_ret]
  refine (laterC (σ := (σ1.alloc (.cells 2 [.agg [(AVal.sc (Value.slice none 0 0)), (AVal.sc (Value.slice none 0 0))]])).set σ1.next (.cells 2 [.agg [.slice b1 0 k.length, .slice b2 0 k.length]])) hK hf ht2).mono ?_
  rintro _ σ2 ⟨rfl, ht3, hle2, hkp⟩
  have q1 : σ2.get 1 = some (.cells 2 [.agg [(AVal.sc (Value.slice none 0 0)), (AVal.sc (Value.slice none 0 0))]]) := hkp 1 _ (by omega) (by rw [AStore.get_set, if_neg (by simp; omega)]; exact get_alloc_old k1)
  have p1 := AStore.lt_of_get q1
  have hn2 : ¬ 1 = σ2.next := by omega
  have hl1 : 1 < σ2.next + 1 := by omega
  simp (maxSteps := 500000) -implicitDefEqProofs only [go_sem, rgA, putR_ret, q1, hn2, hl1]
  refine ⟨_, _, rfl, ?_, _, _, rfl, .inr ⟨false, rfl⟩, .inr ⟨false, rfl⟩⟩
  have ht4 : Two 2 (((σ2.alloc (.cells 2 [.agg [(AVal.sc (Value.slice none 0 0)), (AVal.sc (Value.slice none 0 0))]])).set σ2.next (.cells 2 [.agg [.slice b1 0 k.length, .slice b2 0 k.length]])).set 1 (.cells 2 [.agg [.slice b1 0 k.length, .slice b2 0 k.length]])) b1 b2 (lats (nxL k l r) (onL k l r) l) (lats (nxR k l r) (onL k l r) r) := by
   have m1 := ht3.m1
   have m2 := ht3.m2
   have a1 := AStore.lt_of_get ht3.g1
   have a2 := AStore.lt_of_get ht3.g2
   refine ⟨ht3.ne, m1, m2, ?_, ?_⟩
   ·rw [AStore.get_set, if_neg (by omega)]; exact get_alloc_set ht3.g1
   ·rw [AStore.get_set, if_neg (by omega)]; exact get_alloc_set ht3.g2
  have hfz := ht4.frz (n1 := k.length) (n2 := k.length) (by rw [lats_len, e1]) (by rw [lats_len, e2]) 2
  simp only [rgA] at hfz
  rw [frz_tuple, mapO_cons', mapO_cons', mapO_cons', mapO_nil', hfz]
  rfl
end Abs
namespace Abs
set_option linter.unusedSimpArgs false
set_option linter.unusedVariables false
set_option maxRecDepth 100000
set_option maxHeartbeats 2000000
open Go Go.Proofs
def aTo (k l r : List Int) : Nat → Bool
 | 0 => true
 | i + 1 => aTo k l r i && !decide (at0 l i ≤ at0 k i)
theorem aTo_all {k l r : List Int} : ∀ {n : Nat}, aTo k l r n = true → ∀ i, i < n → ¬ at0 l i ≤ at0 k i
  | 0, _, i, hi => by omega
  | n + 1, h, i, hi => by
      simp only [aTo, Bool.and_eq_true, Bool.not_eq_true', decide_eq_false_iff_not] at h
      rcases Nat.lt_or_ge i n with h' | h'
      · exact aTo_all h.1 i h'
      · obtain rfl : i = n := by omega
        exact h.2
theorem aTo_ex {k l r : List Int} : ∀ {n : Nat}, aTo k l r n = false → ∃ i, i < n ∧ at0 l i ≤ at0 k i
  | 0, h => by simp [aTo] at h
  | n + 1, h => by
      simp only [aTo, Bool.and_eq_false_iff, Bool.not_eq_false', decide_eq_true_eq] at h
      rcases h with h | h
      · obtain ⟨i, h1, h2⟩ := aTo_ex h
        exact ⟨i, by omega, h2⟩
      · exact ⟨n, by omega, h⟩
theorem wTo_of {k l r : List Int} : ∀ {n i : Nat}, i < n → at0 l i ≤ at0 k i → at0 r i = 0 → wTo k l r n = true
  | n + 1, i, hi, h1, h2 => by
      simp only [wTo, Bool.or_eq_true, Bool.and_eq_true, decide_eq_true_eq]
      rcases Nat.lt_or_ge i n with h' | h'
      · exact .inl (wTo_of h' h1 h2)
      · obtain rfl : i = n := by omega
        exact .inr ⟨h1, h2⟩
theorem wTo_no {k l r : List Int} : ∀ {n : Nat}, (∀ i, i < n → ¬ at0 l i ≤ at0 k i) → wTo k l r n = false
  | 0, _ => rfl
  | n + 1, h => by
      simp only [wTo, wTo_no (n := n) fun i hi => h i (by omega), Bool.false_or]
      rw [dcf (h n (by omega)), Bool.false_and]
theorem on_all {k l r : List Int} (h : checkP k l r) : onL k l r = !aTo k l r k.length := by
 have e2 := h.2.2.1
 cases ha : aTo k l r k.length with
 | true =>
  have hall := aTo_all ha
  have ht : topR r = 0 := by
   have h0 := topR_nonneg r
   have h1 : topR r ≤ 0 := topR_le (by omega) fun y hy => by
    obtain ⟨j, hj, rfl⟩ := List.mem_iff_getElem.1 hy
    obtain ⟨c, x, y, hc, hx, hy, _, _, _, _, hy0, _, hxy⟩ := checkP_at h (i := j) (by omega)
    have := hall j (by omega)
    rw [at_of hc, at_of hx] at this
    rw [List.getElem?_eq_getElem hj] at hy
    cases hy
    omega
   omega
  simp only [onL, wTo_no hall, ht]
  rfl
 | false =>
  obtain ⟨i, hi, hle⟩ := aTo_ex ha
  obtain ⟨c, x, y, hc, hx, hy, _, _, _, _, hy0, _, hxy⟩ := checkP_at h hi
  by_cases hy1 : y = 0
  ·simp only [onL, wTo_of hi hle (by rw [at_of hy, hy1])]
   rfl
  ·have := le_topR hy
   have ht : decide (topR r ≠ 0) = true := dct (by omega)
   simp only [onL, ht, Bool.or_true]
   rfl
set_option maxHeartbeats 8000000 in
theorem later2C {w : World} : LatC w 16 := by
 intro K W R k l r hK hW hR hk hl hr
 refine Gives.of (fun _ => .sc _) (.cons _ _ (hK.wf (wf_is k)) (.cons _ _ (.agg _ (.cons _ _ (hW.wf (wf_is l)) (.cons _ _ (hR.wf (wf_is r)) .nil))) .nil)) 6 ?_
 refine of_16 rfl rfl rfl (by kernel_rfl) ?_
 simp (maxSteps := 500000) -implicitDefEqProofs only [go_sem, rgA]
 refine (rcheckC hK hW hR hk hl hr).use ?_
 by_cases hc : checkP k l r
 case neg =>
  rw [check_bad hc, show latP k l r = (([], []), false) by simp [latP, hc]]
  have d20 : decide ((2 : Int) = 0) = false := by decide
  simp (maxSteps := 500000) -implicitDefEqProofs only [go_sem, d20]
  (repeat' first | ((first | refine vy1 ?_ ?_ | refine vy2 ?_ ?_ | refine vy3 ?_ ?_) <;> rintro ⟨hd, hq⟩ <;> first | (exfalso; omega) | simp (maxSteps := 500000) -implicitDefEqProofs only [go_sem, hd] | skip) | refine vzt ?_ | refine vzf ?_ | refine vsb ?_ | refine vzb ?_ | refine vzq ?_ | simp (maxSteps := 500000) -implicitDefEqProofs only [go_sem])
  exact ⟨_, _, rfl, rfl, _, _, rfl, .inl ⟨rfl, _, _, rfl⟩, .inl ⟨rfl, _, _, rfl⟩⟩
 rw [check_good hc, show latP k l r = ((lats (nxL k l r) (onL k l r) l, lats (nxR k l r) (onL k l r) r), onL k l r) by simp [latP, hc]]
 have hf := Fine.of hc
 have e1 := hf.ln
 have e2 := hf.rn
 have k10 := hf.n
 have hon := on_all hc
 have pn : ∀ (i : Nat) (c x y : Int), k[i]? = some c → l[i]? = some x → r[i]? = some y → 0 < y → x < c := fun i c x y h1 h2 h3 hy => (hc.2.2.2.1 i (by
  rcases Nat.lt_or_ge i k.length with h' | h'
  ·exact h'
  ·rw [List.getElem?_eq_none h'] at h1; cases h1) c x y h1 h2 h3).2.2.2.2 hy
 by_cases h0 : k = []
 ·subst h0
  obtain rfl : l = [] := List.eq_nil_of_length_eq_zero e1
  obtain rfl : r = [] := List.eq_nil_of_length_eq_zero e2
  (repeat' first | ((first | refine vy1 ?_ ?_ | refine vy2 ?_ ?_ | refine vy3 ?_ ?_) <;> rintro ⟨hd, hq⟩ <;> first | (exfalso; omega) | simp (maxSteps := 500000) -implicitDefEqProofs only [go_sem, hd] | skip) | refine vzt ?_ | refine vzf ?_ | refine vsb ?_ | refine vzb ?_ | refine vzq ?_ | simp (maxSteps := 500000) -implicitDefEqProofs only [go_sem])
  refine (copyE2 hW hR).mono ?_
  rintro _ σ1 ⟨rfl, hle, hkeep⟩
  have k0 := hkeep 0 _ (by simp only [go_sem, reduceIte] <;> rfl)
  have k1 := hkeep 1 _ (by simp only [go_sem, reduceIte] <;> rfl)
  have p0 := AStore.lt_of_get k1
  have hn1 : ¬ 1 = σ1.next := by omega
  obtain ⟨p, hp⟩ : ∃ p, p = σ1.next := ⟨_, rfl⟩
  simp (maxSteps := 500000) -implicitDefEqProofs only [go_sem, rgA, k0, k1]
  (first | refine Z_block_loop (ι := Nat) (fun i => [(0, K), (4, .ptr 1 0 0), (7, .ptr p 0 0), (8, (AVal.sc (Value.bool (true)))), (11, (AVal.sc (Value.int IntKind.i64 (0))))]) (fun i σ' => σ'.get 1 = some (.cells 2 [.agg [(AVal.sc (Value.slice none 0 0)), (AVal.sc (Value.slice none 0 0))]]) ∧ σ'.get p = some (.cells 2 [.agg [.data 1 true [], .data 1 true []]])) (fun i => 0) (fun _ => rfl) 0 ?_ ?_ ?_ | refine Z_seq_loop (ι := Nat) (fun i => [(0, K), (4, .ptr 1 0 0), (7, .ptr p 0 0), (8, (AVal.sc (Value.bool (true)))), (11, (AVal.sc (Value.int IntKind.i64 (0))))]) (fun i σ' => σ'.get 1 = some (.cells 2 [.agg [(AVal.sc (Value.slice none 0 0)), (AVal.sc (Value.slice none 0 0))]]) ∧ σ'.get p = some (.cells 2 [.agg [.data 1 true [], .data 1 true []]])) (fun i => 0) (fun _ => rfl) 0 ?_ ?_ ?_ | refine Z_loop (ι := Nat) (fun i => [(0, K), (4, .ptr 1 0 0), (7, .ptr p 0 0), (8, (AVal.sc (Value.bool (true)))), (11, (AVal.sc (Value.int IntKind.i64 (0))))]) (fun i σ' => σ'.get 1 = some (.cells 2 [.agg [(AVal.sc (Value.slice none 0 0)), (AVal.sc (Value.slice none 0 0))]]) ∧ σ'.get p = some (.cells 2 [.agg [.data 1 true [], .data 1 true []]])) (fun i => 0) (fun _ => rfl) 0 ?_ ?_ ?_)
  ·subst hp; (repeat' (first | exact trivial | refine ⟨rfl, ?_⟩))
  ·subst hp
   exact ⟨by rw [AStore.get_set, if_neg (by omega)]; exact get_alloc_old k1, by rw [AStore.get_set, if_pos ⟨rfl, by simp only [alloc_next]; omega⟩]⟩
  rintro _ τ ⟨gq, gp⟩
  have hqt : 1 < τ.next := AStore.lt_of_get gq
  simp (maxSteps := 500000) -implicitDefEqProofs only [go_sem, hK.len]
  (repeat' first | ((first | refine vy1 ?_ ?_ | refine vy2 ?_ ?_ | refine vy3 ?_ ?_) <;> rintro ⟨hd, hq⟩ <;> first | (exfalso; omega) | simp (maxSteps := 500000) -implicitDefEqProofs only [go_sem, hd, gp, gq, hqt] | skip) | refine vzt ?_ | refine vzf ?_ | refine vsb ?_ | refine vzb ?_ | refine vzq ?_ | simp (maxSteps := 500000) -implicitDefEqProofs only [go_sem, gp, gq, hqt])
  exact ⟨_, _, rfl, rfl, _, _, rfl, .inr ⟨true, rfl⟩, .inr ⟨true, rfl⟩⟩
 ·have hl0 : l ≠ [] := fun h => h0 (List.eq_nil_of_length_eq_zero (by rw [← e1, h]; rfl))
  have hr0 : r ≠ [] := fun h => h0 (List.eq_nil_of_length_eq_zero (by rw [← e2, h]; rfl))
  (repeat' first | ((first | refine vy1 ?_ ?_ | refine vy2 ?_ ?_ | refine vy3 ?_ ?_) <;> rintro ⟨hd, hq⟩ <;> first | (exfalso; omega) | simp (maxSteps := 500000) -implicitDefEqProofs only [go_sem, hd] | skip) | refine vzt ?_ | refine vzf ?_ | refine vsb ?_ | refine vzb ?_ | refine vzq ?_ | simp (maxSteps := 500000) -implicitDefEqProofs only [go_sem])
  refine (copy2C hW hR hl0 hr0 hl hr).mono ?_
  rintro _ σ1 ⟨b1, b2, rfl, ht, hle, hkeep⟩
  have g0 := hkeep 0 _ (by simp only [go_sem, reduceIte] <;> rfl)
  have gq := hkeep 1 _ (by simp only [go_sem, reduceIte] <;> rfl)
  rw [e1, e2]
  obtain ⟨ne, m1, m2, g1, g2⟩ := ht
  have ne' : ¬ b2 = b1 := fun h => ne h.symm
  simp only [alloc_next, empty_next] at m1 m2
  have p1 := AStore.lt_of_get g1
  have p2 := AStore.lt_of_get g2
  obtain ⟨p, hp⟩ : ∃ p, p = σ1.next := ⟨_, rfl⟩
  rw [← hp] at p1 p2
  have pp : 2 ≤ p := by omega
  have n0 : ¬ 0 = p := by omega
  have n1 : ¬ 1 = p := by omega
  simp (maxSteps := 500000) -implicitDefEqProofs only [go_sem, rgA, g0, gq, ← hp, n0, n1]
  (first | refine Z_block_loop (ι := Nat) (fun i => [(0, K), (3, .ptr 0 0 0), (4, .ptr 1 0 0), (5, (AVal.sc (Value.bool (false)))), (6, (AVal.sc (Value.int IntKind.i64 (0)))), (7, .ptr p 0 0), (8, (AVal.sc (Value.bool (aTo k l r i)))), (9, (AVal.sc (Value.bool (wTo k l r i)))), (10, (AVal.sc (Value.bool (fTo k l r i)))), (11, (AVal.sc (Value.int IntKind.i64 (i))))]) (fun i σ' => i ≤ k.length ∧ σ'.get 0 = some (.cells 2 [.agg [W, R]]) ∧ σ'.get 1 = some (.cells 2 [.agg [(AVal.sc (Value.slice none 0 0)), (AVal.sc (Value.slice none 0 0))]]) ∧ σ'.get p = some (.cells 2 [.agg [.slice b1 0 k.length, .slice b2 0 k.length]]) ∧ σ'.get b1 = some (.cells 1 (l.map iA)) ∧ σ'.get b2 = some (.cells 1 (r.map iA))) (fun i => k.length - i) (fun _ => rfl) 0 ?_ ?_ ?_ | refine Z_seq_loop (ι := Nat) (fun i => [(0, K), (3, .ptr 0 0 0), (4, .ptr 1 0 0), (5, (AVal.sc (Value.bool (false)))), (6, (AVal.sc (Value.int IntKind.i64 (0)))), (7, .ptr p 0 0), (8, (AVal.sc (Value.bool (aTo k l r i)))), (9, (AVal.sc (Value.bool (wTo k l r i)))), (10, (AVal.sc (Value.bool (fTo k l r i)))), (11, (AVal.sc (Value.int IntKind.i64 (i))))]) (fun i σ' => i ≤ k.length ∧ σ'.get 0 = some (.cells 2 [.agg [W, R]]) ∧ σ'.get 1 = some (.cells 2 [.agg [(AVal.sc (Value.slice none 0 0)), (AVal.sc (Value.slice none 0 0))]]) ∧ σ'.get p = some (.cells 2 [.agg [.slice b1 0 k.length, .slice b2 0 k.length]]) ∧ σ'.get b1 = some (.cells 1 (l.map iA)) ∧ σ'.get b2 = some (.cells 1 (r.map iA))) (fun i => k.length - i) (fun _ => rfl) 0 ?_ ?_ ?_ | refine Z_loop (ι := Nat) (fun i => [(0, K), (3, .ptr 0 0 0), (4, .ptr 1 0 0), (5, (AVal.sc (Value.bool (false)))), (6, (AVal.sc (Value.int IntKind.i64 (0)))), (7, .ptr p 0 0), (8, (AVal.sc (Value.bool (aTo k l r i)))), (9, (AVal.sc (Value.bool (wTo k l r i)))), (10, (AVal.sc (Value.bool (fTo k l r i)))), (11, (AVal.sc (Value.int IntKind.i64 (i))))]) (fun i σ' => i ≤ k.length ∧ σ'.get 0 = some (.cells 2 [.agg [W, R]]) ∧ σ'.get 1 = some (.cells 2 [.agg [(AVal.sc (Value.slice none 0 0)), (AVal.sc (Value.slice none 0 0))]]) ∧ σ'.get p = some (.cells 2 [.agg [.slice b1 0 k.length, .slice b2 0 k.length]]) ∧ σ'.get b1 = some (.cells 1 (l.map iA)) ∧ σ'.get b2 = some (.cells 1 (r.map iA))) (fun i => k.length - i) (fun _ => rfl) 0 ?_ ?_ ?_)
  ·(repeat' (first | exact trivial | refine ⟨rfl, ?_⟩))
  ·have a0 := AStore.lt_of_get g0
   refine ⟨Nat.zero_le _, ?_, ?_, ?_, ?_, ?_⟩
   ·rw [AStore.get_set, if_neg (by omega)]; exact get_alloc_old g0
   ·rw [AStore.get_set, if_neg (by omega)]; exact get_alloc_old gq
   ·rw [AStore.get_set, if_pos ⟨rfl, by simp only [alloc_next]; omega⟩]
   ·rw [AStore.get_set, if_neg (by omega)]; exact get_alloc_old g1
   ·rw [AStore.get_set, if_neg (by omega)]; exact get_alloc_old g2
  clear g0 gq g1 g2 hkeep hle
  ·rintro i τ ⟨hi, g0, gq, gp, g1, g2⟩
   simp (maxSteps := 500000) -implicitDefEqProofs only [go_sem, hK.len]
   ((first | refine vz2 ?_ ?_ | refine vz3 ?_ ?_) <;> intro h2)
   ·obtain ⟨c, x, y, hc, hx, hy, c1, c2, x1, x2, y1, y2⟩ := hf.b i (by omega)
    have hc' : (k.map iA)[i]? = some (iA c) := by simp [hc]
    have hx' : (l.map iA)[i]? = some (iA x) := by simp [hx]
    have hy' : (r.map iA)[i]? = some (iA y) := by simp [hy]
    have hw := wrapS (i := i) (by omega)
    have hA1 : aTo k l r (i + 1) = (aTo k l r i && !decide (x ≤ c)) := by simp only [aTo, at_of hc, at_of hx]
    have hW1 : wTo k l r (i + 1) = (wTo k l r i || (decide (x ≤ c) && decide (y = 0))) := by simp only [wTo, at_of hc, at_of hx, at_of hy]
    have hF1 : fTo k l r (i + 1) = (fTo k l r i || (decide (x ≤ c) && decide (y = 0) && decide (x < c))) := by simp only [fTo, at_of hc, at_of hx, at_of hy]
    (repeat' first | ((first | refine vy1 ?_ ?_ | refine vy2 ?_ ?_ | refine vy3 ?_ ?_) <;> rintro ⟨hd, hq⟩ <;> first | (exfalso; omega) | simp (maxSteps := 500000) -implicitDefEqProofs only [go_sem, hd, g0] | skip) | refine vzt ?_ | refine vzf ?_ | refine vsb ?_ | refine vzb ?_ | refine vzq ?_ | simp (maxSteps := 500000) -implicitDefEqProofs only [go_sem, g0])
    refine (beyondC hK hW hR hc hx (by omega) (by omega)).use ?_
    by_cases a1 : x = c + 1
    ·have a1' : ¬ x ≤ c := by omega
     rw [dcf a1', Bool.not_false, Bool.and_true] at hA1
     rw [dcf a1', Bool.false_and, Bool.or_false] at hW1
     rw [dcf a1', Bool.false_and, Bool.false_and, Bool.or_false] at hF1
     rw [dct a1]
     (repeat' first | ((first | refine vy1 ?_ ?_ | refine vy2 ?_ ?_ | refine vy3 ?_ ?_) <;> rintro ⟨hd, hq⟩ <;> first | (exfalso; omega) | simp (maxSteps := 500000) -implicitDefEqProofs only [go_sem, hd, hw] | skip) | refine vzt ?_ | refine vzf ?_ | refine vsb ?_ | refine vzb ?_ | refine vzq ?_ | simp (maxSteps := 500000) -implicitDefEqProofs only [go_sem, hw])
     refine ⟨i + 1, by dsimp only; omega, ⟨by omega, g0, gq, gp, g1, g2⟩, ?_⟩
     dsimp only
     rw [hA1, hW1, hF1]
     (repeat' (first | exact trivial | refine ⟨rfl, ?_⟩))
    ·have a1' : x ≤ c := by omega
     rw [dct a1', Bool.not_true, Bool.and_false] at hA1
     rw [dct a1', Bool.true_and] at hW1
     rw [dct a1', Bool.true_and] at hF1
     rw [dcf a1]
     generalize fTo k l r i = F at *
     generalize wTo k l r i = W at *
     by_cases a2 : y = 0
     ·subst a2
      by_cases a3 : x < c
      ·cases W <;> cases F
       all_goals
        simp only [decide_true, Bool.true_and, Bool.or_true, Bool.true_or, Bool.false_or, dct a3] at hW1 hF1
        (repeat' first | ((first | refine vy1 ?_ ?_ | refine vy2 ?_ ?_ | refine vy3 ?_ ?_) <;> rintro ⟨hd, hq⟩ <;> first | (exfalso; omega) | simp (maxSteps := 500000) -implicitDefEqProofs only [go_sem, hd, g0, hK.idx hc', hW.idx hx', hR.idx hy', iA] | skip) | refine vzt ?_ | refine vzf ?_ | refine vsb ?_ | refine vzb ?_ | refine vzq ?_ | simp (maxSteps := 500000) -implicitDefEqProofs only [go_sem, g0, hK.idx hc', hW.idx hx', hR.idx hy', iA])
        ((try (refine Z_seq ?_; (try simp (maxSteps := 500000) -implicitDefEqProofs only [go_sem]))); refine Z_draw (by kernel_rfl) [0, 1, 2, 3, 4, 5, 6, 7, 8, 9, 10, 11, 12, 13, 14, 15, 16, 17, 18, 19, 20, 21] [(21, 2097151), (20, 1048575), (19, 524287), (18, 262143), (17, 115199), (16, 49663), (15, 511), (14, 511), (13, 8191), (12, 4095), (11, 511), (10, 1023), (9, 511), (8, 255), (7, 127), (6, 63), (5, 31), (4, 3), (3, 7), (2, 3), (1, 1), (0, 0)] (by kernel_rfl) (by kernel_rfl) ?_)
        simp (maxSteps := 500000) -implicitDefEqProofs only [go_sem, g0, hK.idx hc', hW.idx hx', hR.idx hy', iA, dct a3]
        (repeat' first | ((first | refine vy1 ?_ ?_ | refine vy2 ?_ ?_ | refine vy3 ?_ ?_) <;> rintro ⟨hd, hq⟩ <;> first | (exfalso; omega) | simp (maxSteps := 500000) -implicitDefEqProofs only [go_sem, hd, hw] | skip) | refine vzt ?_ | refine vzf ?_ | refine vsb ?_ | refine vzb ?_ | refine vzq ?_ | simp (maxSteps := 500000) -implicitDefEqProofs only [go_sem, hw])
        refine ⟨i + 1, by dsimp only; omega, ⟨by omega, g0, gq, gp, g1, g2⟩, ?_⟩
        dsimp only
        rw [hA1, hW1, hF1]
        (repeat' (first | exact trivial | refine ⟨rfl, ?_⟩))
      ·cases W <;> cases F
       all_goals
        simp only [decide_true, Bool.true_and, Bool.or_true, Bool.true_or, Bool.false_or, Bool.or_false, dcf a3] at hW1 hF1
        (repeat' first | ((first | refine vy1 ?_ ?_ | refine vy2 ?_ ?_ | refine vy3 ?_ ?_) <;> rintro ⟨hd, hq⟩ <;> first | (exfalso; omega) | simp (maxSteps := 500000) -implicitDefEqProofs only [go_sem, hd, g0, hK.idx hc', hW.idx hx', hR.idx hy', iA] | skip) | refine vzt ?_ | refine vzf ?_ | refine vsb ?_ | refine vzb ?_ | refine vzq ?_ | simp (maxSteps := 500000) -implicitDefEqProofs only [go_sem, g0, hK.idx hc', hW.idx hx', hR.idx hy', iA])
        ((try (refine Z_seq ?_; (try simp (maxSteps := 500000) -implicitDefEqProofs only [go_sem]))); refine Z_draw (by kernel_rfl) [0, 1, 2, 3, 4, 5, 6, 7, 8, 9, 10, 11, 12, 13, 14, 15, 16, 17, 18, 19, 20, 21] [(21, 2097151), (20, 1048575), (19, 524287), (18, 262143), (17, 115199), (16, 49663), (15, 511), (14, 511), (13, 8191), (12, 4095), (11, 511), (10, 1023), (9, 511), (8, 255), (7, 127), (6, 63), (5, 31), (4, 3), (3, 7), (2, 3), (1, 1), (0, 0)] (by kernel_rfl) (by kernel_rfl) ?_)
        simp (maxSteps := 500000) -implicitDefEqProofs only [go_sem, g0, hK.idx hc', hW.idx hx', hR.idx hy', iA, dcf a3]
        (repeat' first | ((first | refine vy1 ?_ ?_ | refine vy2 ?_ ?_ | refine vy3 ?_ ?_) <;> rintro ⟨hd, hq⟩ <;> first | (exfalso; omega) | simp (maxSteps := 500000) -implicitDefEqProofs only [go_sem, hd, hw] | skip) | refine vzt ?_ | refine vzf ?_ | refine vsb ?_ | refine vzb ?_ | refine vzq ?_ | simp (maxSteps := 500000) -implicitDefEqProofs only [go_sem, hw])
        refine ⟨i + 1, by dsimp only; omega, ⟨by omega, g0, gq, gp, g1, g2⟩, ?_⟩
        dsimp only
        rw [hA1, hW1, hF1]
        (repeat' (first | exact trivial | refine ⟨rfl, ?_⟩))
     ·rw [dcf a2, Bool.or_false] at hW1
      rw [dcf a2, Bool.false_and, Bool.or_false] at hF1
      cases W <;> cases F
      all_goals
       (repeat' first | ((first | refine vy1 ?_ ?_ | refine vy2 ?_ ?_ | refine vy3 ?_ ?_) <;> rintro ⟨hd, hq⟩ <;> first | (exfalso; omega) | simp (maxSteps := 500000) -implicitDefEqProofs only [go_sem, hd, g0, hK.idx hc', hW.idx hx', hR.idx hy', iA, dcf a2] | skip) | refine vzt ?_ | refine vzf ?_ | refine vsb ?_ | refine vzb ?_ | refine vzq ?_ | simp (maxSteps := 500000) -implicitDefEqProofs only [go_sem, g0, hK.idx hc', hW.idx hx', hR.idx hy', iA, dcf a2])
       ((try (refine Z_seq ?_; (try simp (maxSteps := 500000) -implicitDefEqProofs only [go_sem]))); refine Z_draw (by kernel_rfl) [0, 1, 2, 3, 4, 5, 6, 7, 8, 9, 10, 11, 12, 13, 14, 15, 16, 17, 18, 19, 20, 21] [(21, 2097151), (20, 1048575), (19, 524287), (18, 262143), (17, 115199), (16, 49663), (15, 511), (14, 511), (13, 8191), (12, 4095), (11, 511), (10, 1023), (9, 511), (8, 255), (7, 127), (6, 63), (5, 31), (4, 3), (3, 7), (2, 3), (1, 1), (0, 0)] (by kernel_rfl) (by kernel_rfl) ?_)
       simp (maxSteps := 500000) -implicitDefEqProofs only [go_sem, g0, hK.idx hc', hW.idx hx', hR.idx hy', iA, dcf a2]
       (repeat' first | ((first | refine vy1 ?_ ?_ | refine vy2 ?_ ?_ | refine vy3 ?_ ?_) <;> rintro ⟨hd, hq⟩ <;> first | (exfalso; omega) | simp (maxSteps := 500000) -implicitDefEqProofs only [go_sem, hd, hw] | skip) | refine vzt ?_ | refine vzf ?_ | refine vsb ?_ | refine vzb ?_ | refine vzq ?_ | simp (maxSteps := 500000) -implicitDefEqProofs only [go_sem, hw])
       refine ⟨i + 1, by dsimp only; omega, ⟨by omega, g0, gq, gp, g1, g2⟩, ?_⟩
       dsimp only
       rw [hA1, hW1, hF1]
       (repeat' (first | exact trivial | refine ⟨rfl, ?_⟩))
   ·obtain rfl : i = k.length := by omega
    have hpt : p < τ.next := AStore.lt_of_get gp
    have h1t : 1 < τ.next := AStore.lt_of_get gq
    have nb1 : ¬ b1 = 1 := by omega
    have nb2 : ¬ b2 = 1 := by omega
    have np1 : ¬ p = b1 := by omega
    have np2 : ¬ p = b2 := by omega
    have nz1 : ¬ 0 = b1 := by omega
    have nz2 : ¬ 0 = b2 := by omega
    have no1 : ¬ 1 = b1 := by omega
    have no2 : ¬ 1 = b2 := by omega
    cases hAv : aTo k l r k.length with
    | true =>
     rw [hAv] at hon
     rw [hon]
     (repeat' first | ((first | refine vy1 ?_ ?_ | refine vy2 ?_ ?_ | refine vy3 ?_ ?_) <;> rintro ⟨hd, hq⟩ <;> first | (exfalso; omega) | simp (maxSteps := 500000) -implicitDefEqProofs only [go_sem, hd, gp, gq, h1t, Bool.not_true] | skip) | refine vzt ?_ | refine vzf ?_ | refine vsb ?_ | refine vzb ?_ | refine vzq ?_ | simp (maxSteps := 500000) -implicitDefEqProofs only [go_sem, gp, gq, h1t, Bool.not_true])
     have hfz : Two 2 (τ.set 1 (.cells 2 [.agg [.slice b1 0 k.length, .slice b2 0 k.length]])) b1 b2 l r := ⟨ne, m1, m2, by rw [AStore.get_set, if_neg (by omega)]; exact g1, by rw [AStore.get_set, if_neg (by omega)]; exact g2⟩
     have hfz := hfz.frz (n1 := k.length) (n2 := k.length) (by omega) (by omega) 2
     simp only [rgA] at hfz
     exact ⟨_, _, rfl, by rw [frz_tuple, mapO_cons', mapO_cons', mapO_cons', mapO_nil', hfz]; rfl, _, _, rfl, .inr ⟨false, rfl⟩, .inr ⟨false, rfl⟩⟩
    | false =>
     rw [hAv, Bool.not_false] at hon
     rw [hon]
     cases hWv : wTo k l r k.length with
     | false =>
      (repeat' first | ((first | refine vy1 ?_ ?_ | refine vy2 ?_ ?_ | refine vy3 ?_ ?_) <;> rintro ⟨hd, hq⟩ <;> first | (exfalso; omega) | simp (maxSteps := 500000) -implicitDefEqProofs only [go_sem, hd, hWv] | skip) | refine vzt ?_ | refine vzf ?_ | refine vsb ?_ | refine vzb ?_ | refine vzq ?_ | simp (maxSteps := 500000) -implicitDefEqProofs only [go_sem, hWv])
      (first | refine Z_block_loop (ι := Nat) (fun i => [(0, K), (3, .ptr 0 0 0), (4, .ptr 1 0 0), (5, (AVal.sc (Value.bool (false)))), (6, (AVal.sc (Value.int IntKind.i64 (0)))), (7, .ptr p 0 0), (9, (AVal.sc (Value.bool (false)))), (10, (AVal.sc (Value.bool (fTo k l r k.length)))), (12, (AVal.sc (Value.int IntKind.i64 (i))))]) (fun i σ' => i ≤ k.length ∧ σ'.get 0 = some (.cells 2 [.agg [W, R]]) ∧ σ'.get 1 = some (.cells 2 [.agg [(AVal.sc (Value.slice none 0 0)), (AVal.sc (Value.slice none 0 0))]]) ∧ σ'.get p = some (.cells 2 [.agg [.slice b1 0 k.length, .slice b2 0 k.length]]) ∧ σ'.get b1 = some (.cells 1 ((mixL (nxL k l r) l i).map iA)) ∧ σ'.get b2 = some (.cells 1 ((mixL (nxR k l r) r i).map iA))) (fun i => k.length - i) (fun _ => rfl) 0 ?_ ?_ ?_ | refine Z_seq_loop (ι := Nat) (fun i => [(0, K), (3, .ptr 0 0 0), (4, .ptr 1 0 0), (5, (AVal.sc (Value.bool (false)))), (6, (AVal.sc (Value.int IntKind.i64 (0)))), (7, .ptr p 0 0), (9, (AVal.sc (Value.bool (false)))), (10, (AVal.sc (Value.bool (fTo k l r k.length)))), (12, (AVal.sc (Value.int IntKind.i64 (i))))]) (fun i σ' => i ≤ k.length ∧ σ'.get 0 = some (.cells 2 [.agg [W, R]]) ∧ σ'.get 1 = some (.cells 2 [.agg [(AVal.sc (Value.slice none 0 0)), (AVal.sc (Value.slice none 0 0))]]) ∧ σ'.get p = some (.cells 2 [.agg [.slice b1 0 k.length, .slice b2 0 k.length]]) ∧ σ'.get b1 = some (.cells 1 ((mixL (nxL k l r) l i).map iA)) ∧ σ'.get b2 = some (.cells 1 ((mixL (nxR k l r) r i).map iA))) (fun i => k.length - i) (fun _ => rfl) 0 ?_ ?_ ?_ | refine Z_loop (ι := Nat) (fun i => [(0, K), (3, .ptr 0 0 0), (4, .ptr 1 0 0), (5, (AVal.sc (Value.bool (false)))), (6, (AVal.sc (Value.int IntKind.i64 (0)))), (7, .ptr p 0 0), (9, (AVal.sc (Value.bool (false)))), (10, (AVal.sc (Value.bool (fTo k l r k.length)))), (12, (AVal.sc (Value.int IntKind.i64 (i))))]) (fun i σ' => i ≤ k.length ∧ σ'.get 0 = some (.cells 2 [.agg [W, R]]) ∧ σ'.get 1 = some (.cells 2 [.agg [(AVal.sc (Value.slice none 0 0)), (AVal.sc (Value.slice none 0 0))]]) ∧ σ'.get p = some (.cells 2 [.agg [.slice b1 0 k.length, .slice b2 0 k.length]]) ∧ σ'.get b1 = some (.cells 1 ((mixL (nxL k l r) l i).map iA)) ∧ σ'.get b2 = some (.cells 1 ((mixL (nxR k l r) r i).map iA))) (fun i => k.length - i) (fun _ => rfl) 0 ?_ ?_ ?_)
      ·(repeat' (first | exact trivial | refine ⟨rfl, ?_⟩))
      ·exact ⟨Nat.zero_le _, g0, gq, gp, by rw [mix_zero]; exact g1, by rw [mix_zero]; exact g2⟩
      clear g1 g2 gp gq g0 hpt h1t hi
      rintro i τ ⟨hi, g0, gq, gp, g1, g2⟩
      have t1 := AStore.lt_of_get g1
      have t2 := AStore.lt_of_get g2
      simp (maxSteps := 500000) -implicitDefEqProofs only [go_sem, hK.len]
      ((first | refine vz2 ?_ ?_ | refine vz3 ?_ ?_) <;> intro h2)
      ·obtain ⟨c, x, y, hc1, hx, hy, c1, c2, x1, x2, y1, y2⟩ := hf.b i (by omega)
       have hc' : (k.map iA)[i]? = some (iA c) := by simp [hc1]
       have hx' : (l.map iA)[i]? = some (iA x) := by simp [hx]
       have hy' : (r.map iA)[i]? = some (iA y) := by simp [hy]
       have hx'' : ((mixL (nxL k l r) l i).map iA)[i]? = some (iA x) := by rw [List.getElem?_map, mix_get, hx]; rfl
       have hy'' : ((mixL (nxR k l r) r i).map iA)[i]? = some (iA y) := by rw [List.getElem?_map, mix_get, hy]; rfl
       have hw := wrapS (i := i) (by omega)
       have hpn := pn i c x y hc1 hx hy
       have hwx : IntKind.i64.wrap (x + 1) = x + 1 := wrap64 (by omega) (by omega)
       have hwy : IntKind.i64.wrap (y + 1) = y + 1 := wrap64 (by omega) (by omega)
       have hwc : IntKind.i64.wrap (c + 1) = c + 1 := wrap64 (by omega) (by omega)
       have hix : (0 : Int) ≤ i ∧ (i : Int) < (k.length : Int) := ⟨by omega, by omega⟩
       have u1 : nxL k l r i = (stepV false (fTo k l r k.length) (topR r) c x y).1 := by unfold nxL; rw [at_of hc1, at_of hx, at_of hy, hWv]
       have u2 : nxR k l r i = (stepV false (fTo k l r k.length) (topR r) c x y).2 := by unfold nxR; rw [at_of hc1, at_of hx, at_of hy, hWv]
       have tC := topC (w := w) (l := l) hW hR (by omega)
       generalize fTo k l r k.length = F at u1 u2 ⊢
       (repeat' first | ((first | refine vy1 ?_ ?_ | refine vy2 ?_ ?_ | refine vy3 ?_ ?_) <;> rintro ⟨hd, hq⟩ <;> first | (exfalso; omega) | simp (maxSteps := 500000) -implicitDefEqProofs only [go_sem, hd, g0] | skip) | refine vzt ?_ | refine vzf ?_ | refine vsb ?_ | refine vzb ?_ | refine vzq ?_ | simp (maxSteps := 500000) -implicitDefEqProofs only [go_sem, g0])
       refine (beyondC hK hW hR hc1 hx (by omega) (by omega)).use ?_
       by_cases a1 : x = c + 1
       ·have a1' : c < x := by omega
        have hs1 : x = nxL k l r i := by rw [u1]; simp [stepV, a1']
        have hs2 : y = nxR k l r i := by rw [u2]; simp [stepV, a1']
        rw [dct a1]
        (repeat' first | ((first | refine vy1 ?_ ?_ | refine vy2 ?_ ?_ | refine vy3 ?_ ?_) <;> rintro ⟨hd, hq⟩ <;> first | (exfalso; omega) | simp (maxSteps := 500000) -implicitDefEqProofs only [go_sem, hd, hw] | skip) | refine vzt ?_ | refine vzf ?_ | refine vsb ?_ | refine vzb ?_ | refine vzq ?_ | simp (maxSteps := 500000) -implicitDefEqProofs only [go_sem, hw])
        refine ⟨i + 1, by dsimp only; omega, ⟨by omega, ?_, ?_, ?_, ?_, ?_⟩, ?_⟩
        ·simp (maxSteps := 500000) -implicitDefEqProofs only [go_sem, g0, nz1, nz2]
        ·simp (maxSteps := 500000) -implicitDefEqProofs only [go_sem, gq, no1, no2]
        ·simp (maxSteps := 500000) -implicitDefEqProofs only [go_sem, gp, np1, np2]
        ·rw [mix_keep hx hs1]; simp (maxSteps := 500000) -implicitDefEqProofs only [go_sem, g1, ne, ne', t1, t2, List.map_set, iA]
        ·rw [mix_keep hy hs2]; simp (maxSteps := 500000) -implicitDefEqProofs only [go_sem, g2, ne, ne', t1, t2, List.map_set, iA]
        ·(repeat' (first | exact trivial | refine ⟨rfl, ?_⟩))
       ·have a1' : ¬ c < x := by omega
        rw [dcf a1]
        (repeat' first | ((first | refine vy1 ?_ ?_ | refine vy2 ?_ ?_ | refine vy3 ?_ ?_) <;> rintro ⟨hd, hq⟩ <;> first | (exfalso; omega) | simp (maxSteps := 500000) -implicitDefEqProofs only [go_sem, hd] | skip) | refine vzt ?_ | refine vzf ?_ | refine vsb ?_ | refine vzb ?_ | refine vzq ?_ | simp (maxSteps := 500000) -implicitDefEqProofs only [go_sem])
        ((try (refine Z_seq ?_; (try simp (maxSteps := 500000) -implicitDefEqProofs only [go_sem]))); refine Z_draw (by kernel_rfl) [0, 1, 2, 3, 4, 5, 6, 7] [(7, 127), (6, 32), (5, 0), (4, 15), (3, 7), (2, 0), (1, 1), (0, 0)] (by kernel_rfl) (by kernel_rfl) ?_)
        simp (maxSteps := 500000) -implicitDefEqProofs only [go_sem, g0, gp, g1, g2, np1, np2, nz1, nz2, ne, ne', t1, t2, hK.idx hc', hW.idx hx', hR.idx hy', hx'', hy'', hix, iA, hw, hwx, hwy, hwc]
        refine tC.useD ?_
        by_cases a2 : y = topR r
        ·have hs1 : (x + 1) = nxL k l r i := by rw [u1]; simp [stepV, a1', a2]
         have hs2 : 0 = nxR k l r i := by rw [u2]; simp [stepV, a1', a2]
         simp (maxSteps := 500000) -implicitDefEqProofs only [go_sem, dct a2]
         (repeat' first | ((first | refine vy1 ?_ ?_ | refine vy2 ?_ ?_ | refine vy3 ?_ ?_) <;> rintro ⟨hd, hq⟩ <;> first | (exfalso; omega) | simp (maxSteps := 500000) -implicitDefEqProofs only [go_sem, hd] | skip) | refine vzt ?_ | refine vzf ?_ | refine vsb ?_ | refine vzb ?_ | refine vzq ?_ | simp (maxSteps := 500000) -implicitDefEqProofs only [go_sem])
         ((try (refine Z_seq ?_; (try simp (maxSteps := 500000) -implicitDefEqProofs only [go_sem]))); refine Z_draw (by kernel_rfl) [0, 1, 2, 3, 4, 5, 6, 7, 8, 9, 10, 11, 12, 13, 14, 15] [(15, 32767), (14, 16383), (13, 8135), (12, 4039), (11, 1984), (10, 960), (9, 448), (8, 0), (7, 64), (6, 0), (5, 0), (4, 8), (3, 0), (2, 0), (1, 1), (0, 0)] (by kernel_rfl) (by kernel_rfl) ?_)
         simp (maxSteps := 500000) -implicitDefEqProofs only [go_sem, g0, gp, g1, g2, np1, np2, nz1, nz2, ne, ne', t1, t2, hK.idx hc', hW.idx hx', hR.idx hy', hx'', hy'', hix, iA, hw, hwx, hwy, hwc]
         (repeat' first | ((first | refine vy1 ?_ ?_ | refine vy2 ?_ ?_ | refine vy3 ?_ ?_) <;> rintro ⟨hd, hq⟩ <;> first | (exfalso; omega) | simp (maxSteps := 500000) -implicitDefEqProofs only [go_sem, hd, g0, gp, g1, g2, np1, np2, nz1, nz2, ne, ne', t1, t2, hK.idx hc', hW.idx hx', hR.idx hy', hx'', hy'', hix, iA, hw, hwx, hwy, hwc] | skip) | refine vzt ?_ | refine vzf ?_ | refine vsb ?_ | refine vzb ?_ | refine vzq ?_ | simp (maxSteps := 500000) -implicitDefEqProofs only [go_sem, g0, gp, g1, g2, np1, np2, nz1, nz2, ne, ne', t1, t2, hK.idx hc', hW.idx hx', hR.idx hy', hx'', hy'', hix, iA, hw, hwx, hwy, hwc])
         refine ⟨i + 1, by dsimp only; omega, ⟨by omega, ?_, ?_, ?_, ?_, ?_⟩, ?_⟩
         ·simp (maxSteps := 500000) -implicitDefEqProofs only [go_sem, g0, nz1, nz2]
         ·simp (maxSteps := 500000) -implicitDefEqProofs only [go_sem, gq, no1, no2]
         ·simp (maxSteps := 500000) -implicitDefEqProofs only [go_sem, gp, np1, np2]
         ·rw [← mix_set (x := (x + 1)) (by omega) hs1]; simp (maxSteps := 500000) -implicitDefEqProofs only [go_sem, g1, ne, ne', t1, t2, List.map_set, iA]
         ·rw [← mix_set (x := 0) (by omega) hs2]; simp (maxSteps := 500000) -implicitDefEqProofs only [go_sem, g2, ne, ne', t1, t2, List.map_set, iA]
         ·(repeat' (first | exact trivial | refine ⟨rfl, ?_⟩))
        ·have hs1 : x = nxL k l r i := by rw [u1]; simp [stepV, a1', a2]
         have hs2 : y = nxR k l r i := by rw [u2]; simp [stepV, a1', a2]
         simp (maxSteps := 500000) -implicitDefEqProofs only [go_sem, dcf a2]
         (repeat' first | ((first | refine vy1 ?_ ?_ | refine vy2 ?_ ?_ | refine vy3 ?_ ?_) <;> rintro ⟨hd, hq⟩ <;> first | (exfalso; omega) | simp (maxSteps := 500000) -implicitDefEqProofs only [go_sem, hd, hw] | skip) | refine vzt ?_ | refine vzf ?_ | refine vsb ?_ | refine vzb ?_ | refine vzq ?_ | simp (maxSteps := 500000) -implicitDefEqProofs only [go_sem, hw])
         refine ⟨i + 1, by dsimp only; omega, ⟨by omega, ?_, ?_, ?_, ?_, ?_⟩, ?_⟩
         ·simp (maxSteps := 500000) -implicitDefEqProofs only [go_sem, g0, nz1, nz2]
         ·simp (maxSteps := 500000) -implicitDefEqProofs only [go_sem, gq, no1, no2]
         ·simp (maxSteps := 500000) -implicitDefEqProofs only [go_sem, gp, np1, np2]
         ·rw [mix_keep hx hs1]; simp (maxSteps := 500000) -implicitDefEqProofs only [go_sem, g1, ne, ne', t1, t2, List.map_set, iA]
         ·rw [mix_keep hy hs2]; simp (maxSteps := 500000) -implicitDefEqProofs only [go_sem, g2, ne, ne', t1, t2, List.map_set, iA]
         ·(repeat' (first | exact trivial | refine ⟨rfl, ?_⟩))
      ·obtain rfl : i = k.length := by omega
       have h1t : 1 < τ.next := AStore.lt_of_get gq
       (repeat' first | ((first | refine vy1 ?_ ?_ | refine vy2 ?_ ?_ | refine vy3 ?_ ?_) <;> rintro ⟨hd, hq⟩ <;> first | (exfalso; omega) | simp (maxSteps := 500000) -implicitDefEqProofs only [go_sem, hd, gp, gq, h1t] | skip) | refine vzt ?_ | refine vzf ?_ | refine vsb ?_ | refine vzb ?_ | refine vzq ?_ | simp (maxSteps := 500000) -implicitDefEqProofs only [go_sem, gp, gq, h1t])
       have hfz : Two 2 (τ.set 1 (.cells 2 [.agg [.slice b1 0 k.length, .slice b2 0 k.length]])) b1 b2 (lats (nxL k l r) true l) (lats (nxR k l r) true r) := ⟨ne, m1, m2, by rw [AStore.get_set, if_neg (by omega)]; simp only [lats, if_true, e1]; exact g1, by rw [AStore.get_set, if_neg (by omega)]; simp only [lats, if_true, e2]; exact g2⟩
       have hfz := hfz.frz (n1 := k.length) (n2 := k.length) (by rw [lats_len, e1]) (by rw [lats_len, e2]) 2
       simp only [rgA] at hfz
       exact ⟨_, _, rfl, by rw [frz_tuple, mapO_cons', mapO_cons', mapO_cons', mapO_nil', hfz]; rfl, _, _, rfl, .inr ⟨false, rfl⟩, .inr ⟨false, rfl⟩⟩
     | true =>
      (repeat' first | ((first | refine vy1 ?_ ?_ | refine vy2 ?_ ?_ | refine vy3 ?_ ?_) <;> rintro ⟨hd, hq⟩ <;> first | (exfalso; omega) | simp (maxSteps := 500000) -implicitDefEqProofs only [go_sem, hd, hWv] | skip) | refine vzt ?_ | refine vzf ?_ | refine vsb ?_ | refine vzb ?_ | refine vzq ?_ | simp (maxSteps := 500000) -implicitDefEqProofs only [go_sem, hWv])
      (first | refine Z_block_loop (ι := Nat) (fun i => [(0, K), (3, .ptr 0 0 0), (4, .ptr 1 0 0), (5, (AVal.sc (Value.bool (false)))), (6, (AVal.sc (Value.int IntKind.i64 (0)))), (7, .ptr p 0 0), (9, (AVal.sc (Value.bool (true)))), (10, (AVal.sc (Value.bool (fTo k l r k.length)))), (12, (AVal.sc (Value.int IntKind.i64 (i))))]) (fun i σ' => i ≤ k.length ∧ σ'.get 0 = some (.cells 2 [.agg [W, R]]) ∧ σ'.get 1 = some (.cells 2 [.agg [(AVal.sc (Value.slice none 0 0)), (AVal.sc (Value.slice none 0 0))]]) ∧ σ'.get p = some (.cells 2 [.agg [.slice b1 0 k.length, .slice b2 0 k.length]]) ∧ σ'.get b1 = some (.cells 1 ((mixL (nxL k l r) l i).map iA)) ∧ σ'.get b2 = some (.cells 1 ((mixL (nxR k l r) r i).map iA))) (fun i => k.length - i) (fun _ => rfl) 0 ?_ ?_ ?_ | refine Z_seq_loop (ι := Nat) (fun i => [(0, K), (3, .ptr 0 0 0), (4, .ptr 1 0 0), (5, (AVal.sc (Value.bool (false)))), (6, (AVal.sc (Value.int IntKind.i64 (0)))), (7, .ptr p 0 0), (9, (AVal.sc (Value.bool (true)))), (10, (AVal.sc (Value.bool (fTo k l r k.length)))), (12, (AVal.sc (Value.int IntKind.i64 (i))))]) (fun i σ' => i ≤ k.length ∧ σ'.get 0 = some (.cells 2 [.agg [W, R]]) ∧ σ'.get 1 = some (.cells 2 [.agg [(AVal.sc (Value.slice none 0 0)), (AVal.sc (Value.slice none 0 0))]]) ∧ σ'.get p = some (.cells 2 [.agg [.slice b1 0 k.length, .slice b2 0 k.length]]) ∧ σ'.get b1 = some (.cells 1 ((mixL (nxL k l r) l i).map iA)) ∧ σ'.get b2 = some (.cells 1 ((mixL (nxR k l r) r i).map iA))) (fun i => k.length - i) (fun _ => rfl) 0 ?_ ?_ ?_ | refine Z_loop (ι := Nat) (fun i => [(0, K), (3, .ptr 0 0 0), (4, .ptr 1 0 0), (5, (AVal.sc (Value.bool (false)))), (6, (AVal.sc (Value.int IntKind.i64 (0)))), (7, .ptr p 0 0), (9, (AVal.sc (Value.bool (true)))), (10, (AVal.sc (Value.bool (fTo k l r k.length)))), (12, (AVal.sc (Value.int IntKind.i64 (i))))]) (fun i σ' => i ≤ k.length ∧ σ'.get 0 = some (.cells 2 [.agg [W, R]]) ∧ σ'.get 1 = some (.cells 2 [.agg [(AVal.sc (Value.slice none 0 0)), (AVal.sc (Value.slice none 0 0))]]) ∧ σ'.get p = some (.cells 2 [.agg [.slice b1 0 k.length, .slice b2 0 k.length]]) ∧ σ'.get b1 = some (.cells 1 ((mixL (nxL k l r) l i).map iA)) ∧ σ'.get b2 = some (.cells 1 ((mixL (nxR k l r) r i).map iA))) (fun i => k.length - i) (fun _ => rfl) 0 ?_ ?_ ?_)
      ·(repeat' (first | exact trivial | refine ⟨rfl, ?_⟩))
      ·exact ⟨Nat.zero_le _, g0, gq, gp, by rw [mix_zero]; exact g1, by rw [mix_zero]; exact g2⟩
      clear g1 g2 gp gq g0 hpt h1t hi
      rintro i τ ⟨hi, g0, gq, gp, g1, g2⟩
      have t1 := AStore.lt_of_get g1
      have t2 := AStore.lt_of_get g2
      simp (maxSteps := 500000) -implicitDefEqProofs only [go_sem, hK.len]
      ((first | refine vz2 ?_ ?_ | refine vz3 ?_ ?_) <;> intro h2)
      ·obtain ⟨c, x, y, hc1, hx, hy, c1, c2, x1, x2, y1, y2⟩ := hf.b i (by omega)
       have hc' : (k.map iA)[i]? = some (iA c) := by simp [hc1]
       have hx' : (l.map iA)[i]? = some (iA x) := by simp [hx]
       have hy' : (r.map iA)[i]? = some (iA y) := by simp [hy]
       have hx'' : ((mixL (nxL k l r) l i).map iA)[i]? = some (iA x) := by rw [List.getElem?_map, mix_get, hx]; rfl
       have hy'' : ((mixL (nxR k l r) r i).map iA)[i]? = some (iA y) := by rw [List.getElem?_map, mix_get, hy]; rfl
       have hw := wrapS (i := i) (by omega)
       have hpn := pn i c x y hc1 hx hy
       have hwx : IntKind.i64.wrap (x + 1) = x + 1 := wrap64 (by omega) (by omega)
       have hwy : IntKind.i64.wrap (y + 1) = y + 1 := wrap64 (by omega) (by omega)
       have hwc : IntKind.i64.wrap (c + 1) = c + 1 := wrap64 (by omega) (by omega)
       have hix : (0 : Int) ≤ i ∧ (i : Int) < (k.length : Int) := ⟨by omega, by omega⟩
       have u1 : nxL k l r i = (stepV true (fTo k l r k.length) (topR r) c x y).1 := by unfold nxL; rw [at_of hc1, at_of hx, at_of hy, hWv]
       have u2 : nxR k l r i = (stepV true (fTo k l r k.length) (topR r) c x y).2 := by unfold nxR; rw [at_of hc1, at_of hx, at_of hy, hWv]
       have tC := topC (w := w) (l := l) hW hR (by omega)
       generalize fTo k l r k.length = F at u1 u2 ⊢
       (repeat' first | ((first | refine vy1 ?_ ?_ | refine vy2 ?_ ?_ | refine vy3 ?_ ?_) <;> rintro ⟨hd, hq⟩ <;> first | (exfalso; omega) | simp (maxSteps := 500000) -implicitDefEqProofs only [go_sem, hd, g0] | skip) | refine vzt ?_ | refine vzf ?_ | refine vsb ?_ | refine vzb ?_ | refine vzq ?_ | simp (maxSteps := 500000) -implicitDefEqProofs only [go_sem, g0])
       refine (beyondC hK hW hR hc1 hx (by omega) (by omega)).use ?_
       by_cases a1 : x = c + 1
       ·have a1' : c < x := by omega
        have hs1 : x = nxL k l r i := by rw [u1]; simp [stepV, a1']
        have hs2 : y = nxR k l r i := by rw [u2]; simp [stepV, a1']
        rw [dct a1]
        (repeat' first | ((first | refine vy1 ?_ ?_ | refine vy2 ?_ ?_ | refine vy3 ?_ ?_) <;> rintro ⟨hd, hq⟩ <;> first | (exfalso; omega) | simp (maxSteps := 500000) -implicitDefEqProofs only [go_sem, hd, hw] | skip) | refine vzt ?_ | refine vzf ?_ | refine vsb ?_ | refine vzb ?_ | refine vzq ?_ | simp (maxSteps := 500000) -implicitDefEqProofs only [go_sem, hw])
        refine ⟨i + 1, by dsimp only; omega, ⟨by omega, ?_, ?_, ?_, ?_, ?_⟩, ?_⟩
        ·simp (maxSteps := 500000) -implicitDefEqProofs only [go_sem, g0, nz1, nz2]
        ·simp (maxSteps := 500000) -implicitDefEqProofs only [go_sem, gq, no1, no2]
        ·simp (maxSteps := 500000) -implicitDefEqProofs only [go_sem, gp, np1, np2]
        ·rw [mix_keep hx hs1]; simp (maxSteps := 500000) -implicitDefEqProofs only [go_sem, g1, ne, ne', t1, t2, List.map_set, iA]
        ·rw [mix_keep hy hs2]; simp (maxSteps := 500000) -implicitDefEqProofs only [go_sem, g2, ne, ne', t1, t2, List.map_set, iA]
        ·(repeat' (first | exact trivial | refine ⟨rfl, ?_⟩))
       ·have a1' : ¬ c < x := by omega
        rw [dcf a1]
        by_cases a2 : y = 0
        ·subst a2
         by_cases a3 : x = c
         ·subst a3
          have hs1 : (x + 1) = nxL k l r i := by rw [u1]; simp [stepV]
          have hs2 : 0 = nxR k l r i := by rw [u2]; simp [stepV]
          have a4 : ¬ x < x := by omega
          (repeat' first | ((first | refine vy1 ?_ ?_ | refine vy2 ?_ ?_ | refine vy3 ?_ ?_) <;> rintro ⟨hd, hq⟩ <;> first | (exfalso; omega) | simp (maxSteps := 500000) -implicitDefEqProofs only [go_sem, hd, g0, gp, g1, g2, np1, np2, nz1, nz2, ne, ne', t1, t2, hK.idx hc', hW.idx hx', hR.idx hy', hx'', hy'', hix, iA, hw, hwx, hwy, hwc] | skip) | refine vzt ?_ | refine vzf ?_ | refine vsb ?_ | refine vzb ?_ | refine vzq ?_ | simp (maxSteps := 500000) -implicitDefEqProofs only [go_sem, g0, gp, g1, g2, np1, np2, nz1, nz2, ne, ne', t1, t2, hK.idx hc', hW.idx hx', hR.idx hy', hx'', hy'', hix, iA, hw, hwx, hwy, hwc])
          ((try (refine Z_seq ?_; (try simp (maxSteps := 500000) -implicitDefEqProofs only [go_sem]))); refine Z_draw (by kernel_rfl) [0, 1, 2, 3, 4, 5, 6, 7, 8, 9, 10, 11, 12, 13, 14, 15, 16, 17] [(17, 131071), (16, 65535), (15, 28799), (14, 12415), (13, 127), (12, 127), (11, 2047), (10, 1023), (9, 127), (8, 255), (7, 127), (6, 63), (5, 31), (4, 15), (3, 7), (2, 0), (1, 1), (0, 0)] (by kernel_rfl) (by kernel_rfl) ?_)
          simp (maxSteps := 500000) -implicitDefEqProofs only [go_sem, g0, gp, g1, g2, np1, np2, nz1, nz2, ne, ne', t1, t2, hK.idx hc', hW.idx hx', hR.idx hy', hx'', hy'', hix, iA, hw, hwx, hwy, hwc, dcf a4]
          (repeat' first | ((first | refine vy1 ?_ ?_ | refine vy2 ?_ ?_ | refine vy3 ?_ ?_) <;> rintro ⟨hd, hq⟩ <;> first | (exfalso; omega) | simp (maxSteps := 500000) -implicitDefEqProofs only [go_sem, hd, g0, gp, g1, g2, np1, np2, nz1, nz2, ne, ne', t1, t2, hK.idx hc', hW.idx hx', hR.idx hy', hx'', hy'', hix, iA, hw, hwx, hwy, hwc, dcf a4] | skip) | refine vzt ?_ | refine vzf ?_ | refine vsb ?_ | refine vzb ?_ | refine vzq ?_ | simp (maxSteps := 500000) -implicitDefEqProofs only [go_sem, g0, gp, g1, g2, np1, np2, nz1, nz2, ne, ne', t1, t2, hK.idx hc', hW.idx hx', hR.idx hy', hx'', hy'', hix, iA, hw, hwx, hwy, hwc, dcf a4])
          ((try (refine Z_seq ?_; (try simp (maxSteps := 500000) -implicitDefEqProofs only [go_sem]))); refine Z_draw (by kernel_rfl) [0, 1, 2, 3, 4, 5, 6, 7, 8, 9] [(9, 511), (8, 255), (7, 120), (6, 56), (5, 24), (4, 0), (3, 0), (2, 0), (1, 1), (0, 0)] (by kernel_rfl) (by kernel_rfl) ?_)
          simp (maxSteps := 500000) -implicitDefEqProofs only [go_sem, g0, gp, g1, g2, np1, np2, nz1, nz2, ne, ne', t1, t2, hK.idx hc', hW.idx hx', hR.idx hy', hx'', hy'', hix, iA, hw, hwx, hwy, hwc, dcf a4]
          (repeat' first | ((first | refine vy1 ?_ ?_ | refine vy2 ?_ ?_ | refine vy3 ?_ ?_) <;> rintro ⟨hd, hq⟩ <;> first | (exfalso; omega) | simp (maxSteps := 500000) -implicitDefEqProofs only [go_sem, hd, g0, gp, g1, g2, np1, np2, nz1, nz2, ne, ne', t1, t2, hK.idx hc', hW.idx hx', hR.idx hy', hx'', hy'', hix, iA, hw, hwx, hwy, hwc, dcf a4] | skip) | refine vzt ?_ | refine vzf ?_ | refine vsb ?_ | refine vzb ?_ | refine vzq ?_ | simp (maxSteps := 500000) -implicitDefEqProofs only [go_sem, g0, gp, g1, g2, np1, np2, nz1, nz2, ne, ne', t1, t2, hK.idx hc', hW.idx hx', hR.idx hy', hx'', hy'', hix, iA, hw, hwx, hwy, hwc, dcf a4])
          ((try (refine Z_seq ?_; (try simp (maxSteps := 500000) -implicitDefEqProofs only [go_sem]))); refine Z_draw (by kernel_rfl) [0, 1, 2, 3, 4, 5, 6, 7, 8, 9, 10, 11, 12, 13, 14, 15, 16, 17] [(17, 131071), (16, 65535), (15, 28799), (14, 12415), (13, 127), (12, 127), (11, 2047), (10, 1023), (9, 127), (8, 255), (7, 127), (6, 63), (5, 31), (4, 15), (3, 7), (2, 0), (1, 1), (0, 0)] (by kernel_rfl) (by kernel_rfl) ?_)
          simp (maxSteps := 500000) -implicitDefEqProofs only [go_sem, g0, gp, g1, g2, np1, np2, nz1, nz2, ne, ne', t1, t2, hK.idx hc', hW.idx hx', hR.idx hy', hx'', hy'', hix, iA, hw, hwx, hwy, hwc, dcf a4]
          (repeat' first | ((first | refine vy1 ?_ ?_ | refine vy2 ?_ ?_ | refine vy3 ?_ ?_) <;> rintro ⟨hd, hq⟩ <;> first | (exfalso; omega) | simp (maxSteps := 500000) -implicitDefEqProofs only [go_sem, hd, g0, gp, g1, g2, np1, np2, nz1, nz2, ne, ne', t1, t2, hK.idx hc', hW.idx hx', hR.idx hy', hx'', hy'', hix, iA, hw, hwx, hwy, hwc, dcf a4] | skip) | refine vzt ?_ | refine vzf ?_ | refine vsb ?_ | refine vzb ?_ | refine vzq ?_ | simp (maxSteps := 500000) -implicitDefEqProofs only [go_sem, g0, gp, g1, g2, np1, np2, nz1, nz2, ne, ne', t1, t2, hK.idx hc', hW.idx hx', hR.idx hy', hx'', hy'', hix, iA, hw, hwx, hwy, hwc, dcf a4])
          refine ⟨i + 1, by dsimp only; omega, ⟨by omega, ?_, ?_, ?_, ?_, ?_⟩, ?_⟩
          ·simp (maxSteps := 500000) -implicitDefEqProofs only [go_sem, g0, nz1, nz2]
          ·simp (maxSteps := 500000) -implicitDefEqProofs only [go_sem, gq, no1, no2]
          ·simp (maxSteps := 500000) -implicitDefEqProofs only [go_sem, gp, np1, np2]
          ·rw [← mix_set (x := (x + 1)) (by omega) hs1]; simp (maxSteps := 500000) -implicitDefEqProofs only [go_sem, g1, ne, ne', t1, t2, List.map_set, iA]
          ·rw [mix_keep hy hs2]; simp (maxSteps := 500000) -implicitDefEqProofs only [go_sem, g2, ne, ne', t1, t2, List.map_set, iA]
          ·(repeat' (first | exact trivial | refine ⟨rfl, ?_⟩))
         ·have a4 : x < c := by omega
          have hs1 : x = nxL k l r i := by rw [u1]; simp [stepV, a1', a3]
          have hs2 : 1 = nxR k l r i := by rw [u2]; simp [stepV, a1', a3]
          (repeat' first | ((first | refine vy1 ?_ ?_ | refine vy2 ?_ ?_ | refine vy3 ?_ ?_) <;> rintro ⟨hd, hq⟩ <;> first | (exfalso; omega) | simp (maxSteps := 500000) -implicitDefEqProofs only [go_sem, hd, g0, gp, g1, g2, np1, np2, nz1, nz2, ne, ne', t1, t2, hK.idx hc', hW.idx hx', hR.idx hy', hx'', hy'', hix, iA, hw, hwx, hwy, hwc] | skip) | refine vzt ?_ | refine vzf ?_ | refine vsb ?_ | refine vzb ?_ | refine vzq ?_ | simp (maxSteps := 500000) -implicitDefEqProofs only [go_sem, g0, gp, g1, g2, np1, np2, nz1, nz2, ne, ne', t1, t2, hK.idx hc', hW.idx hx', hR.idx hy', hx'', hy'', hix, iA, hw, hwx, hwy, hwc])
          ((try (refine Z_seq ?_; (try simp (maxSteps := 500000) -implicitDefEqProofs only [go_sem]))); refine Z_draw (by kernel_rfl) [0, 1, 2, 3, 4, 5, 6, 7, 8, 9, 10, 11, 12, 13, 14, 15, 16, 17] [(17, 131071), (16, 65535), (15, 28799), (14, 12415), (13, 127), (12, 127), (11, 2047), (10, 1023), (9, 127), (8, 255), (7, 127), (6, 63), (5, 31), (4, 15), (3, 7), (2, 0), (1, 1), (0, 0)] (by kernel_rfl) (by kernel_rfl) ?_)
          simp (maxSteps := 500000) -implicitDefEqProofs only [go_sem, g0, gp, g1, g2, np1, np2, nz1, nz2, ne, ne', t1, t2, hK.idx hc', hW.idx hx', hR.idx hy', hx'', hy'', hix, iA, hw, hwx, hwy, hwc, dcf a3, dct a4]
          (repeat' first | ((first | refine vy1 ?_ ?_ | refine vy2 ?_ ?_ | refine vy3 ?_ ?_) <;> rintro ⟨hd, hq⟩ <;> first | (exfalso; omega) | simp (maxSteps := 500000) -implicitDefEqProofs only [go_sem, hd, g0, gp, g1, g2, np1, np2, nz1, nz2, ne, ne', t1, t2, hK.idx hc', hW.idx hx', hR.idx hy', hx'', hy'', hix, iA, hw, hwx, hwy, hwc, dcf a3, dct a4] | skip) | refine vzt ?_ | refine vzf ?_ | refine vsb ?_ | refine vzb ?_ | refine vzq ?_ | simp (maxSteps := 500000) -implicitDefEqProofs only [go_sem, g0, gp, g1, g2, np1, np2, nz1, nz2, ne, ne', t1, t2, hK.idx hc', hW.idx hx', hR.idx hy', hx'', hy'', hix, iA, hw, hwx, hwy, hwc, dcf a3, dct a4])
          ((try (refine Z_seq ?_; (try simp (maxSteps := 500000) -implicitDefEqProofs only [go_sem]))); refine Z_draw (by kernel_rfl) [0, 1, 2, 3, 4, 5, 6, 7, 8, 9, 10, 11, 12, 13, 14, 15, 16, 17] [(17, 131071), (16, 65535), (15, 28799), (14, 12415), (13, 127), (12, 127), (11, 2047), (10, 1023), (9, 127), (8, 255), (7, 127), (6, 63), (5, 31), (4, 15), (3, 7), (2, 0), (1, 1), (0, 0)] (by kernel_rfl) (by kernel_rfl) ?_)
          simp (maxSteps := 500000) -implicitDefEqProofs only [go_sem, g0, gp, g1, g2, np1, np2, nz1, nz2, ne, ne', t1, t2, hK.idx hc', hW.idx hx', hR.idx hy', hx'', hy'', hix, iA, hw, hwx, hwy, hwc, dcf a3, dct a4]
          (repeat' first | ((first | refine vy1 ?_ ?_ | refine vy2 ?_ ?_ | refine vy3 ?_ ?_) <;> rintro ⟨hd, hq⟩ <;> first | (exfalso; omega) | simp (maxSteps := 500000) -implicitDefEqProofs only [go_sem, hd, g0, gp, g1, g2, np1, np2, nz1, nz2, ne, ne', t1, t2, hK.idx hc', hW.idx hx', hR.idx hy', hx'', hy'', hix, iA, hw, hwx, hwy, hwc, dcf a3, dct a4] | skip) | refine vzt ?_ | refine vzf ?_ | refine vsb ?_ | refine vzb ?_ | refine vzq ?_ | simp (maxSteps := 500000) -implicitDefEqProofs only [go_sem, g0, gp, g1, g2, np1, np2, nz1, nz2, ne, ne', t1, t2, hK.idx hc', hW.idx hx', hR.idx hy', hx'', hy'', hix, iA, hw, hwx, hwy, hwc, dcf a3, dct a4])
          refine ⟨i + 1, by dsimp only; omega, ⟨by omega, ?_, ?_, ?_, ?_, ?_⟩, ?_⟩
          ·simp (maxSteps := 500000) -implicitDefEqProofs only [go_sem, g0, nz1, nz2]
          ·simp (maxSteps := 500000) -implicitDefEqProofs only [go_sem, gq, no1, no2]
          ·simp (maxSteps := 500000) -implicitDefEqProofs only [go_sem, gp, np1, np2]
          ·rw [mix_keep hx hs1]; simp (maxSteps := 500000) -implicitDefEqProofs only [go_sem, g1, ne, ne', t1, t2, List.map_set, iA]
          ·rw [← mix_set (x := 1) (by omega) hs2]; simp (maxSteps := 500000) -implicitDefEqProofs only [go_sem, g2, ne, ne', t1, t2, List.map_set, iA]
          ·(repeat' (first | exact trivial | refine ⟨rfl, ?_⟩))
        ·have a4 : 0 < y := by omega
         cases F
         ·have hs1 : x = nxL k l r i := by rw [u1]; simp [stepV, a1', a2, a4]
          have hs2 : y = nxR k l r i := by rw [u2]; simp [stepV, a1', a2, a4]
          (repeat' first | ((first | refine vy1 ?_ ?_ | refine vy2 ?_ ?_ | refine vy3 ?_ ?_) <;> rintro ⟨hd, hq⟩ <;> first | (exfalso; omega) | simp (maxSteps := 500000) -implicitDefEqProofs only [go_sem, hd, g0, gp, g1, g2, np1, np2, nz1, nz2, ne, ne', t1, t2, hK.idx hc', hW.idx hx', hR.idx hy', hx'', hy'', hix, iA, hw, hwx, hwy, hwc, dct a4] | skip) | refine vzt ?_ | refine vzf ?_ | refine vsb ?_ | refine vzb ?_ | refine vzq ?_ | simp (maxSteps := 500000) -implicitDefEqProofs only [go_sem, g0, gp, g1, g2, np1, np2, nz1, nz2, ne, ne', t1, t2, hK.idx hc', hW.idx hx', hR.idx hy', hx'', hy'', hix, iA, hw, hwx, hwy, hwc, dct a4])
          ((try (refine Z_seq ?_; (try simp (maxSteps := 500000) -implicitDefEqProofs only [go_sem]))); refine Z_draw (by kernel_rfl) [0, 1, 2, 3, 4, 5, 6, 7, 8, 9, 10, 11, 12, 13, 14, 15, 16, 17] [(17, 131071), (16, 65535), (15, 28799), (14, 12415), (13, 127), (12, 127), (11, 2047), (10, 1023), (9, 127), (8, 255), (7, 127), (6, 63), (5, 31), (4, 15), (3, 7), (2, 0), (1, 1), (0, 0)] (by kernel_rfl) (by kernel_rfl) ?_)
          simp (maxSteps := 500000) -implicitDefEqProofs only [go_sem, g0, gp, g1, g2, np1, np2, nz1, nz2, ne, ne', t1, t2, hK.idx hc', hW.idx hx', hR.idx hy', hx'', hy'', hix, iA, hw, hwx, hwy, hwc, dcf a2]
          (repeat' first | ((first | refine vy1 ?_ ?_ | refine vy2 ?_ ?_ | refine vy3 ?_ ?_) <;> rintro ⟨hd, hq⟩ <;> first | (exfalso; omega) | simp (maxSteps := 500000) -implicitDefEqProofs only [go_sem, hd, g0, gp, g1, g2, np1, np2, nz1, nz2, ne, ne', t1, t2, hK.idx hc', hW.idx hx', hR.idx hy', hx'', hy'', hix, iA, hw, hwx, hwy, hwc, dcf a2] | skip) | refine vzt ?_ | refine vzf ?_ | refine vsb ?_ | refine vzb ?_ | refine vzq ?_ | simp (maxSteps := 500000) -implicitDefEqProofs only [go_sem, g0, gp, g1, g2, np1, np2, nz1, nz2, ne, ne', t1, t2, hK.idx hc', hW.idx hx', hR.idx hy', hx'', hy'', hix, iA, hw, hwx, hwy, hwc, dcf a2])
          ((try (refine Z_seq ?_; (try simp (maxSteps := 500000) -implicitDefEqProofs only [go_sem]))); refine Z_draw (by kernel_rfl) [0, 1, 2, 3, 4, 5, 6, 7, 8, 9, 10, 11, 12, 13, 14, 15, 16, 17] [(17, 131071), (16, 65535), (15, 28799), (14, 12415), (13, 127), (12, 127), (11, 2047), (10, 1023), (9, 127), (8, 255), (7, 127), (6, 63), (5, 31), (4, 15), (3, 7), (2, 0), (1, 1), (0, 0)] (by kernel_rfl) (by kernel_rfl) ?_)
          simp (maxSteps := 500000) -implicitDefEqProofs only [go_sem, g0, gp, g1, g2, np1, np2, nz1, nz2, ne, ne', t1, t2, hK.idx hc', hW.idx hx', hR.idx hy', hx'', hy'', hix, iA, hw, hwx, hwy, hwc, dcf a2]
          (repeat' first | ((first | refine vy1 ?_ ?_ | refine vy2 ?_ ?_ | refine vy3 ?_ ?_) <;> rintro ⟨hd, hq⟩ <;> first | (exfalso; omega) | simp (maxSteps := 500000) -implicitDefEqProofs only [go_sem, hd, g0, gp, g1, g2, np1, np2, nz1, nz2, ne, ne', t1, t2, hK.idx hc', hW.idx hx', hR.idx hy', hx'', hy'', hix, iA, hw, hwx, hwy, hwc, dcf a2] | skip) | refine vzt ?_ | refine vzf ?_ | refine vsb ?_ | refine vzb ?_ | refine vzq ?_ | simp (maxSteps := 500000) -implicitDefEqProofs only [go_sem, g0, gp, g1, g2, np1, np2, nz1, nz2, ne, ne', t1, t2, hK.idx hc', hW.idx hx', hR.idx hy', hx'', hy'', hix, iA, hw, hwx, hwy, hwc, dcf a2])
          refine ⟨i + 1, by dsimp only; omega, ⟨by omega, ?_, ?_, ?_, ?_, ?_⟩, ?_⟩
          ·simp (maxSteps := 500000) -implicitDefEqProofs only [go_sem, g0, nz1, nz2]
          ·simp (maxSteps := 500000) -implicitDefEqProofs only [go_sem, gq, no1, no2]
          ·simp (maxSteps := 500000) -implicitDefEqProofs only [go_sem, gp, np1, np2]
          ·rw [mix_keep hx hs1]; simp (maxSteps := 500000) -implicitDefEqProofs only [go_sem, g1, ne, ne', t1, t2, List.map_set, iA]
          ·rw [mix_keep hy hs2]; simp (maxSteps := 500000) -implicitDefEqProofs only [go_sem, g2, ne, ne', t1, t2, List.map_set, iA]
          ·(repeat' (first | exact trivial | refine ⟨rfl, ?_⟩))
         ·have hs1 : x = nxL k l r i := by rw [u1]; simp [stepV, a1', a2, a4]
          have hs2 : (y + 1) = nxR k l r i := by rw [u2]; simp [stepV, a1', a2, a4]
          (repeat' first | ((first | refine vy1 ?_ ?_ | refine vy2 ?_ ?_ | refine vy3 ?_ ?_) <;> rintro ⟨hd, hq⟩ <;> first | (exfalso; omega) | simp (maxSteps := 500000) -implicitDefEqProofs only [go_sem, hd, g0, gp, g1, g2, np1, np2, nz1, nz2, ne, ne', t1, t2, hK.idx hc', hW.idx hx', hR.idx hy', hx'', hy'', hix, iA, hw, hwx, hwy, hwc, dct a4] | skip) | refine vzt ?_ | refine vzf ?_ | refine vsb ?_ | refine vzb ?_ | refine vzq ?_ | simp (maxSteps := 500000) -implicitDefEqProofs only [go_sem, g0, gp, g1, g2, np1, np2, nz1, nz2, ne, ne', t1, t2, hK.idx hc', hW.idx hx', hR.idx hy', hx'', hy'', hix, iA, hw, hwx, hwy, hwc, dct a4])
          ((try (refine Z_seq ?_; (try simp (maxSteps := 500000) -implicitDefEqProofs only [go_sem]))); refine Z_draw (by kernel_rfl) [0, 1, 2, 3, 4, 5, 6, 7, 8, 9, 10] [(10, 1023), (9, 511), (8, 248), (7, 120), (6, 56), (5, 0), (4, 8), (3, 0), (2, 0), (1, 1), (0, 0)] (by kernel_rfl) (by kernel_rfl) ?_)
          simp (maxSteps := 500000) -implicitDefEqProofs only [go_sem, g0, gp, g1, g2, np1, np2, nz1, nz2, ne, ne', t1, t2, hK.idx hc', hW.idx hx', hR.idx hy', hx'', hy'', hix, iA, hw, hwx, hwy, hwc]
          (repeat' first | ((first | refine vy1 ?_ ?_ | refine vy2 ?_ ?_ | refine vy3 ?_ ?_) <;> rintro ⟨hd, hq⟩ <;> first | (exfalso; omega) | simp (maxSteps := 500000) -implicitDefEqProofs only [go_sem, hd, g0, gp, g1, g2, np1, np2, nz1, nz2, ne, ne', t1, t2, hK.idx hc', hW.idx hx', hR.idx hy', hx'', hy'', hix, iA, hw, hwx, hwy, hwc] | skip) | refine vzt ?_ | refine vzf ?_ | refine vsb ?_ | refine vzb ?_ | refine vzq ?_ | simp (maxSteps := 500000) -implicitDefEqProofs only [go_sem, g0, gp, g1, g2, np1, np2, nz1, nz2, ne, ne', t1, t2, hK.idx hc', hW.idx hx', hR.idx hy', hx'', hy'', hix, iA, hw, hwx, hwy, hwc])
          ((try (refine Z_seq ?_; (try simp (maxSteps := 500000) -implicitDefEqProofs only [go_sem]))); refine Z_draw (by kernel_rfl) [0, 1, 2, 3, 4, 5, 6, 7, 8, 9, 10, 11, 12, 13, 14, 15, 16, 17] [(17, 131071), (16, 65535), (15, 28799), (14, 12415), (13, 127), (12, 127), (11, 2047), (10, 1023), (9, 127), (8, 255), (7, 127), (6, 63), (5, 31), (4, 15), (3, 7), (2, 0), (1, 1), (0, 0)] (by kernel_rfl) (by kernel_rfl) ?_)
          simp (maxSteps := 500000) -implicitDefEqProofs only [go_sem, g0, gp, g1, g2, np1, np2, nz1, nz2, ne, ne', t1, t2, hK.idx hc', hW.idx hx', hR.idx hy', hx'', hy'', hix, iA, hw, hwx, hwy, hwc, dcf a2]
          (repeat' first | ((first | refine vy1 ?_ ?_ | refine vy2 ?_ ?_ | refine vy3 ?_ ?_) <;> rintro ⟨hd, hq⟩ <;> first | (exfalso; omega) | simp (maxSteps := 500000) -implicitDefEqProofs only [go_sem, hd, g0, gp, g1, g2, np1, np2, nz1, nz2, ne, ne', t1, t2, hK.idx hc', hW.idx hx', hR.idx hy', hx'', hy'', hix, iA, hw, hwx, hwy, hwc, dcf a2] | skip) | refine vzt ?_ | refine vzf ?_ | refine vsb ?_ | refine vzb ?_ | refine vzq ?_ | simp (maxSteps := 500000) -implicitDefEqProofs only [go_sem, g0, gp, g1, g2, np1, np2, nz1, nz2, ne, ne', t1, t2, hK.idx hc', hW.idx hx', hR.idx hy', hx'', hy'', hix, iA, hw, hwx, hwy, hwc, dcf a2])
          ((try (refine Z_seq ?_; (try simp (maxSteps := 500000) -implicitDefEqProofs only [go_sem]))); refine Z_draw (by kernel_rfl) [0, 1, 2, 3, 4, 5, 6, 7, 8, 9, 10, 11, 12, 13, 14, 15, 16, 17] [(17, 131071), (16, 65535), (15, 28799), (14, 12415), (13, 127), (12, 127), (11, 2047), (10, 1023), (9, 127), (8, 255), (7, 127), (6, 63), (5, 31), (4, 15), (3, 7), (2, 0), (1, 1), (0, 0)] (by kernel_rfl) (by kernel_rfl) ?_)
          simp (maxSteps := 500000) -implicitDefEqProofs only [go_sem, g0, gp, g1, g2, np1, np2, nz1, nz2, ne, ne', t1, t2, hK.idx hc', hW.idx hx', hR.idx hy', hx'', hy'', hix, iA, hw, hwx, hwy, hwc, dcf a2]
          (repeat' first | ((first | refine vy1 ?_ ?_ | refine vy2 ?_ ?_ | refine vy3 ?_ ?_) <;> rintro ⟨hd, hq⟩ <;> first | (exfalso; omega) | simp (maxSteps := 500000) -implicitDefEqProofs only [go_sem, hd, g0, gp, g1, g2, np1, np2, nz1, nz2, ne, ne', t1, t2, hK.idx hc', hW.idx hx', hR.idx hy', hx'', hy'', hix, iA, hw, hwx, hwy, hwc, dcf a2] | skip) | refine vzt ?_ | refine vzf ?_ | refine vsb ?_ | refine vzb ?_ | refine vzq ?_ | simp (maxSteps := 500000) -implicitDefEqProofs only [go_sem, g0, gp, g1, g2, np1, np2, nz1, nz2, ne, ne', t1, t2, hK.idx hc', hW.idx hx', hR.idx hy', hx'', hy'', hix, iA, hw, hwx, hwy, hwc, dcf a2])
          refine ⟨i + 1, by dsimp only; omega, ⟨by omega, ?_, ?_, ?_, ?_, ?_⟩, ?_⟩
          ·simp (maxSteps := 500000) -implicitDefEqProofs only [go_sem, g0, nz1, nz2]
          ·simp (maxSteps := 500000) -implicitDefEqProofs only [go_sem, gq, no1, no2]
          ·simp (maxSteps := 500000) -implicitDefEqProofs only [go_sem, gp, np1, np2]
          ·rw [mix_keep hx hs1]; simp (maxSteps := 500000) -implicitDefEqProofs only [go_sem, g1, ne, ne', t1, t2, List.map_set, iA]
          ·rw [← mix_set (x := (y + 1)) (by omega) hs2]; simp (maxSteps := 500000) -implicitDefEqProofs only [go_sem, g2, ne, ne', t1, t2, List.map_set, iA]
          ·(repeat' (first | exact trivial | refine ⟨rfl, ?_⟩))
      ·obtain rfl : i = k.length := by omega
       have h1t : 1 < τ.next := AStore.lt_of_get gq
       (repeat' first | ((first | refine vy1 ?_ ?_ | refine vy2 ?_ ?_ | refine vy3 ?_ ?_) <;> rintro ⟨hd, hq⟩ <;> first | (exfalso; omega) | simp (maxSteps := 500000) -implicitDefEqProofs only [go_sem, hd, gp, gq, h1t] | skip) | refine vzt ?_ | refine vzf ?_ | refine vsb ?_ | refine vzb ?_ | refine vzq ?_ | simp (maxSteps := 500000) -implicitDefEqProofs only [go_sem, gp, gq, h1t])
       have hfz : Two 2 (τ.set 1 (.cells 2 [.agg [.slice b1 0 k.length, .slice b2 0 k.length]])) b1 b2 (lats (nxL k l r) true l) (lats (nxR k l r) true r) := ⟨ne, m1, m2, by rw [AStore.get_set, if_neg (by omega)]; simp only [lats, if_true, e1]; exact g1, by rw [AStore.get_set, if_neg (by omega)]; simp only [lats, if_true, e2]; exact g2⟩
       have hfz := hfz.frz (n1 := k.length) (n2 := k.length) (by rw [lats_len, e1]) (by rw [lats_len, e2]) 2
       simp only [rgA] at hfz
       exact ⟨_, _, rfl, by rw [frz_tuple, mapO_cons', mapO_cons', mapO_cons', mapO_nil', hfz]; rfl, _, _, rfl, .inr ⟨false, rfl⟩, .inr ⟨false, rfl⟩⟩
end Abs
